/-
  A region that draws its order and whose last operation, number z, stores where the region itself has read: a read may be taken first if z waits for it; behind z nothing is asked of the world. No condition.
-/
import Derived.OrdersHeld
import Derived.Deep.RegionHeld3
namespace Go.Proofs.Ytibfihjcjohadaa
open Go
section
variable {P : Program} {ops : Array Oper} {Q : Exit → Act → World → Prop} {md : Region.Mode} {S T : World → Prop} {z y : Nat}
/-- Has z come up? -/
def behind (z : Nat) (listed : Array Bool) : Prop := listed.getD z true = true
/-- S holds till z has come up, T till y has. -/
def Till (S T : World → Prop) (z y : Nat) (listed : Array Bool) (w : World) : Prop := (behind z listed ∨ S w) ∧ (behind y listed ∨ T w)
/-- Whatever order is picked, S holds till z has come up, T till y has. -/
def wpAnyZ (P : Program) (md : Region.Mode) (ops : Array Oper) (Q : Exit → Act → World → Prop) (S T : World → Prop) (z y : Nat) : Nat → Array Bool → Act → World → Prop
  | 0, listed, a, w => Region.ready md ops listed = [] ∧ Q .normal a w
  | n + 1, listed, a, w =>
    (Region.ready md ops listed = [] → Q .normal a w) ∧
    ∀ j ∈ Region.ready md ops listed, wpOp P ops Q j (fun a' w' => Till S T z y (listed.setIfInBounds j true) w' ∧ wpAnyZ P md ops Q S T z y n (listed.setIfInBounds j true) a' w') a w
theorem wpAny_of_Z : ∀ (n : Nat) (listed : Array Bool) (a : Act) (w : World), wpAnyZ P md ops Q S T z y n listed a w → wpAny P md ops Q n listed a w
  | 0, _, _, _, h => h
  | n + 1, _, _, _, h => ⟨h.1, fun j hj => wpOp_mono (fun a' w' h' => wpAny_of_Z n _ a' w' h'.2) (h.2 j hj)⟩
/-- Does z wait for i? -/
def waitsB (md : Region.Mode) (ops : Array Oper) (z i : Nat) : Bool :=
  match ops[z]? with
  | some oz => oz.after.any fun e => Region.binds md e && e.on == i
  | none => false
/-- does j wait for i, if it does then not before it -/
theorem waits_not {i j : Nat} {oj : Oper} (hoj : ops[j]? = some oj) (hno : ∀ e ∈ oj.after, Region.binds md e = true → e.on ≠ i) (hz : waitsB md ops z i = true) : j ≠ z := by
  rintro rfl
  unfold waitsB at hz
  rw [hoj] at hz
  obtain ⟨e, he, hb⟩ := Array.any_eq_true'.1 hz
  simp only [Bool.and_eq_true, beq_iff_eq] at hb
  exact hno e he hb.1 hb.2
theorem not_waiting {listed : Array Bool} {i : Nat} {oj : Oper} (hi : i ∈ Region.ready md ops listed) (hall : ∀ e ∈ oj.after, Region.binds md e = true → listed.getD e.on false = true) :
    ∀ e ∈ oj.after, Region.binds md e = true → e.on ≠ i := by
  intro e he hb heq
  have h1 := hall e he hb
  have h0 := (mem_ready.1 hi).1
  rw [heq] at h1
  by_cases h' : i < listed.size
  · simp only [Array.getD_eq_getD_getElem?, Array.getElem?_eq_getElem h', Option.getD_some] at h0 h1
    rw [h0] at h1; cases h1
  · simp only [Array.getD_eq_getD_getElem?, Array.getElem?_eq_none (Nat.not_lt.1 h'), Option.getD_none] at h0
    cases h0
theorem behind_set {listed : Array Bool} {i : Nat} (h : behind z listed) : behind z (listed.setIfInBounds i true) := by
  unfold behind at h ⊢
  by_cases e : i = z
  · subst e
    by_cases h' : i < listed.size
    · simp [h']
    · simp
  · rw [getD_set_ne true e]; exact h
theorem behind_of_set {listed : Array Bool} {i : Nat} (hi : i ≠ z) (h : behind z (listed.setIfInBounds i true)) : behind z listed := by
  unfold behind at h ⊢
  rwa [getD_set_ne true hi] at h
theorem Till.set {listed : Array Bool} {i : Nat} {w : World} (h : Till S T z y listed w) : Till S T z y (listed.setIfInBounds i true) w := ⟨h.1.imp behind_set id, h.2.imp behind_set id⟩
theorem Till.of_set {listed : Array Bool} {i : Nat} {w : World} (hz : i ≠ z) (hy : i ≠ y) (h : Till S T z y (listed.setIfInBounds i true) w) : Till S T z y listed w := ⟨h.1.imp (behind_of_set hz) id, h.2.imp (behind_of_set hy) id⟩
/-- An operation that may come up, and that yields its value wherever S holds, is taken first: x, not come up yet, waits for it; or it yields in whatever world. -/
theorem wpAnyZ_first {i x : Nat} {oi : Oper} {v : Value} {Y : World → Prop} (hi : ops[i]? = some oi) (hsel : ∀ (j : Nat) (o : Oper) cs b, ops[j]? = some o → o.op ≠ .select cs b)
    (hQ : ∀ c a w, Q (.panic c) (a.put oi.dst v) w → Q (.panic c) a w) (hiz : i ≠ z) (hiy : i ≠ y) (hY : (waitsB md ops x i = true ∧ ∀ listed w, ¬ behind x listed → Till S T z y listed w → Y w) ∨ ∀ w, Y w) (n : Nat) :
    ∀ (listed : Array Bool) (a : Act) (w : World),
      (∀ j oj, ops[j]? = some oj → j ≠ i → listed.getD j true = false → (∀ e ∈ oj.after, Region.binds md e = true → e.on ≠ i) → oi.apart ops oj = true) →
      (¬ behind x listed ∨ ∀ w, Y w) → i ∈ Region.ready md ops listed → YieldsIf P ops Y oi v a → Y w → Till S T z y listed w →
      wpAnyZ P md ops Q S T z y n (listed.setIfInBounds i true) (a.put oi.dst v) w → wpAnyZ P md ops Q S T z y (n + 1) listed a w := by
  induction n with
  | zero =>
    intro listed a w _ _ hr hy hw hS H
    refine ⟨fun h => (by rw [h] at hr; cases hr), fun j hj => ?_⟩
    by_cases e : j = i
    · subst e
      exact hy.wpOp hi hw ⟨hS.set, H⟩
    · have h0 := ready_mono hj e
      rw [H.1] at h0
      cases h0
  | succ n ih =>
    intro listed a w hfree hzl hr hy hw hS H
    refine ⟨fun h => (by rw [h] at hr; cases hr), fun j hj => ?_⟩
    by_cases e : j = i
    · subst e
      exact hy.wpOp hi hw ⟨hS.set, H⟩
    · obtain ⟨hjun, oj, hoj, hall⟩ := mem_ready.1 hj
      have hnot := not_waiting hr hall
      have h2 := wpOp_putIf hoj (hfree j oj hoj e hjun hnot) (fun cs b => hsel i oi cs b hi) (fun cs b => hsel j oj cs b hoj) hQ hy (H.2 j (ready_mono hj e))
      refine wpOp_mono (fun a' w' h3 => ?_) h2
      obtain ⟨hy', hS', hrest⟩ := h3
      rw [← Array.setIfInBounds_comm _ _ e] at hS' hrest
      have hS2 : Till S T z y (listed.setIfInBounds j true) w' := hS'.of_set hiz hiy
      have hzl2 : ¬ behind x (listed.setIfInBounds j true) ∨ ∀ w, Y w := by
        rcases hY with ⟨hwait, _⟩ | h
        · rcases hzl with h | h
          · exact .inl (fun hb => h (behind_of_set (waits_not hoj hnot hwait) hb))
          · exact .inr h
        · exact .inr h
      have hYw : Y w' := by
        rcases hzl2 with hb | h
        · rcases hY with ⟨_, hSY⟩ | h
          · exact hSY _ w' hb hS2
          · exact h w'
        · exact h w'
      refine ⟨hS2, ih (listed.setIfInBounds j true) a' w' (fun k ok hk hki hun hno => hfree k ok hk hki ?_ hno) hzl2 (ready_mono hr (Ne.symm e)) hy' hYw hS2 hrest⟩
      by_cases hjk : j = k
      · subst hjk; exact hjun
      · rw [getD_set_ne true hjk] at hun; exact hun
theorem waits_self {i x : Nat} {listed : Array Bool} (hr : i ∈ Region.ready md ops listed) (hw : waitsB md ops x i = true) : i ≠ x := by
  rintro rfl
  obtain ⟨_, oj, hoj, hall⟩ := mem_ready.1 hr
  exact waits_not hoj (not_waiting hr hall) hw rfl
/-- A read that S knows of is taken first. -/
theorem wpAnyZ_take {i : Nat} {oi : Oper} {v : Value} {n : Nat} {listed : Array Bool} {a : Act} {w : World} (hi : ops[i]? = some oi)
    (hs : Region.noSelect ops = true) (hf : Region.free md ops listed i = true) (hr : (Region.ready md ops listed).contains i = true)
    (hw : (waitsB md ops z i && !(listed.getD z true) && (i != y)) = true)
    (hQ : ∀ c a w, Q (.panic c) (a.put oi.dst v) w → Q (.panic c) a w) (hy : YieldsIf P ops S oi v a) (hS : S w ∧ T w)
    (h : wpAnyZ P md ops Q S T z y n (listed.setIfInBounds i true) (a.put oi.dst v) w) : wpAnyZ P md ops Q S T z y (n + 1) listed a w := by
  simp only [Bool.and_eq_true, Bool.not_eq_true', bne_iff_ne, ne_eq] at hw
  have hr' : i ∈ Region.ready md ops listed := by simpa using hr
  have hb : ¬ behind z listed := by unfold behind; rw [hw.1.2]; simp
  exact wpAnyZ_first (x := z) hi (Region.noSelect_spec hs) hQ (waits_self hr' hw.1.1) hw.2 (.inl ⟨hw.1.1, fun _ _ hb hT => hT.1.resolve_left hb⟩) n listed a w (Region.free_spec hi hf) (.inl hb) hr' hy hS.1 ⟨.inr hS.1, .inr hS.2⟩ h
/-- A read that T knows of is taken first. -/
theorem wpAnyZ_take2 {i : Nat} {oi : Oper} {v : Value} {n : Nat} {listed : Array Bool} {a : Act} {w : World} (hi : ops[i]? = some oi)
    (hs : Region.noSelect ops = true) (hf : Region.free md ops listed i = true) (hr : (Region.ready md ops listed).contains i = true)
    (hw : (waitsB md ops y i && !(listed.getD y true) && (i != z)) = true)
    (hQ : ∀ c a w, Q (.panic c) (a.put oi.dst v) w → Q (.panic c) a w) (hy : YieldsIf P ops T oi v a) (hS : S w ∧ T w)
    (h : wpAnyZ P md ops Q S T z y n (listed.setIfInBounds i true) (a.put oi.dst v) w) : wpAnyZ P md ops Q S T z y (n + 1) listed a w := by
  simp only [Bool.and_eq_true, Bool.not_eq_true', bne_iff_ne, ne_eq] at hw
  have hr' : i ∈ Region.ready md ops listed := by simpa using hr
  have hb : ¬ behind y listed := by unfold behind; rw [hw.1.2]; simp
  exact wpAnyZ_first (x := y) hi (Region.noSelect_spec hs) hQ hw.2 (waits_self hr' hw.1.1) (.inl ⟨hw.1.1, fun _ _ hb hT => hT.2.resolve_left hb⟩) n listed a w (Region.free_spec hi hf) (.inl hb) hr' hy hS.2 ⟨.inr hS.1, .inr hS.2⟩ h
/-- What yields in whatever world is taken first, also behind z and y. -/
theorem wpAnyZ_any {i : Nat} {oi : Oper} {v : Value} {n : Nat} {listed : Array Bool} {a : Act} {w : World} (hi : ops[i]? = some oi)
    (hs : Region.noSelect ops = true) (hf : Region.free md ops listed i = true) (hr : (Region.ready md ops listed).contains i = true) (hiz : (i != z && i != y) = true)
    (hQ : ∀ c a w, Q (.panic c) (a.put oi.dst v) w → Q (.panic c) a w) (hy : YieldsIf P ops (fun _ => True) oi v a) (hS : Till S T z y listed w)
    (h : wpAnyZ P md ops Q S T z y n (listed.setIfInBounds i true) (a.put oi.dst v) w) : wpAnyZ P md ops Q S T z y (n + 1) listed a w := by
  simp only [Bool.and_eq_true, bne_iff_ne, ne_eq] at hiz
  exact wpAnyZ_first (x := z) hi (Region.noSelect_spec hs) hQ hiz.1 hiz.2 (.inr fun _ => trivial) n listed a w (Region.free_spec hi hf) (.inr fun _ => trivial) (by simpa using hr) hy trivial hS h
/-- The one operation that may come up comes up. -/
theorem wpAnyZ_one {i : Nat} {o : Oper} {n : Nat} {listed : Array Bool} {a : Act} {w : World} (hr : Region.ready md ops listed = [i]) (ho : ops[i]? = some o) (hw : Region.wanted o (yielded ops a.tmps) = true)
    (h : ∀ K' : Act → World → Prop, Shut (∀ a w, Till S T z y (listed.setIfInBounds i true) w → wpAnyZ P md ops Q S T z y n (listed.setIfInBounds i true) a w → K' a w) → Oper.wp P o a w K' Q) : wpAnyZ P md ops Q S T z y (n + 1) listed a w := by
  refine ⟨(fun h0 => by rw [hr] at h0; cases h0), fun j hj => ?_⟩
  rw [hr, List.mem_singleton] at hj
  subst hj
  refine wpOp_step ho (fun K' hK => ?_)
  rw [if_pos hw]
  exact h K' (fun a w h1 h2 => hK a w ⟨h1, h2⟩)
theorem wpAnyZ_done {listed : Array Bool} {a : Act} {w : World} (hr : Region.ready md ops listed = []) (h : Q .normal a w) : ∀ n, wpAnyZ P md ops Q S T z y n listed a w
  | 0 => ⟨hr, h⟩
  | _ + 1 => ⟨fun _ => h, by rw [hr]; simp⟩
theorem wp_region_Z (z y : Nat) (S T : World → Prop) {id : Nat} {a : Act} {w : World} (hm : P.follows .mixedOrders = true) (h : wpAnyZ P .any ops Q S T z y ops.size (Array.replicate ops.size false) a w.drew) : (Code.region id ops true).wp P Q a w :=
  wp_region_any hm (wpAny_of_Z _ _ _ _ h)
end
end Go.Proofs.Ytibfihjcjohadaa
