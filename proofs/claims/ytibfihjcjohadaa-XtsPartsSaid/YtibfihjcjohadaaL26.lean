/-
  The walk of the law on IEEE 1619's own sectors: it returns true, whatever the input, and writes nothing that was there.
-/
import Derived.Test.YtibfihjcjohadaaAw8
namespace Go.Proofs.Ytibfihjcjohadaa
open Go.RowKit Go.Op
def two32 : List Nat := Aes.kbC ++ Aes.kbD
theorem halfT : half1 two32 = Aes.kbC ∧ half2 two32 = Aes.kbD := by decide
theorem mayX3 : MayX 32 (219902325555 : Nat) := ⟨.inl rfl, by decide, by decide⟩
theorem enc_four (w : World) (A : Option Addr) (c : Nat) (B : Option Addr) (c1 : Nat) (hl : Bytes w A 32 two32) (hc : 32 ≤ c) (hd : Bytes w B 32 four32) (hc1 : 32 ≤ c1) :
    Calls Try.prog 69 #[.slice A 32 c, .int .i64 219902325555, .slice B 32 c1] w (RetRow end2 32 w) := by
  have h := xenc_yes A 32 c two32 219902325555 B 32 c1 four32 w hl hc hd hc1 ⟨mayX3, by decide, by decide⟩
  refine h.mono fun e w' hq => ?_
  have h2 := hq.ret (m := 32) (by decide)
  rw [halfT.1, halfT.2] at h2
  have e1 : xtL false Aes.kbC Aes.kbD 219902325555 four32 (32 / 16) = end2 := vec2
  rwa [e1] at h2
theorem Own.setCell {w : World} {base : Nat} {v u : Value} {l : List Nat} {p : Addr} (h : Own w base v l) (hne : v.ownBlock ≠ some p.block) : Own (w.setCell p u) base v l :=
  h.kept (row := some p.block) ⟨rfl, rfl, rfl, by simp [World.setCell], fun i _ hi => Below.heap_setCell w p u i (fun e => hi (by rw [e]))⟩ (.inr hne)
theorem new_cell8 (w : World) (cs : Array Value) (t : TypeId) (k g : Nat) (hg : g = w.heap.size) : (w.alloc (.cells cs t)).cell? ⟨g, k, none⟩ = cs[k]? := by
  subst hg; exact cell_of_row _ _ k cs t (0, 0) (heap_alloc_new w _)
theorem ext32 {l m : List Nat} (hl : l.length = 32) (hm : m.length = 32) (h : ∀ x, x < 32 → l.getD x 0 = m.getD x 0) : l = m := by
  refine List.ext_getElem (by rw [hl, hm]) fun k h1 h2 => ?_
  have e := h k (by omega)
  rwa [List.getD_eq_getElem?_getD, List.getD_eq_getElem?_getD, List.getElem?_eq_getElem h1, List.getElem?_eq_getElem h2] at e
theorem all32 {p : Nat → Bool} (h : (List.range 32).all p = true) {a : Nat} (ha : a < 32) : p a = true := List.all_eq_true.mp h a (List.mem_range.mpr ha)
theorem zero_get {x : Nat} (hx : x < 32) : (List.replicate 32 0).getD x 0 = 0 := eq_of_beq (all32 (p := fun x => (List.replicate 32 0).getD x 0 == 0) (by decide) hx)
theorem set_get {l : List Nat} {j v x : Nat} (hj : j < l.length) : (l.set j v).getD x 0 = if x = j then v else l.getD x 0 := by
  rw [List.getD_eq_getElem?_getD, List.getD_eq_getElem?_getD, List.getElem?_set]
  by_cases h : j = x
  · subst h; rw [if_pos rfl, if_pos hj, if_pos rfl]; rfl
  · rw [if_neg h, if_neg (fun e => h e.symm)]
set_option maxRecDepth 100000 in
set_option maxHeartbeats 8000000 in
theorem known8_0 (k : Int) (w : World) (h : k % 2 = 0) :
    Calls Try.prog 26 #[.int .i64 k] w fun e w' => e = .returned (.bool true) ∧ Below w.heap.size w w' := by
  have HR := Box.mk (fun w => round_any k 2 (by omega) (by omega) w)
  rw [h] at HR
  go_enter Try.func26, Try.ntmps26
  go_wp2_with (first
      | ((with_reducible show wpList _ _ _ (⟨some 14, Op.makeSlice 29 _ _, _, _, _, _⟩ :: _) _ _); refine wpList_mk rfl _ _ rfl 32 _ rfl rfl rfl (by decide) (fun w1 h3 hb1 hz1 => ?_)))
  obtain ⟨g3, HG3⟩ : ∃ g, Box (g = w.heap.size) := ⟨_, ⟨rfl⟩⟩
  rw [← HG3.out] at h3 ⊢
  go_wp2_with fail
  go_loopw [4] (fun i wr => ∃ (j : Nat) (l : List Nat), i = .int .i64 (j : Int) ∧ j ≤ 16 ∧ Own wr g3 (.slice (some ⟨g3, 0, none⟩) 32 32) l ∧ Box (∀ x, x < 32 → l.getD x 0 = if x < 16 then (if x < j then 17 else 0) else if x < 16 + j then 34 else 0) ∧ Below g3 w wr) (fun i _ => 16 - (intOf i).toNat)
  case atStart => exact ⟨0, _, rfl, by omega, h3, ⟨fun x hx => by
    rw [zero_get hx]
    by_cases e : x < 16
    · rw [if_pos e, if_neg (by omega)]
    · rw [if_neg e, if_neg (by omega)]⟩, by rw [HG3.out]; exact hb1⟩
  case round =>
    clear h3 hb1 hz1 w1
    obtain ⟨j, l, rfl, hj, h3, H, hb⟩ := hrel
    have HL3 := Box.mk h3.len
    by_cases hj6 : j = 16
    · subst hj6
      have hl2 : l = two32 := ext32 HL3.out.symm (by decide) (fun x hx => by
        rw [H.out x hx]
        exact eq_of_beq (all32 (p := fun x => (if x < 16 then (if x < 16 then 17 else 0) else if x < 16 + 16 then 34 else 0) == two32.getD x 0) (by decide) hx))
      rw [hl2] at h3
      clear H hl2 HL3 l
      have hbW : Below w.heap.size w wr := by rw [← HG3.out]; exact hb
      have h3lt := (h3.ge g3 rfl).2
      clear hb
      go_wp2_with (first
          | ((with_reducible show wpList _ _ _ (⟨some 26, Op.makeSlice 29 _ _, _, _, _, _⟩ :: _) _ _); refine wpList_mk rfl _ _ rfl 32 _ rfl rfl rfl (by decide) (fun w2 h5 hb2 hz2 => ?_)))
      have h3 := h3.below hb2 (Nat.le_refl _)
      have hbw := hbW.trans (hb2.mono hbW.size)
      obtain ⟨g5, HG5⟩ : ∃ g, Box (g = wr.heap.size) := ⟨_, ⟨rfl⟩⟩
      have n35 : g3 ≠ g5 := by have := HG5.out; omega
      have HW5 : Box (w.heap.size ≤ g5) := ⟨by rw [HG5.out]; exact hbW.size⟩
      rw [← HG5.out] at h5 ⊢
      clear hb2 hz2 hbW h3lt
      go_loopw [6] (fun i wr => ∃ (j : Nat) (l : List Nat), i = .int .i64 (j : Int) ∧ j ≤ 32 ∧ Own wr g5 (.slice (some ⟨g5, 0, none⟩) 32 32) l ∧ Box (∀ x, x < 32 → l.getD x 0 = if x < j then 68 else 0) ∧ Own wr g3 (.slice (some ⟨g3, 0, none⟩) 32 32) two32 ∧ Below w.heap.size w wr) (fun i _ => 32 - (intOf i).toNat)
      case atStart => exact ⟨0, _, rfl, by omega, h5, ⟨fun x hx => by rw [zero_get hx, if_neg (by omega)]⟩, h3, hbw⟩
      case round =>
        clear h3 h5 hbw w2
        obtain ⟨j, l, rfl, hj, h5, H, h3, hb⟩ := hrel
        have HL5 := Box.mk h5.len
        by_cases hj6 : j = 32
        · subst hj6
          have hl2 : l = four32 := ext32 HL5.out.symm (by decide) (fun x hx => by
            rw [H.out x hx, if_pos hx]
            exact (eq_of_beq (all32 (p := fun x => four32.getD x 0 == 68) (by decide) hx)).symm)
          rw [hl2] at h5
          clear H hl2 HL5 l
          go_wp2_with fail
          refine (HR.out _).mono ?_
          rintro e w' ⟨rfl, rfl⟩
          obtain ⟨w3, HW3⟩ : ∃ w3, Box (w3 = wr) := ⟨_, ⟨rfl⟩⟩
          rw [← HW3.out] at h3 h5 hb ⊢
          clear HW3
          go_wp2_with (first
            | ((with_reducible show wpList _ _ _ (⟨some 36, Op.makeSlice 29 _ _, _, _, _, _⟩ :: _) _ _); refine wpList_mk rfl _ _ rfl 32 _ rfl rfl rfl (by decide) (fun w4 h36 hb4 hz4 => ?_))
            | ((with_reducible show wpList _ _ _ (⟨some 40, Op.makeSlice 29 _ _, _, _, _, _⟩ :: _) _ _); refine wpList_mk rfl _ _ rfl 32 _ rfl rfl rfl (by decide) (fun w5 h40 hb5 hz5 => ?_)))
          have hbA : Below w4.heap.size w4 ((w4.alloc (.cells #[(.slice (some ⟨w3.heap.size, 0, none⟩) 32 32), (.slice (some ⟨g3, 0, none⟩) 32 32)] 29)).alloc (.cells #[.int .i64 0, .int .i64 219902325555] 3)) := ((Below.refl _ _).alloc (Nat.le_refl _) _).alloc (by simp) _
          have hbB : Below w5.heap.size w5 ((w5.alloc (.cells #[(.slice (some ⟨w4.heap.size + 1 + 1, 0, none⟩) 32 32), (.slice (some ⟨g5, 0, none⟩) 32 32)] 29)).alloc (.cells #[.string ⟨#[145, 124, 246, 158, 189, 104, 178, 236, 155, 159, 233, 163, 234, 221, 166, 146, 205, 67, 210, 245, 149, 152, 237, 133, 140, 2, 194, 101, 47, 191, 146, 46]⟩, .string ⟨#[196, 84, 24, 94, 106, 22, 147, 110, 57, 51, 64, 56, 172, 239, 131, 139, 251, 24, 111, 255, 116, 128, 173, 196, 40, 147, 130, 236, 214, 211, 148, 240]⟩] 9)) := ((Below.refl _ _).alloc (Nat.le_refl _) _).alloc (by simp) _
          have z8 : ((w4.alloc (.cells #[(.slice (some ⟨w3.heap.size, 0, none⟩) 32 32), (.slice (some ⟨g3, 0, none⟩) 32 32)] 29)).alloc (.cells #[.int .i64 0, .int .i64 219902325555] 3)).cell? ⟨w4.heap.size, 0, none⟩ = some (.slice (some ⟨w3.heap.size, 0, none⟩) 32 32) := (World.cell?_alloc_lt _ _ _ (by simp)).trans ((new_cell8 _ _ 29 0 _ rfl).trans rfl)
          have z9 : ((w4.alloc (.cells #[(.slice (some ⟨w3.heap.size, 0, none⟩) 32 32), (.slice (some ⟨g3, 0, none⟩) 32 32)] 29)).alloc (.cells #[.int .i64 0, .int .i64 219902325555] 3)).cell? ⟨w4.heap.size + 1, 0, none⟩ = some (.int .i64 0) := (new_cell8 _ _ 3 0 _ (by simp)).trans rfl
          have hlA : w4.heap.size + 1 < ((w4.alloc (.cells #[(.slice (some ⟨w3.heap.size, 0, none⟩) 32 32), (.slice (some ⟨g3, 0, none⟩) 32 32)] 29)).alloc (.cells #[.int .i64 0, .int .i64 219902325555] 3)).heap.size := by simp
          have e40 : ((w4.alloc (.cells #[(.slice (some ⟨w3.heap.size, 0, none⟩) 32 32), (.slice (some ⟨g3, 0, none⟩) 32 32)] 29)).alloc (.cells #[.int .i64 0, .int .i64 219902325555] 3)).heap.size = w4.heap.size + 1 + 1 := by simp
          rw [e40] at h40
          clear e40
          revert z8 z9 hlA hbA
          generalize ((w4.alloc (.cells #[(.slice (some ⟨w3.heap.size, 0, none⟩) 32 32), (.slice (some ⟨g3, 0, none⟩) 32 32)] 29)).alloc (.cells #[.int .i64 0, .int .i64 219902325555] 3)) = wa at hb5 hz5 ⊢
          intro hbA z8 z9 hlA
          have z10 : ((w5.alloc (.cells #[(.slice (some ⟨w4.heap.size + 1 + 1, 0, none⟩) 32 32), (.slice (some ⟨g5, 0, none⟩) 32 32)] 29)).alloc (.cells #[.string ⟨#[145, 124, 246, 158, 189, 104, 178, 236, 155, 159, 233, 163, 234, 221, 166, 146, 205, 67, 210, 245, 149, 152, 237, 133, 140, 2, 194, 101, 47, 191, 146, 46]⟩, .string ⟨#[196, 84, 24, 94, 106, 22, 147, 110, 57, 51, 64, 56, 172, 239, 131, 139, 251, 24, 111, 255, 116, 128, 173, 196, 40, 147, 130, 236, 214, 211, 148, 240]⟩] 9)).cell? ⟨w5.heap.size, 0, none⟩ = some (.slice (some ⟨w4.heap.size + 1 + 1, 0, none⟩) 32 32) := (World.cell?_alloc_lt _ _ _ (by simp)).trans ((new_cell8 _ _ 29 0 _ rfl).trans rfl)
          have z11 : ((w5.alloc (.cells #[(.slice (some ⟨w4.heap.size + 1 + 1, 0, none⟩) 32 32), (.slice (some ⟨g5, 0, none⟩) 32 32)] 29)).alloc (.cells #[.string ⟨#[145, 124, 246, 158, 189, 104, 178, 236, 155, 159, 233, 163, 234, 221, 166, 146, 205, 67, 210, 245, 149, 152, 237, 133, 140, 2, 194, 101, 47, 191, 146, 46]⟩, .string ⟨#[196, 84, 24, 94, 106, 22, 147, 110, 57, 51, 64, 56, 172, 239, 131, 139, 251, 24, 111, 255, 116, 128, 173, 196, 40, 147, 130, 236, 214, 211, 148, 240]⟩] 9)).cell? ⟨w5.heap.size + 1, 0, none⟩ = some (.string ⟨#[145, 124, 246, 158, 189, 104, 178, 236, 155, 159, 233, 163, 234, 221, 166, 146, 205, 67, 210, 245, 149, 152, 237, 133, 140, 2, 194, 101, 47, 191, 146, 46]⟩) := (new_cell8 _ _ 9 0 _ (by simp)).trans rfl
          have h11lt : w5.heap.size + 1 < ((w5.alloc (.cells #[(.slice (some ⟨w4.heap.size + 1 + 1, 0, none⟩) 32 32), (.slice (some ⟨g5, 0, none⟩) 32 32)] 29)).alloc (.cells #[.string ⟨#[145, 124, 246, 158, 189, 104, 178, 236, 155, 159, 233, 163, 234, 221, 166, 146, 205, 67, 210, 245, 149, 152, 237, 133, 140, 2, 194, 101, 47, 191, 146, 46]⟩, .string ⟨#[196, 84, 24, 94, 106, 22, 147, 110, 57, 51, 64, 56, 172, 239, 131, 139, 251, 24, 111, 255, 116, 128, 173, 196, 40, 147, 130, 236, 214, 211, 148, 240]⟩] 9)).heap.size := by simp
          have hKy : Own ((w5.alloc (.cells #[(.slice (some ⟨w4.heap.size + 1 + 1, 0, none⟩) 32 32), (.slice (some ⟨g5, 0, none⟩) 32 32)] 29)).alloc (.cells #[.string ⟨#[145, 124, 246, 158, 189, 104, 178, 236, 155, 159, 233, 163, 234, 221, 166, 146, 205, 67, 210, 245, 149, 152, 237, 133, 140, 2, 194, 101, 47, 191, 146, 46]⟩, .string ⟨#[196, 84, 24, 94, 106, 22, 147, 110, 57, 51, 64, 56, 172, 239, 131, 139, 251, 24, 111, 255, 116, 128, 173, 196, 40, 147, 130, 236, 214, 211, 148, 240]⟩] 9)) _ (.slice (some ⟨w3.heap.size, 0, none⟩) 32 32) zero32 := ((h36.below hbA (Nat.le_refl _)).below hb5 (Nat.le_refl _)).below hbB (Nat.le_refl _)
          have hDy : Own ((w5.alloc (.cells #[(.slice (some ⟨w4.heap.size + 1 + 1, 0, none⟩) 32 32), (.slice (some ⟨g5, 0, none⟩) 32 32)] 29)).alloc (.cells #[.string ⟨#[145, 124, 246, 158, 189, 104, 178, 236, 155, 159, 233, 163, 234, 221, 166, 146, 205, 67, 210, 245, 149, 152, 237, 133, 140, 2, 194, 101, 47, 191, 146, 46]⟩, .string ⟨#[196, 84, 24, 94, 106, 22, 147, 110, 57, 51, 64, 56, 172, 239, 131, 139, 251, 24, 111, 255, 116, 128, 173, 196, 40, 147, 130, 236, 214, 211, 148, 240]⟩] 9)) _ (.slice (some ⟨w4.heap.size + 1 + 1, 0, none⟩) 32 32) zero32 := h40.below hbB (Nat.le_refl _)
          revert z10 z11 h11lt hbB hKy hDy
          generalize ((w5.alloc (.cells #[(.slice (some ⟨w4.heap.size + 1 + 1, 0, none⟩) 32 32), (.slice (some ⟨g5, 0, none⟩) 32 32)] 29)).alloc (.cells #[.string ⟨#[145, 124, 246, 158, 189, 104, 178, 236, 155, 159, 233, 163, 234, 221, 166, 146, 205, 67, 210, 245, 149, 152, 237, 133, 140, 2, 194, 101, 47, 191, 146, 46]⟩, .string ⟨#[196, 84, 24, 94, 106, 22, 147, 110, 57, 51, 64, 56, 172, 239, 131, 139, 251, 24, 111, 255, 116, 128, 173, 196, 40, 147, 130, 236, 214, 211, 148, 240]⟩] 9)) = w7
          intro hbB z10 z11 h11lt hKy hDy
          have hb7 : Below wa.heap.size wa w7 := hb5.trans (hbB.mono hb5.size)
          have h8c := (hb7.cell (p := ⟨w4.heap.size, 0, none⟩) (by show w4.heap.size < _; omega)).trans z8
          have h9c := (hb7.cell (p := ⟨w4.heap.size + 1, 0, none⟩) hlA).trans z9
          have hw7 : Below w.heap.size w w7 := (hb.trans (hb4.mono hb.size)).trans ((hbA.trans (hb7.mono hbA.size)).mono (by have := hb.size; have := hb4.size; omega))
          have s7 := hb7.size
          have h8lt : w4.heap.size < w7.heap.size := by omega
          have h9lt : w4.heap.size + 1 < w7.heap.size := by omega
          have h10lt : w5.heap.size < w7.heap.size := by omega
          have HE : Box (∀ (w : World) (A : Option Addr) (c : Nat) (B : Option Addr) (c1 : Nat), Bytes w A 32 zero32 → 32 ≤ c → Bytes w B 32 zero32 → 32 ≤ c1 → Calls Try.prog 69 #[.slice A 32 c, .int .i64 0, .slice B 32 c1] w (RetRow end1 32 w)) := ⟨enc_zero⟩
          clear h3 h5 h36 h40 hb hb4 hb5 hz4 hz5 z8 z9 hlA hbA hbB hb7 s7 HR
          go_wp2_with fail
          refine wp_region_held_drew (S := fun w' => Below w7.heap.size w7 w') (by kernel_rfl) (Below.refl _ _).drew (fun hS => ?_)
          refine wpAnyH_take (i := 0) (oi := ⟨some 45, _, _, _, _, _⟩) (v := .slice (some ⟨w4.heap.size, 0, none⟩) 2 2) rfl (by kernel_rfl) (by kernel_rfl) (by kernel_rfl) (fun _ _ _ h => h) (Or.inl ⟨by kernel_rfl, fun w' hSw => ?_⟩) hS ?_
          · go_simp
          simp only [Act.put, List.setIfInBounds_toArray, List.set_cons_zero, List.set_cons_succ]
          refine wpAnyH_take (i := 1) (oi := ⟨some 46, _, _, _, _, _⟩) (v := .int .i64 0) rfl (by kernel_rfl) (by kernel_rfl) (by kernel_rfl) (fun _ _ _ h => h) (Or.inl ⟨by kernel_rfl, fun w' hSw => ?_⟩) hS ?_
          · go_simp
          simp only [Act.put, List.setIfInBounds_toArray, List.set_cons_zero, List.set_cons_succ]
          refine wpAnyH_take (i := 2) (oi := ⟨some 47, _, _, _, _, _⟩) (v := .pointer (some ⟨w4.heap.size, 0, none⟩)) rfl (by kernel_rfl) (by kernel_rfl) (by kernel_rfl) (fun _ _ _ h => h) (Or.inl ⟨by kernel_rfl, fun w' hSw => ?_⟩) hS ?_
          · go_simp
          simp only [Act.put, List.setIfInBounds_toArray, List.set_cons_zero, List.set_cons_succ]
          refine wpAnyH_take (i := 3) (oi := ⟨some 48, _, _, _, _, _⟩) (v := .slice (some ⟨w3.heap.size, 0, none⟩) 32 32) rfl (by kernel_rfl) (by kernel_rfl) (by kernel_rfl) (fun _ _ _ h => h) (Or.inl ⟨by kernel_rfl, fun w' hSw => ?_⟩) hS ?_
          · (have c := (hSw.cell (p := ⟨w4.heap.size, 0, none⟩) h8lt).trans h8c; go_simp)
          simp only [Act.put, List.setIfInBounds_toArray, List.set_cons_zero, List.set_cons_succ]
          refine wpAnyH_take (i := 4) (oi := ⟨some 49, _, _, _, _, _⟩) (v := .slice (some ⟨w4.heap.size + 1, 0, none⟩) 2 2) rfl (by kernel_rfl) (by kernel_rfl) (by kernel_rfl) (fun _ _ _ h => h) (Or.inl ⟨by kernel_rfl, fun w' hSw => ?_⟩) hS ?_
          · go_simp
          simp only [Act.put, List.setIfInBounds_toArray, List.set_cons_zero, List.set_cons_succ]
          refine wpAnyH_take (i := 5) (oi := ⟨some 50, _, _, _, _, _⟩) (v := .int .i64 0) rfl (by kernel_rfl) (by kernel_rfl) (by kernel_rfl) (fun _ _ _ h => h) (Or.inl ⟨by kernel_rfl, fun w' hSw => ?_⟩) hS ?_
          · go_simp
          simp only [Act.put, List.setIfInBounds_toArray, List.set_cons_zero, List.set_cons_succ]
          refine wpAnyH_take (i := 6) (oi := ⟨some 51, _, _, _, _, _⟩) (v := .pointer (some ⟨w4.heap.size + 1, 0, none⟩)) rfl (by kernel_rfl) (by kernel_rfl) (by kernel_rfl) (fun _ _ _ h => h) (Or.inl ⟨by kernel_rfl, fun w' hSw => ?_⟩) hS ?_
          · go_simp
          simp only [Act.put, List.setIfInBounds_toArray, List.set_cons_zero, List.set_cons_succ]
          refine wpAnyH_take (i := 7) (oi := ⟨some 52, _, _, _, _, _⟩) (v := .int .i64 0) rfl (by kernel_rfl) (by kernel_rfl) (by kernel_rfl) (fun _ _ _ h => h) (Or.inl ⟨by kernel_rfl, fun w' hSw => ?_⟩) hS ?_
          · (have c := (hSw.cell (p := ⟨w4.heap.size + 1, 0, none⟩) h9lt).trans h9c; go_simp)
          simp only [Act.put, List.setIfInBounds_toArray, List.set_cons_zero, List.set_cons_succ]
          refine wpAnyH_take (i := 8) (oi := ⟨some 53, _, _, _, _, _⟩) (v := .slice (some ⟨w5.heap.size, 0, none⟩) 2 2) rfl (by kernel_rfl) (by kernel_rfl) (by kernel_rfl) (fun _ _ _ h => h) (Or.inl ⟨by kernel_rfl, fun w' hSw => ?_⟩) hS ?_
          · go_simp
          simp only [Act.put, List.setIfInBounds_toArray, List.set_cons_zero, List.set_cons_succ]
          refine wpAnyH_take (i := 9) (oi := ⟨some 54, _, _, _, _, _⟩) (v := .int .i64 0) rfl (by kernel_rfl) (by kernel_rfl) (by kernel_rfl) (fun _ _ _ h => h) (Or.inl ⟨by kernel_rfl, fun w' hSw => ?_⟩) hS ?_
          · go_simp
          simp only [Act.put, List.setIfInBounds_toArray, List.set_cons_zero, List.set_cons_succ]
          refine wpAnyH_take (i := 10) (oi := ⟨some 55, _, _, _, _, _⟩) (v := .pointer (some ⟨w5.heap.size, 0, none⟩)) rfl (by kernel_rfl) (by kernel_rfl) (by kernel_rfl) (fun _ _ _ h => h) (Or.inl ⟨by kernel_rfl, fun w' hSw => ?_⟩) hS ?_
          · go_simp
          simp only [Act.put, List.setIfInBounds_toArray, List.set_cons_zero, List.set_cons_succ]
          refine wpAnyH_take (i := 11) (oi := ⟨some 56, _, _, _, _, _⟩) (v := .slice (some ⟨w4.heap.size + 1 + 1, 0, none⟩) 32 32) rfl (by kernel_rfl) (by kernel_rfl) (by kernel_rfl) (fun _ _ _ h => h) (Or.inl ⟨by kernel_rfl, fun w' hSw => ?_⟩) hS ?_
          · (have c := (hSw.cell (p := ⟨w5.heap.size, 0, none⟩) h10lt).trans z10; go_simp)
          simp only [Act.put, List.setIfInBounds_toArray, List.set_cons_zero, List.set_cons_succ]
          refine wpAnyH_ready (rs := [12]) (by kernel_rfl) (by simp) ?_
          refine (AllReadyH.cons (o := ⟨some 57, _, _, _, _, _⟩) rfl (fun K hK => ?_) AllReadyH.nil)
          rw [if_pos (by kernel_rfl)]
          go_simp
          refine (HE.out _ _ _ _ _ (hKy.below hS (Nat.le_refl _)).rd (by decide) (hDy.below hS (Nat.le_refl _)).rd (by decide)).mono ?_
          rintro e v1 ⟨A57, c57, rfl, hO57, hC57, hq1⟩
          have hO57 := hO57.le hS.size
          refine hK.out _ _ (hS.trans (hq1.mono (by first | exact hS.size | (have := hS.size; simp at this ⊢; omega)))) (fun hS => ?_)
          clear hK K
          refine wpAnyH_take (i := 13) (oi := ⟨some 44, _, _, _, _, _⟩) (v := .tuple #[.slice A57 32 c57, .int .i64 0]) rfl (by kernel_rfl) (by kernel_rfl) (by kernel_rfl) (fun _ _ _ h => h) (Or.inl ⟨by kernel_rfl, fun w' hSw => ?_⟩) hS ?_
          · go_simp
          simp only [Act.put, List.setIfInBounds_toArray, List.set_cons_zero, List.set_cons_succ]
          refine wpAnyH_take (i := 14) (oi := ⟨some 58, _, _, _, _, _⟩) (v := .slice A57 32 c57) rfl (by kernel_rfl) (by kernel_rfl) (by kernel_rfl) (fun _ _ _ h => h) (Or.inl ⟨by kernel_rfl, fun w' hSw => ?_⟩) hS ?_
          · go_simp
          simp only [Act.put, List.setIfInBounds_toArray, List.set_cons_zero, List.set_cons_succ]
          refine wpAnyH_take (i := 15) (oi := ⟨some 59, _, _, _, _, _⟩) (v := .int .i64 0) rfl (by kernel_rfl) (by kernel_rfl) (by kernel_rfl) (fun _ _ _ h => h) (Or.inl ⟨by kernel_rfl, fun w' hSw => ?_⟩) hS ?_
          · go_simp
          simp only [Act.put, List.setIfInBounds_toArray, List.set_cons_zero, List.set_cons_succ]
          refine wpAnyH_take (i := 16) (oi := ⟨some 12, _, _, _, _, _⟩) (v := .slice A57 32 c57) rfl (by kernel_rfl) (by kernel_rfl) (by kernel_rfl) (fun _ _ _ h => h) (Or.inl ⟨by kernel_rfl, fun w' hSw => ?_⟩) hS ?_
          · go_simp
          simp only [Act.put, List.setIfInBounds_toArray, List.set_cons_zero, List.set_cons_succ]
          refine wpAnyH_take (i := 17) (oi := ⟨some 13, _, _, _, _, _⟩) (v := .int .i64 0) rfl (by kernel_rfl) (by kernel_rfl) (by kernel_rfl) (fun _ _ _ h => h) (Or.inl ⟨by kernel_rfl, fun w' hSw => ?_⟩) hS ?_
          · go_simp
          simp only [Act.put, List.setIfInBounds_toArray, List.set_cons_zero, List.set_cons_succ]
          refine wpAnyH_done (by kernel_rfl) ?_ _
          go_wp2_with fail
          have hw8 := hw7.trans (hS.mono hw7.size)
          have h11c := (hS.cell (p := ⟨w5.heap.size + 1, 0, none⟩) h11lt).trans z11
          have h11lt : w5.heap.size + 1 < v1.heap.size := by have := hS.size; omega
          clear hS
          refine wp_region_held_drew (S := fun w' => Below v1.heap.size v1 w') (by kernel_rfl) (Below.refl _ _).drew (fun hS => ?_)
          refine wpAnyH_take (i := 0) (oi := ⟨some 60, _, _, _, _, _⟩) (v := .int .i64 0) rfl (by kernel_rfl) (by kernel_rfl) (by kernel_rfl) (fun _ _ _ h => h) (Or.inl ⟨by kernel_rfl, fun w' hSw => ?_⟩) hS ?_
          · go_simp
          simp only [Act.put, List.setIfInBounds_toArray, List.set_cons_zero, List.set_cons_succ]
          refine wpAnyH_take (i := 1) (oi := ⟨some 61, _, _, _, _, _⟩) (v := .bool true) rfl (by kernel_rfl) (by kernel_rfl) (by kernel_rfl) (fun _ _ _ h => h) (Or.inl ⟨by kernel_rfl, fun w' hSw => ?_⟩) hS ?_
          · go_simp
          simp only [Act.put, List.setIfInBounds_toArray, List.set_cons_zero, List.set_cons_succ]
          refine wpAnyH_take (i := 2) (oi := ⟨some 62, _, _, _, _, _⟩) (v := .bool true) rfl (by kernel_rfl) (by kernel_rfl) (by kernel_rfl) (fun _ _ _ h => h) (Or.inl ⟨by kernel_rfl, fun w' hSw => ?_⟩) hS ?_
          · go_simp
          simp only [Act.put, List.setIfInBounds_toArray, List.set_cons_zero, List.set_cons_succ]
          refine wpAnyH_take (i := 3) (oi := ⟨some 63, _, _, _, _, _⟩) (v := .slice A57 32 c57) rfl (by kernel_rfl) (by kernel_rfl) (by kernel_rfl) (fun _ _ _ h => h) (Or.inl ⟨by kernel_rfl, fun w' hSw => ?_⟩) hS ?_
          · go_simp
          simp only [Act.put, List.setIfInBounds_toArray, List.set_cons_zero, List.set_cons_succ]
          refine wpAnyH_take (i := 4) (oi := ⟨some 64, _, _, _, _, _⟩) (v := .string (strL (end1))) rfl (by kernel_rfl) (by kernel_rfl) (by kernel_rfl) (fun _ _ _ h => h) (yields_str (by kernel_rfl) (.tmp 63) rfl (A57) (32) (c57) (end1) rfl (fun w' h => (hO57.below h (Nat.le_refl _)).rd)) hS ?_
          simp only [Act.put, List.setIfInBounds_toArray, List.set_cons_zero, List.set_cons_succ]
          refine wpAnyH_take (i := 5) (oi := ⟨some 65, _, _, _, _, _⟩) (v := .slice (some ⟨w5.heap.size + 1, 0, none⟩) 2 2) rfl (by kernel_rfl) (by kernel_rfl) (by kernel_rfl) (fun _ _ _ h => h) (Or.inl ⟨by kernel_rfl, fun w' hSw => ?_⟩) hS ?_
          · go_simp
          simp only [Act.put, List.setIfInBounds_toArray, List.set_cons_zero, List.set_cons_succ]
          refine wpAnyH_take (i := 6) (oi := ⟨some 66, _, _, _, _, _⟩) (v := .int .i64 0) rfl (by kernel_rfl) (by kernel_rfl) (by kernel_rfl) (fun _ _ _ h => h) (Or.inl ⟨by kernel_rfl, fun w' hSw => ?_⟩) hS ?_
          · go_simp
          simp only [Act.put, List.setIfInBounds_toArray, List.set_cons_zero, List.set_cons_succ]
          refine wpAnyH_take (i := 7) (oi := ⟨some 67, _, _, _, _, _⟩) (v := .pointer (some ⟨w5.heap.size + 1, 0, none⟩)) rfl (by kernel_rfl) (by kernel_rfl) (by kernel_rfl) (fun _ _ _ h => h) (Or.inl ⟨by kernel_rfl, fun w' hSw => ?_⟩) hS ?_
          · go_simp
          simp only [Act.put, List.setIfInBounds_toArray, List.set_cons_zero, List.set_cons_succ]
          refine wpAnyH_take (i := 8) (oi := ⟨some 68, _, _, _, _, _⟩) (v := .string ⟨#[145, 124, 246, 158, 189, 104, 178, 236, 155, 159, 233, 163, 234, 221, 166, 146, 205, 67, 210, 245, 149, 152, 237, 133, 140, 2, 194, 101, 47, 191, 146, 46]⟩) rfl (by kernel_rfl) (by kernel_rfl) (by kernel_rfl) (fun _ _ _ h => h) (Or.inl ⟨by kernel_rfl, fun w' hSw => ?_⟩) hS ?_
          · (have c := (hSw.cell (p := ⟨w5.heap.size + 1, 0, none⟩) h11lt).trans h11c; go_simp)
          simp only [Act.put, List.setIfInBounds_toArray, List.set_cons_zero, List.set_cons_succ]
          refine wpAnyH_take (i := 9) (oi := ⟨some 69, _, _, _, _, _⟩) (v := .bool true) rfl (by kernel_rfl) (by kernel_rfl) (by kernel_rfl) (fun _ _ _ h => h) (yields_strEq (by kernel_rfl) (.tmp 64) (.tmp 68) rfl (strL end1) (⟨#[145, 124, 246, 158, 189, 104, 178, 236, 155, 159, 233, 163, 234, 221, 166, 146, 205, 67, 210, 245, 149, 152, 237, 133, 140, 2, 194, 101, 47, 191, 146, 46]⟩) _ (decide_eq_true (by decide)) rfl rfl) hS ?_
          simp only [Act.put, List.setIfInBounds_toArray, List.set_cons_zero, List.set_cons_succ]
          refine wpAnyH_take (i := 10) (oi := ⟨some 70, _, _, _, _, _⟩) (v := .bool true) rfl (by kernel_rfl) (by kernel_rfl) (by kernel_rfl) (fun _ _ _ h => h) (Or.inl ⟨by kernel_rfl, fun w' hSw => ?_⟩) hS ?_
          · go_simp
          simp only [Act.put, List.setIfInBounds_toArray, List.set_cons_zero, List.set_cons_succ]
          refine wpAnyH_take (i := 11) (oi := ⟨some 71, _, _, _, _, _⟩) (v := .bool true) rfl (by kernel_rfl) (by kernel_rfl) (by kernel_rfl) (fun _ _ _ h => h) (Or.inl ⟨by kernel_rfl, fun w' hSw => ?_⟩) hS ?_
          · go_simp
          simp only [Act.put, List.setIfInBounds_toArray, List.set_cons_zero, List.set_cons_succ]
          refine wpAnyH_ready (rs := [12]) (by kernel_rfl) (by simp) ?_
          refine (AllReadyH.cons (o := ⟨some 72, _, _, _, _, _⟩) rfl (fun K hK => ?_) AllReadyH.nil)
          rw [if_pos (by kernel_rfl)]
          go_simp
          refine (awake8 _).mono ?_
          rintro e v1 ⟨rfl, hq1⟩
          have hqz1 := hq1.size
          refine hK.out _ _ (hS.trans (hq1.mono (by first | exact hS.size | (have := hS.size; simp at this ⊢; omega)))) (fun hS => ?_)
          clear hK K
          refine wpAnyH_take (i := 13) (oi := ⟨some 73, _, _, _, _, _⟩) (v := .bool true) rfl (by kernel_rfl) (by kernel_rfl) (by kernel_rfl) (fun _ _ _ h => h) (Or.inl ⟨by kernel_rfl, fun w' hSw => ?_⟩) hS ?_
          · go_simp
          simp only [Act.put, List.setIfInBounds_toArray, List.set_cons_zero, List.set_cons_succ]
          refine wpAnyH_take (i := 14) (oi := ⟨some 2, _, _, _, _, _⟩) (v := .bool true) rfl (by kernel_rfl) (by kernel_rfl) (by kernel_rfl) (fun _ _ _ h => h) (Or.inl ⟨by kernel_rfl, fun w' hSw => ?_⟩) hS ?_
          · go_simp
          simp only [Act.put, List.setIfInBounds_toArray, List.set_cons_zero, List.set_cons_succ]
          refine wpAnyH_done (by kernel_rfl) ?_ _
          go_wp2_with fail
          go_ret
          exact ⟨rfl, hw8.trans (hS.mono hw8.size)⟩
        · have hj2 : j < 32 := by omega
          clear hj6
          have c1 := h5.cellAt (j := j) (by omega)
          have f1 := h5.freeAt j
          have q0 : (0 : Int) ≤ (j : Int) := by omega
          have q1 : (j : Int) < 32 := by omega
          have s1 := h5.stored j 68 (by decide)
          have s3 := Own.setCell (p := ⟨g5, j, none⟩) (u := .int .u8 68) h3 (fun e => n35 (by injection e))
          have s4 := hb.setCell (p := ⟨g5, j, none⟩) HW5.out (.int .u8 68)
          clear h3 h5 hb
          go_wp2_with fail
          go_roundw
          case rel =>
            refine ⟨j + 1, _, by go_num, by omega, s1, ⟨fun x hx => ?_⟩, s3, s4⟩
            rw [set_get (by rw [← HL5.out]; omega), H.out x hx]
            by_cases e2 : x = j
            · rw [if_pos e2, if_pos (by omega)]
            · rw [if_neg e2]
              by_cases e4 : x < j
              · rw [if_pos e4, if_pos (by omega)]
              · rw [if_neg e4, if_neg (by omega)]
          case measure => simp [intOf]; omega
    · have hj2 : j < 16 := by omega
      clear hj6
      have c1 := h3.cellAt (j := j) (by omega)
      have c2 := h3.cellAt (j := 16 + j) (by omega)
      have f1 := h3.freeAt j
      have f2 := h3.freeAt (16 + j)
      have q0 : (0 : Int) ≤ (j : Int) := by omega
      have q1 : (j : Int) < 16 := by omega
      have s1 := h3.stored j 17 (by decide)
      have s2 := s1.stored (16 + j) 34 (by decide)
      have hb3 := (hb.setCell (p := ⟨g3, j, none⟩) (Nat.le_refl _) (.int .u8 17)).setCell (p := ⟨g3, 16 + j, none⟩) (Nat.le_refl _) (.int .u8 34)
      have c3 := s1.cellAt (j := 16 + j) (by omega)
      have f3 := s1.freeAt (16 + j)
      clear h3 hb
      go_wp2_with fail
      go_roundw
      case rel =>
        refine ⟨j + 1, _, by go_num, by omega, s2, ⟨fun x hx => ?_⟩, hb3⟩
        rw [set_get (by rw [List.length_set, ← HL3.out]; omega), set_get (by rw [← HL3.out]; omega), H.out x hx]
        by_cases e1 : x = 16 + j
        · rw [if_pos e1, if_neg (by omega), if_pos (by omega)]
        · rw [if_neg e1]
          by_cases e2 : x = j
          · rw [if_pos e2, if_pos (by omega), if_pos (by omega)]
          · rw [if_neg e2]
            by_cases e3 : x < 16
            · rw [if_pos e3, if_pos e3]
              by_cases e4 : x < j
              · rw [if_pos e4, if_pos (by omega)]
              · rw [if_neg e4, if_neg (by omega)]
            · rw [if_neg e3, if_neg e3]
              by_cases e4 : x < 16 + j
              · rw [if_pos e4, if_pos (by omega)]
              · rw [if_neg e4, if_neg (by omega)]
      case measure => simp [intOf]; omega
set_option maxRecDepth 100000 in
set_option maxHeartbeats 8000000 in
theorem known8_1 (k : Int) (w : World) (h : k % 2 = 1) :
    Calls Try.prog 26 #[.int .i64 k] w fun e w' => e = .returned (.bool true) ∧ Below w.heap.size w w' := by
  have HR := Box.mk (fun w => round_any k 2 (by omega) (by omega) w)
  rw [h] at HR
  go_enter Try.func26, Try.ntmps26
  go_wp2_with (first
      | ((with_reducible show wpList _ _ _ (⟨some 14, Op.makeSlice 29 _ _, _, _, _, _⟩ :: _) _ _); refine wpList_mk rfl _ _ rfl 32 _ rfl rfl rfl (by decide) (fun w1 h3 hb1 hz1 => ?_)))
  obtain ⟨g3, HG3⟩ : ∃ g, Box (g = w.heap.size) := ⟨_, ⟨rfl⟩⟩
  rw [← HG3.out] at h3 ⊢
  go_wp2_with fail
  go_loopw [4] (fun i wr => ∃ (j : Nat) (l : List Nat), i = .int .i64 (j : Int) ∧ j ≤ 16 ∧ Own wr g3 (.slice (some ⟨g3, 0, none⟩) 32 32) l ∧ Box (∀ x, x < 32 → l.getD x 0 = if x < 16 then (if x < j then 17 else 0) else if x < 16 + j then 34 else 0) ∧ Below g3 w wr) (fun i _ => 16 - (intOf i).toNat)
  case atStart => exact ⟨0, _, rfl, by omega, h3, ⟨fun x hx => by
    rw [zero_get hx]
    by_cases e : x < 16
    · rw [if_pos e, if_neg (by omega)]
    · rw [if_neg e, if_neg (by omega)]⟩, by rw [HG3.out]; exact hb1⟩
  case round =>
    clear h3 hb1 hz1 w1
    obtain ⟨j, l, rfl, hj, h3, H, hb⟩ := hrel
    have HL3 := Box.mk h3.len
    by_cases hj6 : j = 16
    · subst hj6
      have hl2 : l = two32 := ext32 HL3.out.symm (by decide) (fun x hx => by
        rw [H.out x hx]
        exact eq_of_beq (all32 (p := fun x => (if x < 16 then (if x < 16 then 17 else 0) else if x < 16 + 16 then 34 else 0) == two32.getD x 0) (by decide) hx))
      rw [hl2] at h3
      clear H hl2 HL3 l
      have hbW : Below w.heap.size w wr := by rw [← HG3.out]; exact hb
      have h3lt := (h3.ge g3 rfl).2
      clear hb
      go_wp2_with (first
          | ((with_reducible show wpList _ _ _ (⟨some 26, Op.makeSlice 29 _ _, _, _, _, _⟩ :: _) _ _); refine wpList_mk rfl _ _ rfl 32 _ rfl rfl rfl (by decide) (fun w2 h5 hb2 hz2 => ?_)))
      have h3 := h3.below hb2 (Nat.le_refl _)
      have hbw := hbW.trans (hb2.mono hbW.size)
      obtain ⟨g5, HG5⟩ : ∃ g, Box (g = wr.heap.size) := ⟨_, ⟨rfl⟩⟩
      have n35 : g3 ≠ g5 := by have := HG5.out; omega
      have HW5 : Box (w.heap.size ≤ g5) := ⟨by rw [HG5.out]; exact hbW.size⟩
      rw [← HG5.out] at h5 ⊢
      clear hb2 hz2 hbW h3lt
      go_loopw [6] (fun i wr => ∃ (j : Nat) (l : List Nat), i = .int .i64 (j : Int) ∧ j ≤ 32 ∧ Own wr g5 (.slice (some ⟨g5, 0, none⟩) 32 32) l ∧ Box (∀ x, x < 32 → l.getD x 0 = if x < j then 68 else 0) ∧ Own wr g3 (.slice (some ⟨g3, 0, none⟩) 32 32) two32 ∧ Below w.heap.size w wr) (fun i _ => 32 - (intOf i).toNat)
      case atStart => exact ⟨0, _, rfl, by omega, h5, ⟨fun x hx => by rw [zero_get hx, if_neg (by omega)]⟩, h3, hbw⟩
      case round =>
        clear h3 h5 hbw w2
        obtain ⟨j, l, rfl, hj, h5, H, h3, hb⟩ := hrel
        have HL5 := Box.mk h5.len
        by_cases hj6 : j = 32
        · subst hj6
          have hl2 : l = four32 := ext32 HL5.out.symm (by decide) (fun x hx => by
            rw [H.out x hx, if_pos hx]
            exact (eq_of_beq (all32 (p := fun x => four32.getD x 0 == 68) (by decide) hx)).symm)
          rw [hl2] at h5
          clear H hl2 HL5 l
          go_wp2_with fail
          refine (HR.out _).mono ?_
          rintro e w' ⟨rfl, rfl⟩
          obtain ⟨w3, HW3⟩ : ∃ w3, Box (w3 = wr) := ⟨_, ⟨rfl⟩⟩
          rw [← HW3.out] at h3 h5 hb ⊢
          clear HW3
          go_wp2_with (first
            | ((with_reducible show wpList _ _ _ (⟨some 36, Op.makeSlice 29 _ _, _, _, _, _⟩ :: _) _ _); refine wpList_mk rfl _ _ rfl 32 _ rfl rfl rfl (by decide) (fun w4 h36 hb4 hz4 => ?_))
            | ((with_reducible show wpList _ _ _ (⟨some 40, Op.makeSlice 29 _ _, _, _, _, _⟩ :: _) _ _); refine wpList_mk rfl _ _ rfl 32 _ rfl rfl rfl (by decide) (fun w5 h40 hb5 hz5 => ?_)))
          have hbA : Below w4.heap.size w4 ((w4.alloc (.cells #[(.slice (some ⟨w3.heap.size, 0, none⟩) 32 32), (.slice (some ⟨g3, 0, none⟩) 32 32)] 29)).alloc (.cells #[.int .i64 0, .int .i64 219902325555] 3)) := ((Below.refl _ _).alloc (Nat.le_refl _) _).alloc (by simp) _
          have hbB : Below w5.heap.size w5 ((w5.alloc (.cells #[(.slice (some ⟨w4.heap.size + 1 + 1, 0, none⟩) 32 32), (.slice (some ⟨g5, 0, none⟩) 32 32)] 29)).alloc (.cells #[.string ⟨#[145, 124, 246, 158, 189, 104, 178, 236, 155, 159, 233, 163, 234, 221, 166, 146, 205, 67, 210, 245, 149, 152, 237, 133, 140, 2, 194, 101, 47, 191, 146, 46]⟩, .string ⟨#[196, 84, 24, 94, 106, 22, 147, 110, 57, 51, 64, 56, 172, 239, 131, 139, 251, 24, 111, 255, 116, 128, 173, 196, 40, 147, 130, 236, 214, 211, 148, 240]⟩] 9)) := ((Below.refl _ _).alloc (Nat.le_refl _) _).alloc (by simp) _
          have z8 : ((w4.alloc (.cells #[(.slice (some ⟨w3.heap.size, 0, none⟩) 32 32), (.slice (some ⟨g3, 0, none⟩) 32 32)] 29)).alloc (.cells #[.int .i64 0, .int .i64 219902325555] 3)).cell? ⟨w4.heap.size, 1, none⟩ = some (.slice (some ⟨g3, 0, none⟩) 32 32) := (World.cell?_alloc_lt _ _ _ (by simp)).trans ((new_cell8 _ _ 29 1 _ rfl).trans rfl)
          have z9 : ((w4.alloc (.cells #[(.slice (some ⟨w3.heap.size, 0, none⟩) 32 32), (.slice (some ⟨g3, 0, none⟩) 32 32)] 29)).alloc (.cells #[.int .i64 0, .int .i64 219902325555] 3)).cell? ⟨w4.heap.size + 1, 1, none⟩ = some (.int .i64 219902325555) := (new_cell8 _ _ 3 1 _ (by simp)).trans rfl
          have hlA : w4.heap.size + 1 < ((w4.alloc (.cells #[(.slice (some ⟨w3.heap.size, 0, none⟩) 32 32), (.slice (some ⟨g3, 0, none⟩) 32 32)] 29)).alloc (.cells #[.int .i64 0, .int .i64 219902325555] 3)).heap.size := by simp
          have e40 : ((w4.alloc (.cells #[(.slice (some ⟨w3.heap.size, 0, none⟩) 32 32), (.slice (some ⟨g3, 0, none⟩) 32 32)] 29)).alloc (.cells #[.int .i64 0, .int .i64 219902325555] 3)).heap.size = w4.heap.size + 1 + 1 := by simp
          rw [e40] at h40
          clear e40
          revert z8 z9 hlA hbA
          generalize ((w4.alloc (.cells #[(.slice (some ⟨w3.heap.size, 0, none⟩) 32 32), (.slice (some ⟨g3, 0, none⟩) 32 32)] 29)).alloc (.cells #[.int .i64 0, .int .i64 219902325555] 3)) = wa at hb5 hz5 ⊢
          intro hbA z8 z9 hlA
          have z10 : ((w5.alloc (.cells #[(.slice (some ⟨w4.heap.size + 1 + 1, 0, none⟩) 32 32), (.slice (some ⟨g5, 0, none⟩) 32 32)] 29)).alloc (.cells #[.string ⟨#[145, 124, 246, 158, 189, 104, 178, 236, 155, 159, 233, 163, 234, 221, 166, 146, 205, 67, 210, 245, 149, 152, 237, 133, 140, 2, 194, 101, 47, 191, 146, 46]⟩, .string ⟨#[196, 84, 24, 94, 106, 22, 147, 110, 57, 51, 64, 56, 172, 239, 131, 139, 251, 24, 111, 255, 116, 128, 173, 196, 40, 147, 130, 236, 214, 211, 148, 240]⟩] 9)).cell? ⟨w5.heap.size, 1, none⟩ = some (.slice (some ⟨g5, 0, none⟩) 32 32) := (World.cell?_alloc_lt _ _ _ (by simp)).trans ((new_cell8 _ _ 29 1 _ rfl).trans rfl)
          have z11 : ((w5.alloc (.cells #[(.slice (some ⟨w4.heap.size + 1 + 1, 0, none⟩) 32 32), (.slice (some ⟨g5, 0, none⟩) 32 32)] 29)).alloc (.cells #[.string ⟨#[145, 124, 246, 158, 189, 104, 178, 236, 155, 159, 233, 163, 234, 221, 166, 146, 205, 67, 210, 245, 149, 152, 237, 133, 140, 2, 194, 101, 47, 191, 146, 46]⟩, .string ⟨#[196, 84, 24, 94, 106, 22, 147, 110, 57, 51, 64, 56, 172, 239, 131, 139, 251, 24, 111, 255, 116, 128, 173, 196, 40, 147, 130, 236, 214, 211, 148, 240]⟩] 9)).cell? ⟨w5.heap.size + 1, 1, none⟩ = some (.string ⟨#[196, 84, 24, 94, 106, 22, 147, 110, 57, 51, 64, 56, 172, 239, 131, 139, 251, 24, 111, 255, 116, 128, 173, 196, 40, 147, 130, 236, 214, 211, 148, 240]⟩) := (new_cell8 _ _ 9 1 _ (by simp)).trans rfl
          have h11lt : w5.heap.size + 1 < ((w5.alloc (.cells #[(.slice (some ⟨w4.heap.size + 1 + 1, 0, none⟩) 32 32), (.slice (some ⟨g5, 0, none⟩) 32 32)] 29)).alloc (.cells #[.string ⟨#[145, 124, 246, 158, 189, 104, 178, 236, 155, 159, 233, 163, 234, 221, 166, 146, 205, 67, 210, 245, 149, 152, 237, 133, 140, 2, 194, 101, 47, 191, 146, 46]⟩, .string ⟨#[196, 84, 24, 94, 106, 22, 147, 110, 57, 51, 64, 56, 172, 239, 131, 139, 251, 24, 111, 255, 116, 128, 173, 196, 40, 147, 130, 236, 214, 211, 148, 240]⟩] 9)).heap.size := by simp
          have hKy : Own ((w5.alloc (.cells #[(.slice (some ⟨w4.heap.size + 1 + 1, 0, none⟩) 32 32), (.slice (some ⟨g5, 0, none⟩) 32 32)] 29)).alloc (.cells #[.string ⟨#[145, 124, 246, 158, 189, 104, 178, 236, 155, 159, 233, 163, 234, 221, 166, 146, 205, 67, 210, 245, 149, 152, 237, 133, 140, 2, 194, 101, 47, 191, 146, 46]⟩, .string ⟨#[196, 84, 24, 94, 106, 22, 147, 110, 57, 51, 64, 56, 172, 239, 131, 139, 251, 24, 111, 255, 116, 128, 173, 196, 40, 147, 130, 236, 214, 211, 148, 240]⟩] 9)) _ (.slice (some ⟨g3, 0, none⟩) 32 32) two32 := (((h3.below hb4 (Nat.le_refl _)).below hbA (Nat.le_refl _)).below hb5 (Nat.le_refl _)).below hbB (Nat.le_refl _)
          have hDy : Own ((w5.alloc (.cells #[(.slice (some ⟨w4.heap.size + 1 + 1, 0, none⟩) 32 32), (.slice (some ⟨g5, 0, none⟩) 32 32)] 29)).alloc (.cells #[.string ⟨#[145, 124, 246, 158, 189, 104, 178, 236, 155, 159, 233, 163, 234, 221, 166, 146, 205, 67, 210, 245, 149, 152, 237, 133, 140, 2, 194, 101, 47, 191, 146, 46]⟩, .string ⟨#[196, 84, 24, 94, 106, 22, 147, 110, 57, 51, 64, 56, 172, 239, 131, 139, 251, 24, 111, 255, 116, 128, 173, 196, 40, 147, 130, 236, 214, 211, 148, 240]⟩] 9)) _ (.slice (some ⟨g5, 0, none⟩) 32 32) four32 := (((h5.below hb4 (Nat.le_refl _)).below hbA (Nat.le_refl _)).below hb5 (Nat.le_refl _)).below hbB (Nat.le_refl _)
          revert z10 z11 h11lt hbB hKy hDy
          generalize ((w5.alloc (.cells #[(.slice (some ⟨w4.heap.size + 1 + 1, 0, none⟩) 32 32), (.slice (some ⟨g5, 0, none⟩) 32 32)] 29)).alloc (.cells #[.string ⟨#[145, 124, 246, 158, 189, 104, 178, 236, 155, 159, 233, 163, 234, 221, 166, 146, 205, 67, 210, 245, 149, 152, 237, 133, 140, 2, 194, 101, 47, 191, 146, 46]⟩, .string ⟨#[196, 84, 24, 94, 106, 22, 147, 110, 57, 51, 64, 56, 172, 239, 131, 139, 251, 24, 111, 255, 116, 128, 173, 196, 40, 147, 130, 236, 214, 211, 148, 240]⟩] 9)) = w7
          intro hbB z10 z11 h11lt hKy hDy
          have hb7 : Below wa.heap.size wa w7 := hb5.trans (hbB.mono hb5.size)
          have h8c := (hb7.cell (p := ⟨w4.heap.size, 1, none⟩) (by show w4.heap.size < _; omega)).trans z8
          have h9c := (hb7.cell (p := ⟨w4.heap.size + 1, 1, none⟩) hlA).trans z9
          have hw7 : Below w.heap.size w w7 := (hb.trans (hb4.mono hb.size)).trans ((hbA.trans (hb7.mono hbA.size)).mono (by have := hb.size; have := hb4.size; omega))
          have s7 := hb7.size
          have h8lt : w4.heap.size < w7.heap.size := by omega
          have h9lt : w4.heap.size + 1 < w7.heap.size := by omega
          have h10lt : w5.heap.size < w7.heap.size := by omega
          have HE : Box (∀ (w : World) (A : Option Addr) (c : Nat) (B : Option Addr) (c1 : Nat), Bytes w A 32 two32 → 32 ≤ c → Bytes w B 32 four32 → 32 ≤ c1 → Calls Try.prog 69 #[.slice A 32 c, .int .i64 219902325555, .slice B 32 c1] w (RetRow end2 32 w)) := ⟨enc_four⟩
          clear h3 h5 h36 h40 hb hb4 hb5 hz4 hz5 z8 z9 hlA hbA hbB hb7 s7 HR
          go_wp2_with fail
          refine wp_region_held_drew (S := fun w' => Below w7.heap.size w7 w') (by kernel_rfl) (Below.refl _ _).drew (fun hS => ?_)
          refine wpAnyH_take (i := 0) (oi := ⟨some 45, _, _, _, _, _⟩) (v := .slice (some ⟨w4.heap.size, 0, none⟩) 2 2) rfl (by kernel_rfl) (by kernel_rfl) (by kernel_rfl) (fun _ _ _ h => h) (Or.inl ⟨by kernel_rfl, fun w' hSw => ?_⟩) hS ?_
          · go_simp
          simp only [Act.put, List.setIfInBounds_toArray, List.set_cons_zero, List.set_cons_succ]
          refine wpAnyH_take (i := 1) (oi := ⟨some 46, _, _, _, _, _⟩) (v := .int .i64 1) rfl (by kernel_rfl) (by kernel_rfl) (by kernel_rfl) (fun _ _ _ h => h) (Or.inl ⟨by kernel_rfl, fun w' hSw => ?_⟩) hS ?_
          · go_simp
          simp only [Act.put, List.setIfInBounds_toArray, List.set_cons_zero, List.set_cons_succ]
          refine wpAnyH_take (i := 2) (oi := ⟨some 47, _, _, _, _, _⟩) (v := .pointer (some ⟨w4.heap.size, 1, none⟩)) rfl (by kernel_rfl) (by kernel_rfl) (by kernel_rfl) (fun _ _ _ h => h) (Or.inl ⟨by kernel_rfl, fun w' hSw => ?_⟩) hS ?_
          · go_simp
          simp only [Act.put, List.setIfInBounds_toArray, List.set_cons_zero, List.set_cons_succ]
          refine wpAnyH_take (i := 3) (oi := ⟨some 48, _, _, _, _, _⟩) (v := .slice (some ⟨g3, 0, none⟩) 32 32) rfl (by kernel_rfl) (by kernel_rfl) (by kernel_rfl) (fun _ _ _ h => h) (Or.inl ⟨by kernel_rfl, fun w' hSw => ?_⟩) hS ?_
          · (have c := (hSw.cell (p := ⟨w4.heap.size, 1, none⟩) h8lt).trans h8c; go_simp)
          simp only [Act.put, List.setIfInBounds_toArray, List.set_cons_zero, List.set_cons_succ]
          refine wpAnyH_take (i := 4) (oi := ⟨some 49, _, _, _, _, _⟩) (v := .slice (some ⟨w4.heap.size + 1, 0, none⟩) 2 2) rfl (by kernel_rfl) (by kernel_rfl) (by kernel_rfl) (fun _ _ _ h => h) (Or.inl ⟨by kernel_rfl, fun w' hSw => ?_⟩) hS ?_
          · go_simp
          simp only [Act.put, List.setIfInBounds_toArray, List.set_cons_zero, List.set_cons_succ]
          refine wpAnyH_take (i := 5) (oi := ⟨some 50, _, _, _, _, _⟩) (v := .int .i64 1) rfl (by kernel_rfl) (by kernel_rfl) (by kernel_rfl) (fun _ _ _ h => h) (Or.inl ⟨by kernel_rfl, fun w' hSw => ?_⟩) hS ?_
          · go_simp
          simp only [Act.put, List.setIfInBounds_toArray, List.set_cons_zero, List.set_cons_succ]
          refine wpAnyH_take (i := 6) (oi := ⟨some 51, _, _, _, _, _⟩) (v := .pointer (some ⟨w4.heap.size + 1, 1, none⟩)) rfl (by kernel_rfl) (by kernel_rfl) (by kernel_rfl) (fun _ _ _ h => h) (Or.inl ⟨by kernel_rfl, fun w' hSw => ?_⟩) hS ?_
          · go_simp
          simp only [Act.put, List.setIfInBounds_toArray, List.set_cons_zero, List.set_cons_succ]
          refine wpAnyH_take (i := 7) (oi := ⟨some 52, _, _, _, _, _⟩) (v := .int .i64 219902325555) rfl (by kernel_rfl) (by kernel_rfl) (by kernel_rfl) (fun _ _ _ h => h) (Or.inl ⟨by kernel_rfl, fun w' hSw => ?_⟩) hS ?_
          · (have c := (hSw.cell (p := ⟨w4.heap.size + 1, 1, none⟩) h9lt).trans h9c; go_simp)
          simp only [Act.put, List.setIfInBounds_toArray, List.set_cons_zero, List.set_cons_succ]
          refine wpAnyH_take (i := 8) (oi := ⟨some 53, _, _, _, _, _⟩) (v := .slice (some ⟨w5.heap.size, 0, none⟩) 2 2) rfl (by kernel_rfl) (by kernel_rfl) (by kernel_rfl) (fun _ _ _ h => h) (Or.inl ⟨by kernel_rfl, fun w' hSw => ?_⟩) hS ?_
          · go_simp
          simp only [Act.put, List.setIfInBounds_toArray, List.set_cons_zero, List.set_cons_succ]
          refine wpAnyH_take (i := 9) (oi := ⟨some 54, _, _, _, _, _⟩) (v := .int .i64 1) rfl (by kernel_rfl) (by kernel_rfl) (by kernel_rfl) (fun _ _ _ h => h) (Or.inl ⟨by kernel_rfl, fun w' hSw => ?_⟩) hS ?_
          · go_simp
          simp only [Act.put, List.setIfInBounds_toArray, List.set_cons_zero, List.set_cons_succ]
          refine wpAnyH_take (i := 10) (oi := ⟨some 55, _, _, _, _, _⟩) (v := .pointer (some ⟨w5.heap.size, 1, none⟩)) rfl (by kernel_rfl) (by kernel_rfl) (by kernel_rfl) (fun _ _ _ h => h) (Or.inl ⟨by kernel_rfl, fun w' hSw => ?_⟩) hS ?_
          · go_simp
          simp only [Act.put, List.setIfInBounds_toArray, List.set_cons_zero, List.set_cons_succ]
          refine wpAnyH_take (i := 11) (oi := ⟨some 56, _, _, _, _, _⟩) (v := .slice (some ⟨g5, 0, none⟩) 32 32) rfl (by kernel_rfl) (by kernel_rfl) (by kernel_rfl) (fun _ _ _ h => h) (Or.inl ⟨by kernel_rfl, fun w' hSw => ?_⟩) hS ?_
          · (have c := (hSw.cell (p := ⟨w5.heap.size, 1, none⟩) h10lt).trans z10; go_simp)
          simp only [Act.put, List.setIfInBounds_toArray, List.set_cons_zero, List.set_cons_succ]
          refine wpAnyH_ready (rs := [12]) (by kernel_rfl) (by simp) ?_
          refine (AllReadyH.cons (o := ⟨some 57, _, _, _, _, _⟩) rfl (fun K hK => ?_) AllReadyH.nil)
          rw [if_pos (by kernel_rfl)]
          go_simp
          refine (HE.out _ _ _ _ _ (hKy.below hS (Nat.le_refl _)).rd (by decide) (hDy.below hS (Nat.le_refl _)).rd (by decide)).mono ?_
          rintro e v1 ⟨A57, c57, rfl, hO57, hC57, hq1⟩
          have hO57 := hO57.le hS.size
          refine hK.out _ _ (hS.trans (hq1.mono (by first | exact hS.size | (have := hS.size; simp at this ⊢; omega)))) (fun hS => ?_)
          clear hK K
          refine wpAnyH_take (i := 13) (oi := ⟨some 44, _, _, _, _, _⟩) (v := .tuple #[.slice A57 32 c57, .int .i64 0]) rfl (by kernel_rfl) (by kernel_rfl) (by kernel_rfl) (fun _ _ _ h => h) (Or.inl ⟨by kernel_rfl, fun w' hSw => ?_⟩) hS ?_
          · go_simp
          simp only [Act.put, List.setIfInBounds_toArray, List.set_cons_zero, List.set_cons_succ]
          refine wpAnyH_take (i := 14) (oi := ⟨some 58, _, _, _, _, _⟩) (v := .slice A57 32 c57) rfl (by kernel_rfl) (by kernel_rfl) (by kernel_rfl) (fun _ _ _ h => h) (Or.inl ⟨by kernel_rfl, fun w' hSw => ?_⟩) hS ?_
          · go_simp
          simp only [Act.put, List.setIfInBounds_toArray, List.set_cons_zero, List.set_cons_succ]
          refine wpAnyH_take (i := 15) (oi := ⟨some 59, _, _, _, _, _⟩) (v := .int .i64 0) rfl (by kernel_rfl) (by kernel_rfl) (by kernel_rfl) (fun _ _ _ h => h) (Or.inl ⟨by kernel_rfl, fun w' hSw => ?_⟩) hS ?_
          · go_simp
          simp only [Act.put, List.setIfInBounds_toArray, List.set_cons_zero, List.set_cons_succ]
          refine wpAnyH_take (i := 16) (oi := ⟨some 12, _, _, _, _, _⟩) (v := .slice A57 32 c57) rfl (by kernel_rfl) (by kernel_rfl) (by kernel_rfl) (fun _ _ _ h => h) (Or.inl ⟨by kernel_rfl, fun w' hSw => ?_⟩) hS ?_
          · go_simp
          simp only [Act.put, List.setIfInBounds_toArray, List.set_cons_zero, List.set_cons_succ]
          refine wpAnyH_take (i := 17) (oi := ⟨some 13, _, _, _, _, _⟩) (v := .int .i64 0) rfl (by kernel_rfl) (by kernel_rfl) (by kernel_rfl) (fun _ _ _ h => h) (Or.inl ⟨by kernel_rfl, fun w' hSw => ?_⟩) hS ?_
          · go_simp
          simp only [Act.put, List.setIfInBounds_toArray, List.set_cons_zero, List.set_cons_succ]
          refine wpAnyH_done (by kernel_rfl) ?_ _
          go_wp2_with fail
          have hw8 := hw7.trans (hS.mono hw7.size)
          have h11c := (hS.cell (p := ⟨w5.heap.size + 1, 1, none⟩) h11lt).trans z11
          have h11lt : w5.heap.size + 1 < v1.heap.size := by have := hS.size; omega
          clear hS
          refine wp_region_held_drew (S := fun w' => Below v1.heap.size v1 w') (by kernel_rfl) (Below.refl _ _).drew (fun hS => ?_)
          refine wpAnyH_take (i := 0) (oi := ⟨some 60, _, _, _, _, _⟩) (v := .int .i64 0) rfl (by kernel_rfl) (by kernel_rfl) (by kernel_rfl) (fun _ _ _ h => h) (Or.inl ⟨by kernel_rfl, fun w' hSw => ?_⟩) hS ?_
          · go_simp
          simp only [Act.put, List.setIfInBounds_toArray, List.set_cons_zero, List.set_cons_succ]
          refine wpAnyH_take (i := 1) (oi := ⟨some 61, _, _, _, _, _⟩) (v := .bool true) rfl (by kernel_rfl) (by kernel_rfl) (by kernel_rfl) (fun _ _ _ h => h) (Or.inl ⟨by kernel_rfl, fun w' hSw => ?_⟩) hS ?_
          · go_simp
          simp only [Act.put, List.setIfInBounds_toArray, List.set_cons_zero, List.set_cons_succ]
          refine wpAnyH_take (i := 2) (oi := ⟨some 62, _, _, _, _, _⟩) (v := .bool true) rfl (by kernel_rfl) (by kernel_rfl) (by kernel_rfl) (fun _ _ _ h => h) (Or.inl ⟨by kernel_rfl, fun w' hSw => ?_⟩) hS ?_
          · go_simp
          simp only [Act.put, List.setIfInBounds_toArray, List.set_cons_zero, List.set_cons_succ]
          refine wpAnyH_take (i := 3) (oi := ⟨some 63, _, _, _, _, _⟩) (v := .slice A57 32 c57) rfl (by kernel_rfl) (by kernel_rfl) (by kernel_rfl) (fun _ _ _ h => h) (Or.inl ⟨by kernel_rfl, fun w' hSw => ?_⟩) hS ?_
          · go_simp
          simp only [Act.put, List.setIfInBounds_toArray, List.set_cons_zero, List.set_cons_succ]
          refine wpAnyH_take (i := 4) (oi := ⟨some 64, _, _, _, _, _⟩) (v := .string (strL (end2))) rfl (by kernel_rfl) (by kernel_rfl) (by kernel_rfl) (fun _ _ _ h => h) (yields_str (by kernel_rfl) (.tmp 63) rfl (A57) (32) (c57) (end2) rfl (fun w' h => (hO57.below h (Nat.le_refl _)).rd)) hS ?_
          simp only [Act.put, List.setIfInBounds_toArray, List.set_cons_zero, List.set_cons_succ]
          refine wpAnyH_take (i := 5) (oi := ⟨some 65, _, _, _, _, _⟩) (v := .slice (some ⟨w5.heap.size + 1, 0, none⟩) 2 2) rfl (by kernel_rfl) (by kernel_rfl) (by kernel_rfl) (fun _ _ _ h => h) (Or.inl ⟨by kernel_rfl, fun w' hSw => ?_⟩) hS ?_
          · go_simp
          simp only [Act.put, List.setIfInBounds_toArray, List.set_cons_zero, List.set_cons_succ]
          refine wpAnyH_take (i := 6) (oi := ⟨some 66, _, _, _, _, _⟩) (v := .int .i64 1) rfl (by kernel_rfl) (by kernel_rfl) (by kernel_rfl) (fun _ _ _ h => h) (Or.inl ⟨by kernel_rfl, fun w' hSw => ?_⟩) hS ?_
          · go_simp
          simp only [Act.put, List.setIfInBounds_toArray, List.set_cons_zero, List.set_cons_succ]
          refine wpAnyH_take (i := 7) (oi := ⟨some 67, _, _, _, _, _⟩) (v := .pointer (some ⟨w5.heap.size + 1, 1, none⟩)) rfl (by kernel_rfl) (by kernel_rfl) (by kernel_rfl) (fun _ _ _ h => h) (Or.inl ⟨by kernel_rfl, fun w' hSw => ?_⟩) hS ?_
          · go_simp
          simp only [Act.put, List.setIfInBounds_toArray, List.set_cons_zero, List.set_cons_succ]
          refine wpAnyH_take (i := 8) (oi := ⟨some 68, _, _, _, _, _⟩) (v := .string ⟨#[196, 84, 24, 94, 106, 22, 147, 110, 57, 51, 64, 56, 172, 239, 131, 139, 251, 24, 111, 255, 116, 128, 173, 196, 40, 147, 130, 236, 214, 211, 148, 240]⟩) rfl (by kernel_rfl) (by kernel_rfl) (by kernel_rfl) (fun _ _ _ h => h) (Or.inl ⟨by kernel_rfl, fun w' hSw => ?_⟩) hS ?_
          · (have c := (hSw.cell (p := ⟨w5.heap.size + 1, 1, none⟩) h11lt).trans h11c; go_simp)
          simp only [Act.put, List.setIfInBounds_toArray, List.set_cons_zero, List.set_cons_succ]
          refine wpAnyH_take (i := 9) (oi := ⟨some 69, _, _, _, _, _⟩) (v := .bool true) rfl (by kernel_rfl) (by kernel_rfl) (by kernel_rfl) (fun _ _ _ h => h) (yields_strEq (by kernel_rfl) (.tmp 64) (.tmp 68) rfl (strL end2) (⟨#[196, 84, 24, 94, 106, 22, 147, 110, 57, 51, 64, 56, 172, 239, 131, 139, 251, 24, 111, 255, 116, 128, 173, 196, 40, 147, 130, 236, 214, 211, 148, 240]⟩) _ (decide_eq_true (by decide)) rfl rfl) hS ?_
          simp only [Act.put, List.setIfInBounds_toArray, List.set_cons_zero, List.set_cons_succ]
          refine wpAnyH_take (i := 10) (oi := ⟨some 70, _, _, _, _, _⟩) (v := .bool true) rfl (by kernel_rfl) (by kernel_rfl) (by kernel_rfl) (fun _ _ _ h => h) (Or.inl ⟨by kernel_rfl, fun w' hSw => ?_⟩) hS ?_
          · go_simp
          simp only [Act.put, List.setIfInBounds_toArray, List.set_cons_zero, List.set_cons_succ]
          refine wpAnyH_take (i := 11) (oi := ⟨some 71, _, _, _, _, _⟩) (v := .bool true) rfl (by kernel_rfl) (by kernel_rfl) (by kernel_rfl) (fun _ _ _ h => h) (Or.inl ⟨by kernel_rfl, fun w' hSw => ?_⟩) hS ?_
          · go_simp
          simp only [Act.put, List.setIfInBounds_toArray, List.set_cons_zero, List.set_cons_succ]
          refine wpAnyH_ready (rs := [12]) (by kernel_rfl) (by simp) ?_
          refine (AllReadyH.cons (o := ⟨some 72, _, _, _, _, _⟩) rfl (fun K hK => ?_) AllReadyH.nil)
          rw [if_pos (by kernel_rfl)]
          go_simp
          refine (awake8 _).mono ?_
          rintro e v1 ⟨rfl, hq1⟩
          have hqz1 := hq1.size
          refine hK.out _ _ (hS.trans (hq1.mono (by first | exact hS.size | (have := hS.size; simp at this ⊢; omega)))) (fun hS => ?_)
          clear hK K
          refine wpAnyH_take (i := 13) (oi := ⟨some 73, _, _, _, _, _⟩) (v := .bool true) rfl (by kernel_rfl) (by kernel_rfl) (by kernel_rfl) (fun _ _ _ h => h) (Or.inl ⟨by kernel_rfl, fun w' hSw => ?_⟩) hS ?_
          · go_simp
          simp only [Act.put, List.setIfInBounds_toArray, List.set_cons_zero, List.set_cons_succ]
          refine wpAnyH_take (i := 14) (oi := ⟨some 2, _, _, _, _, _⟩) (v := .bool true) rfl (by kernel_rfl) (by kernel_rfl) (by kernel_rfl) (fun _ _ _ h => h) (Or.inl ⟨by kernel_rfl, fun w' hSw => ?_⟩) hS ?_
          · go_simp
          simp only [Act.put, List.setIfInBounds_toArray, List.set_cons_zero, List.set_cons_succ]
          refine wpAnyH_done (by kernel_rfl) ?_ _
          go_wp2_with fail
          go_ret
          exact ⟨rfl, hw8.trans (hS.mono hw8.size)⟩
        · have hj2 : j < 32 := by omega
          clear hj6
          have c1 := h5.cellAt (j := j) (by omega)
          have f1 := h5.freeAt j
          have q0 : (0 : Int) ≤ (j : Int) := by omega
          have q1 : (j : Int) < 32 := by omega
          have s1 := h5.stored j 68 (by decide)
          have s3 := Own.setCell (p := ⟨g5, j, none⟩) (u := .int .u8 68) h3 (fun e => n35 (by injection e))
          have s4 := hb.setCell (p := ⟨g5, j, none⟩) HW5.out (.int .u8 68)
          clear h3 h5 hb
          go_wp2_with fail
          go_roundw
          case rel =>
            refine ⟨j + 1, _, by go_num, by omega, s1, ⟨fun x hx => ?_⟩, s3, s4⟩
            rw [set_get (by rw [← HL5.out]; omega), H.out x hx]
            by_cases e2 : x = j
            · rw [if_pos e2, if_pos (by omega)]
            · rw [if_neg e2]
              by_cases e4 : x < j
              · rw [if_pos e4, if_pos (by omega)]
              · rw [if_neg e4, if_neg (by omega)]
          case measure => simp [intOf]; omega
    · have hj2 : j < 16 := by omega
      clear hj6
      have c1 := h3.cellAt (j := j) (by omega)
      have c2 := h3.cellAt (j := 16 + j) (by omega)
      have f1 := h3.freeAt j
      have f2 := h3.freeAt (16 + j)
      have q0 : (0 : Int) ≤ (j : Int) := by omega
      have q1 : (j : Int) < 16 := by omega
      have s1 := h3.stored j 17 (by decide)
      have s2 := s1.stored (16 + j) 34 (by decide)
      have hb3 := (hb.setCell (p := ⟨g3, j, none⟩) (Nat.le_refl _) (.int .u8 17)).setCell (p := ⟨g3, 16 + j, none⟩) (Nat.le_refl _) (.int .u8 34)
      have c3 := s1.cellAt (j := 16 + j) (by omega)
      have f3 := s1.freeAt (16 + j)
      clear h3 hb
      go_wp2_with fail
      go_roundw
      case rel =>
        refine ⟨j + 1, _, by go_num, by omega, s2, ⟨fun x hx => ?_⟩, hb3⟩
        rw [set_get (by rw [List.length_set, ← HL3.out]; omega), set_get (by rw [← HL3.out]; omega), H.out x hx]
        by_cases e1 : x = 16 + j
        · rw [if_pos e1, if_neg (by omega), if_pos (by omega)]
        · rw [if_neg e1]
          by_cases e2 : x = j
          · rw [if_pos e2, if_pos (by omega), if_pos (by omega)]
          · rw [if_neg e2]
            by_cases e3 : x < 16
            · rw [if_pos e3, if_pos e3]
              by_cases e4 : x < j
              · rw [if_pos e4, if_pos (by omega)]
              · rw [if_neg e4, if_neg (by omega)]
            · rw [if_neg e3, if_neg e3]
              by_cases e4 : x < 16 + j
              · rw [if_pos e4, if_pos (by omega)]
              · rw [if_neg e4, if_neg (by omega)]
      case measure => simp [intOf]; omega
theorem xtsKnown_walk {w : World} (k : Int) (_h0 : -9223372036854775808 ≤ k) (_h1 : k ≤ 9223372036854775807) :
    Calls Try.prog 26 #[.int .i64 k] w fun e w' => e = .returned (.bool true) ∧ Below w.heap.size w w' := by
  rcases (show k % 2 = 0 ∨ k % 2 = 1 by omega) with h | h
  · exact known8_0 k w h
  · exact known8_1 k w h
end Go.Proofs.Ytibfihjcjohadaa
