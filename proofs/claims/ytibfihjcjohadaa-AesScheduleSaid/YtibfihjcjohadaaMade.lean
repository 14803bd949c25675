/-
  The walk of aes.made: a new block of 2560 bytes: what each byte is turned into, and back, and its products; nothing that was there is written.
-/
import Derived.Test.YtibfihjcjohadaaTab
import Derived.Test.YtibfihjcjohadaaPAes
import Derived.Lib.LazyBuf
namespace Go.Proofs.Ytibfihjcjohadaa
open Go.RowKit Go.Op
open Fld (tw mul tw_lt xor_lt mul_lt pw npow inv inv_lt)
open Sbx (sub sub_lt back back_lt)
open Aes (mx un)
/-- what the tables hold -/
def tabN (i : Nat) : Nat :=
  if i < 256 then sub i else if i < 512 then back (i - 256) else if i < 1536 then mul ((i - 512) / 4) (mx ((i - 512) % 4)) else mul ((i - 1536) / 4) (un ((i - 1536) % 4))
/-- block T is the tables -/
def TabM (w : World) (T : Nat) : Prop := w.rowIs T 101 2560 (bCell tabN)
/-- the tables, up to byte k -/
def TabP (k : Nat) (f : Nat → Nat) : Prop := (∀ j, j < 512 → f j = tabN j) ∧ ∀ a, a < k → ∀ c, c < 4 → f (512 + a * 4 + c) = tabN (512 + a * 4 + c) ∧ f (1536 + a * 4 + c) = tabN (1536 + a * 4 + c)
theorem tabP_all {f : Nat → Nat} (h : TabP 256 f) : ∀ j, j < 2560 → f j = tabN j := by
  intro j hj
  by_cases h1 : j < 512
  · exact h.1 j h1
  · by_cases h2 : j < 1536
    · have := (h.2 ((j - 512) / 4) (by omega) ((j - 512) % 4) (by omega)).1
      rwa [show 512 + (j - 512) / 4 * 4 + (j - 512) % 4 = j by omega] at this
    · have := (h.2 ((j - 1536) / 4) (by omega) ((j - 1536) % 4) (by omega)).2
      rwa [show 1536 + (j - 1536) / 4 * 4 + (j - 1536) % 4 = j by omega] at this
/-- four cells anew -/
def four (f : Nat → Nat) (o a b c d : Nat) (j : Nat) : Nat := if o ≤ j ∧ j < o + 4 then [a, b, c, d].getD (j - o) 0 else f j
theorem tabN_mix {k c : Nat} (hk : k < 256) (hc : c < 4) : tabN (512 + k * 4 + c) = [tw k, k, k, mul k 3].getD c 0 := by
  unfold tabN
  rw [if_neg (by omega), if_neg (by omega), if_pos (by omega), show (512 + k * 4 + c - 512) / 4 = k by omega, show (512 + k * 4 + c - 512) % 4 = c by omega]
  have h : c = 0 ∨ c = 1 ∨ c = 2 ∨ c = 3 := by omega
  rcases h with rfl | rfl | rfl | rfl
  · show mul k 2 = tw k
    rw [Fld.mul_comm hk (by decide), Fld.two_mul hk]
  · exact Fld.mul_one
  · exact Fld.mul_one
  · rfl
theorem tabN_undo {k c : Nat} (hk : k < 256) (hc : c < 4) : tabN (1536 + k * 4 + c) = [mul k 14, mul k 9, mul k 13, mul k 11].getD c 0 := by
  unfold tabN
  rw [if_neg (by omega), if_neg (by omega), if_neg (by omega), show (1536 + k * 4 + c - 1536) / 4 = k by omega, show (1536 + k * 4 + c - 1536) % 4 = c by omega]
  have h : c = 0 ∨ c = 1 ∨ c = 2 ∨ c = 3 := by omega
  rcases h with rfl | rfl | rfl | rfl <;> rfl
theorem tabP_succ {k : Nat} {f : Nat → Nat} (hk : k < 256) (h : TabP k f) : TabP (k + 1) (four (four f (512 + k * 4) (tw k) k k (mul k 3)) (1536 + k * 4) (mul k 14) (mul k 9) (mul k 13) (mul k 11)) := by
  refine ⟨fun j hj => ?_, fun a ha c hc => ⟨?_, ?_⟩⟩
  · unfold four
    rw [if_neg (by omega), if_neg (by omega)]
    exact h.1 j hj
  · unfold four
    rw [if_neg (by omega)]
    by_cases e : a = k
    · subst e
      rw [if_pos (by omega), tabN_mix hk hc, show 512 + a * 4 + c - (512 + a * 4) = c by omega]
    · rw [if_neg (by omega)]
      exact (h.2 a (by omega) c hc).1
  · unfold four
    by_cases e : a = k
    · subst e
      rw [if_pos (by omega), tabN_undo hk hc, show 1536 + a * 4 + c - (1536 + a * 4) = c by omega]
    · rw [if_neg (by omega), if_neg (by omega)]
      exact (h.2 a (by omega) c hc).2
abbrev cells4 (a b c d : Nat) : Array Value := #[.int .u8 (a : Int), .int .u8 (b : Int), .int .u8 (c : Int), .int .u8 (d : Int)]
theorem rowIs_four {w : World} {T : Nat} {f : Nat → Nat} (h : w.rowIs T 101 2560 (bCell f)) (o a b c d : Nat) : (w.setCells T o (cells4 a b c d).toList).rowIs T 101 2560 (bCell (four f o a b c d)) := by
  refine (Go.rowIs_setCells _ o w _ h).congr (fun j _ => ?_)
  unfold four bCell
  simp only [List.length_cons, List.length_nil]
  by_cases e : o ≤ j ∧ j < o + 4
  · rw [if_pos e, if_pos e]
    have h : j - o = 0 ∨ j - o = 1 ∨ j - o = 2 ∨ j - o = 3 := by omega
    rcases h with h | h | h | h <;> rw [h] <;> rfl
  · rw [if_neg e, if_neg e]
theorem rowIs_there {w : World} {T t n : Nat} {f : Nat → Value} (h : w.rowIs T t n f) {o m : Nat} (hm : o + m ≤ n) : w.there T o m := fun j hj => ⟨by rw [h.cell (show o + j < n by omega)]; rfl, h.frozen _⟩
theorem size98 : (Try.prog.info? 98).map (·.size) = some 4 := by kernel_rfl
theorem wpo_store98 {o : Oper} {ac : Act} {w : World} {K : Act → World → Prop} {Q : Exit → Act → World → Prop} (x y : Operand) (ho : o.op = .store 98 x y)
    (T off : Nat) (f : Nat → Nat) (a b c d : Nat) (hx : ac.eval x = .pointer (some ⟨T, off, none⟩)) (hy : ac.eval y = .agg (cells4 a b c d)) (ha : w.rowIs T 101 2560 (bCell f)) (hoff : off + 4 ≤ 2560)
    (h : K (ac.put o.dst undef) (w.setCells T off (cells4 a b c d).toList)) : o.wp Try.prog ac w K Q :=
  wp_store_mid 98 x y ho T off (cells4 a b c d) hx hy (rowIs_there ha hoff) size98 (by simp [cells4, Value.oneCell']) h
theorem wp_store53m {ops : Array Oper} {rest : List Oper} {o : Oper} {a : Act} {w : World} {Q : Exit → Act → World → Prop} (hgd : o.guard = none) (x y : Operand) (ho : o.op = .store 53 x y)
    (T off : Nat) (f k : Nat → Nat) (hx : a.eval x = .pointer (some ⟨T, off, none⟩)) (hy : a.eval y = .agg (cellsN 256 k)) (ha : w.rowIs T 101 2560 (bCell f)) (hoff : off + 256 ≤ 2560)
    (h : wpList Try.prog ops Q rest (a.put o.dst undef) (w.setCells T off (cellsN 256 k).toList)) : wpList Try.prog ops Q (o :: rest) a w :=
  wpList_store_mid hgd 53 x y ho T off (cellsN 256 k) hx hy (by rw [cellsN_size]; exact rowIs_there ha hoff) (size53' k) (cellsN_one 256 k) h
theorem rowIs_long {w : World} {T off : Nat} {f k : Nat → Nat} (h : w.rowIs T 101 2560 (bCell f)) : (w.setCells T off (cellsN 256 k).toList).rowIs T 101 2560 (bCell fun j => if off ≤ j ∧ j < off + 256 then k (j - off) else f j) := by
  refine (Go.rowIs_setCells _ off w _ h).congr (fun j _ => ?_)
  have hl : (cellsN 256 k).toList.length = 256 := by rw [Array.length_toList, cellsN_size]
  show (if off ≤ j ∧ j < off + (cellsN 256 k).toList.length then (cellsN 256 k).toList[j - off]?.getD default else Value.int .u8 ((f j : Nat) : Int)) = Value.int .u8 ((if off ≤ j ∧ j < off + 256 then k (j - off) else f j : Nat) : Int)
  rw [hl]
  by_cases e : off ≤ j ∧ j < off + 256
  · rw [if_pos e, if_pos e, Array.getElem?_toList, cellsN_get (show j - off < 256 by omega)]; rfl
  · rw [if_neg e, if_neg e]
/-- what a region of made keeps -/
structure SM (w : World) (f : Nat → Nat) (w' : World) : Prop where
  row : w'.rowIs w.heap.size 101 2560 (bCell f)
  bel : Below w.heap.size w w'
  sz : w.heap.size + 1 ≤ w'.heap.size
/-- the tables hold f, or what f has become -/
def SA (w : World) (f g : Nat → Nat) (w' : World) : Prop := SM w f w' ∨ SM w g w'
theorem size_setCells (b : Nat) : ∀ (vs : List Value) (o : Nat) (w : World), (w.setCells b o vs).heap.size = w.heap.size
  | [], _, _ => rfl
  | v :: r, o, w => by
    show ((w.setCell ⟨b, o, none⟩ v).setCells b (o + 1) r).heap.size = _
    rw [size_setCells b r (o + 1) _, World.size_setCell]
theorem SM.set4 {w : World} {f : Nat → Nat} {w' : World} (h : SM w f w') (o a b c d : Nat) : SM w (four f o a b c d) (w'.setCells w.heap.size o (cells4 a b c d).toList) :=
  ⟨rowIs_four h.row o a b c d, Go.below_setCells (Nat.le_refl _) _ _ _ h.bel, by rw [size_setCells]; exact h.sz⟩
theorem SM.drew {w : World} {f : Nat → Nat} {w' : World} (h : SM w f w') : SM w f w'.drew := ⟨h.row, h.bel.drew, h.sz⟩
set_option maxRecDepth 100000 in
set_option maxHeartbeats 8000000 in
theorem made_any (w : World) :
    Calls Try.prog 81 #[] w fun e w' => e = .returned (.pointer (some ⟨w.heap.size, 0, none⟩)) ∧ TabM w' w.heap.size ∧ Below w.heap.size w w' ∧ w.heap.size + 1 ≤ w'.heap.size := by
  have z0 := zero_cells (show Try.zeroCells101 = Array.replicate 2560 (.int .u8 0) by kernel_rfl) w 101
  go_enter Try.func81, Try.ntmps81
  go_wp2_with fail
  refine (tables_any _).mono ?_
  rintro e w1 ⟨rfl, hb1⟩
  have hr : w1.rowIs w.heap.size 101 2560 (bCell fun _ => 0) := rowIs_below z0 hb1 (by simp)
  have hbel := below_alloc hb1
  have hsz : w.heap.size + 1 ≤ w1.heap.size := by have := hb1.size; simpa using this
  clear z0 hb1
  go_wp2_with (first
    | ((with_reducible show wpList _ _ _ (⟨none, Op.store 53 (.tmp 13) (.tmp 10), _, _, _, _⟩ :: _) _ _); refine wp_store53m rfl (.tmp 13) (.tmp 10) rfl w.heap.size 0 (fun _ => 0) sub rfl rfl hr (by omega) ?_)
    | ((with_reducible show wpList _ _ _ (⟨none, Op.store 53 (.tmp 15) (.tmp 11), _, _, _, _⟩ :: _) _ _); refine wp_store53m rfl (.tmp 15) (.tmp 11) rfl w.heap.size 256 _ back rfl rfl (rowIs_long hr) (by omega) ?_))

  have hM0 : SM w (fun j => if 256 ≤ j ∧ j < 256 + 256 then back (j - 256) else if 0 ≤ j ∧ j < 0 + 256 then sub (j - 0) else 0) ((w1.setCells w.heap.size 0 (cellsN 256 sub).toList).setCells w.heap.size 256 (cellsN 256 back).toList) :=
    ⟨rowIs_long (rowIs_long hr), Go.below_setCells (Nat.le_refl _) _ _ _ (Go.below_setCells (Nat.le_refl _) _ _ _ hbel), by rw [size_setCells, size_setCells]; exact hsz⟩
  clear hr hbel hsz
  revert hM0
  generalize (w1.setCells w.heap.size 0 (cellsN 256 sub).toList).setCells w.heap.size 256 (cellsN 256 back).toList = w2
  intro hM0
  go_loopw [2, 3, 16] (fun u c i wr => ∃ (k : Nat) (f : Nat → Nat), i = .int .i64 (k : Int) ∧ k ≤ 256 ∧ Box (TabP k f) ∧ SM w f wr) (fun _ _ i _ => 256 - (intOf i).toNat)
  case atStart =>
    refine ⟨0, _, rfl, by omega, ⟨fun j hj => ?_, fun a ha => absurd ha (by omega)⟩, hM0⟩
    unfold tabN
    by_cases h : j < 256
    · rw [if_neg (by omega), if_pos (by omega), if_pos h]; rfl
    · rw [if_pos (by omega), if_neg h, if_pos hj]
  case round =>
    obtain ⟨k, f, rfl, hk, HT, hM⟩ := hrel
    clear hM0 w2
    by_cases hk6 : k = 256
    · subst hk6
      have hR : TabM wr w.heap.size := hM.row.congr (fun i hi => by unfold bCell; rw [tabP_all HT.out i hi])
      clear HT
      go_wp2_with fail
      go_ret
      exact ⟨rfl, hR, hM.bel, hM.sz⟩
    · have hk2 : k < 256 := by omega
      have HT2 := Box.mk (tabP_succ hk2 HT.out)
      clear hk6 HT
      go_wp2_with fail
      have hM := hM.drew
      refine wp_region_held_drew (S := fun _ => True) (by kernel_rfl) trivial (fun hS => ?_)
      refine wpAnyH_take (i := 0) (oi := ⟨some 21, _, _, _, _, _⟩) (v := .pointer (some ⟨w.heap.size, 0, none⟩)) rfl (by kernel_rfl) (by kernel_rfl) (by kernel_rfl) (fun _ _ _ h => h) (Or.inl ⟨by kernel_rfl, fun w' hSw => ?_⟩) hS ?_
      · go_simp
      simp only [Act.put, List.setIfInBounds_toArray, List.set_cons_zero, List.set_cons_succ]
      refine wpAnyH_take (i := 1) (oi := ⟨some 22, _, _, _, _, _⟩) (v := .int .i64 (k : Int)) rfl (by kernel_rfl) (by kernel_rfl) (by kernel_rfl) (fun _ _ _ h => h) (Or.inl ⟨by kernel_rfl, fun w' hSw => ?_⟩) hS ?_
      · go_simp
      simp only [Act.put, List.setIfInBounds_toArray, List.set_cons_zero, List.set_cons_succ]
      refine wpAnyH_take (i := 2) (oi := ⟨some 23, _, _, _, _, _⟩) (v := .int .u8 (k : Int)) rfl (by kernel_rfl) (by kernel_rfl) (by kernel_rfl) (fun _ _ _ h => h) (Or.inl ⟨by kernel_rfl, fun w' hSw => ?_⟩) hS ?_
      · go_simp
      simp only [Act.put, List.setIfInBounds_toArray, List.set_cons_zero, List.set_cons_succ]
      refine wpAnyH_take (i := 4) (oi := ⟨some 25, _, _, _, _, _⟩) (v := .int .u8 (k : Int)) rfl (by kernel_rfl) (by kernel_rfl) (by kernel_rfl) (fun _ _ _ h => h) (Or.inl ⟨by kernel_rfl, fun w' hSw => ?_⟩) hS ?_
      · go_simp
      simp only [Act.put, List.setIfInBounds_toArray, List.set_cons_zero, List.set_cons_succ]
      refine wpAnyH_take (i := 5) (oi := ⟨some 26, _, _, _, _, _⟩) (v := .int .u8 (k : Int)) rfl (by kernel_rfl) (by kernel_rfl) (by kernel_rfl) (fun _ _ _ h => h) (Or.inl ⟨by kernel_rfl, fun w' hSw => ?_⟩) hS ?_
      · go_simp
      simp only [Act.put, List.setIfInBounds_toArray, List.set_cons_zero, List.set_cons_succ]
      refine wpAnyH_take (i := 6) (oi := ⟨some 27, _, _, _, _, _⟩) (v := .int .u8 (k : Int)) rfl (by kernel_rfl) (by kernel_rfl) (by kernel_rfl) (fun _ _ _ h => h) (Or.inl ⟨by kernel_rfl, fun w' hSw => ?_⟩) hS ?_
      · go_simp
      simp only [Act.put, List.setIfInBounds_toArray, List.set_cons_zero, List.set_cons_succ]
      refine wpAnyH_take (i := 9) (oi := ⟨some 30, _, _, _, _, _⟩) (v := .pointer (some ⟨w.heap.size, 0, none⟩)) rfl (by kernel_rfl) (by kernel_rfl) (by kernel_rfl) (fun _ _ _ h => h) (Or.inl ⟨by kernel_rfl, fun w' hSw => ?_⟩) hS ?_
      · go_simp
      simp only [Act.put, List.setIfInBounds_toArray, List.set_cons_zero, List.set_cons_succ]
      refine wpAnyH_take (i := 10) (oi := ⟨some 31, _, _, _, _, _⟩) (v := .pointer (some ⟨w.heap.size, 512, none⟩)) rfl (by kernel_rfl) (by kernel_rfl) (by kernel_rfl) (fun _ _ _ h => h) (Or.inl ⟨by kernel_rfl, fun w' hSw => ?_⟩) hS ?_
      · go_simp
      simp only [Act.put, List.setIfInBounds_toArray, List.set_cons_zero, List.set_cons_succ]
      refine wpAnyH_ready (rs := [3]) (by kernel_rfl) (by simp) ?_
      refine AllReadyH.cons (o := ⟨some 24, _, _, _, _, _⟩) rfl (fun K hK => ?_) AllReadyH.nil
      rw [if_pos (by kernel_rfl)]
      go_simp
      refine (twice_any k hk2 _).mono ?_
      rintro e v ⟨rfl, rfl⟩
      refine hK.out _ _ hS (fun hS => ?_)
      clear hK K
      refine wpAnyH_ready (rs := [7]) (by kernel_rfl) (by simp) ?_
      refine AllReadyH.cons (o := ⟨some 28, _, _, _, _, _⟩) rfl (fun K hK => ?_) AllReadyH.nil
      rw [if_pos (by kernel_rfl)]
      go_simp
      refine (mul_any k 3 hk2 (by decide) _).mono ?_
      rintro e v ⟨rfl, rfl⟩
      refine hK.out _ _ hS (fun hS => ?_)
      clear hK K
      refine wpAnyH_take (i := 8) (oi := ⟨some 29, _, _, _, _, _⟩) (v := .agg #[.int .u8 ((tw k : Nat) : Int), .int .u8 (k : Int), .int .u8 (k : Int), .int .u8 ((mul k 3 : Nat) : Int)]) rfl (by kernel_rfl) (by kernel_rfl) (by kernel_rfl) (fun _ _ _ h => h) (Or.inl ⟨by kernel_rfl, fun w' hSw => ?_⟩) hS ?_
      · go_simp
      simp only [Act.put, List.setIfInBounds_toArray, List.set_cons_zero, List.set_cons_succ]
      refine wpAnyH_take (i := 11) (oi := ⟨some 32, _, _, _, _, _⟩) (v := .pointer (some ⟨w.heap.size, (512 + k * 4), none⟩)) rfl (by kernel_rfl) (by kernel_rfl) (by kernel_rfl) (fun _ _ _ h => h) (Or.inl ⟨by kernel_rfl, fun w' hSw => ?_⟩) hS ?_
      · go_simp
      simp only [Act.put, List.setIfInBounds_toArray, List.set_cons_zero, List.set_cons_succ]
      refine wpAnyH_ready (rs := [12]) (by kernel_rfl) (by simp) ?_
      refine AllReadyH.cons (o := ⟨none, _, _, _, _, _⟩) rfl (fun K hK => ?_) AllReadyH.nil
      rw [if_pos (by kernel_rfl)]
      refine wpo_store98 (.tmp 32) (.tmp 29) rfl w.heap.size (512 + k * 4) f (tw k) k k (mul k 3) rfl rfl hM.row (by omega) ?_
      refine hK.out _ _ trivial (fun hS => ?_)
      clear hK K
      simp only [Act.put]
      refine wpAnyH_done (by kernel_rfl) ?_ _
      go_wp2_with fail
      obtain ⟨f2, hf2⟩ : ∃ f2, f2 = four f (512 + k * 4) (tw k) k k (mul k 3) := ⟨_, rfl⟩
      have hM := (hM.set4 (512 + k * 4) (tw k) k k (mul k 3)).drew
      rw [← hf2] at hM HT2
      clear hf2
      refine wp_region_held_drew (S := fun _ => True) (by kernel_rfl) trivial (fun hS => ?_)
      refine wpAnyH_take (i := 0) (oi := ⟨some 33, _, _, _, _, _⟩) (v := .pointer (some ⟨w.heap.size, 0, none⟩)) rfl (by kernel_rfl) (by kernel_rfl) (by kernel_rfl) (fun _ _ _ h => h) (Or.inl ⟨by kernel_rfl, fun w' hSw => ?_⟩) hS ?_
      · go_simp
      simp only [Act.put, List.setIfInBounds_toArray, List.set_cons_zero, List.set_cons_succ]
      refine wpAnyH_take (i := 1) (oi := ⟨some 34, _, _, _, _, _⟩) (v := .int .i64 (k : Int)) rfl (by kernel_rfl) (by kernel_rfl) (by kernel_rfl) (fun _ _ _ h => h) (Or.inl ⟨by kernel_rfl, fun w' hSw => ?_⟩) hS ?_
      · go_simp
      simp only [Act.put, List.setIfInBounds_toArray, List.set_cons_zero, List.set_cons_succ]
      refine wpAnyH_take (i := 2) (oi := ⟨some 35, _, _, _, _, _⟩) (v := .int .u8 (k : Int)) rfl (by kernel_rfl) (by kernel_rfl) (by kernel_rfl) (fun _ _ _ h => h) (Or.inl ⟨by kernel_rfl, fun w' hSw => ?_⟩) hS ?_
      · go_simp
      simp only [Act.put, List.setIfInBounds_toArray, List.set_cons_zero, List.set_cons_succ]
      refine wpAnyH_take (i := 4) (oi := ⟨some 37, _, _, _, _, _⟩) (v := .int .u8 (k : Int)) rfl (by kernel_rfl) (by kernel_rfl) (by kernel_rfl) (fun _ _ _ h => h) (Or.inl ⟨by kernel_rfl, fun w' hSw => ?_⟩) hS ?_
      · go_simp
      simp only [Act.put, List.setIfInBounds_toArray, List.set_cons_zero, List.set_cons_succ]
      refine wpAnyH_take (i := 6) (oi := ⟨some 39, _, _, _, _, _⟩) (v := .int .u8 (k : Int)) rfl (by kernel_rfl) (by kernel_rfl) (by kernel_rfl) (fun _ _ _ h => h) (Or.inl ⟨by kernel_rfl, fun w' hSw => ?_⟩) hS ?_
      · go_simp
      simp only [Act.put, List.setIfInBounds_toArray, List.set_cons_zero, List.set_cons_succ]
      refine wpAnyH_take (i := 8) (oi := ⟨some 41, _, _, _, _, _⟩) (v := .int .u8 (k : Int)) rfl (by kernel_rfl) (by kernel_rfl) (by kernel_rfl) (fun _ _ _ h => h) (Or.inl ⟨by kernel_rfl, fun w' hSw => ?_⟩) hS ?_
      · go_simp
      simp only [Act.put, List.setIfInBounds_toArray, List.set_cons_zero, List.set_cons_succ]
      refine wpAnyH_take (i := 11) (oi := ⟨some 44, _, _, _, _, _⟩) (v := .pointer (some ⟨w.heap.size, 0, none⟩)) rfl (by kernel_rfl) (by kernel_rfl) (by kernel_rfl) (fun _ _ _ h => h) (Or.inl ⟨by kernel_rfl, fun w' hSw => ?_⟩) hS ?_
      · go_simp
      simp only [Act.put, List.setIfInBounds_toArray, List.set_cons_zero, List.set_cons_succ]
      refine wpAnyH_take (i := 12) (oi := ⟨some 45, _, _, _, _, _⟩) (v := .pointer (some ⟨w.heap.size, 1536, none⟩)) rfl (by kernel_rfl) (by kernel_rfl) (by kernel_rfl) (fun _ _ _ h => h) (Or.inl ⟨by kernel_rfl, fun w' hSw => ?_⟩) hS ?_
      · go_simp
      simp only [Act.put, List.setIfInBounds_toArray, List.set_cons_zero, List.set_cons_succ]
      refine wpAnyH_ready (rs := [3]) (by kernel_rfl) (by simp) ?_
      refine AllReadyH.cons (o := ⟨some 36, _, _, _, _, _⟩) rfl (fun K hK => ?_) AllReadyH.nil
      rw [if_pos (by kernel_rfl)]
      go_simp
      refine (mul_any k 14 hk2 (by decide) _).mono ?_
      rintro e v ⟨rfl, rfl⟩
      refine hK.out _ _ hS (fun hS => ?_)
      clear hK K
      refine wpAnyH_ready (rs := [5]) (by kernel_rfl) (by simp) ?_
      refine AllReadyH.cons (o := ⟨some 38, _, _, _, _, _⟩) rfl (fun K hK => ?_) AllReadyH.nil
      rw [if_pos (by kernel_rfl)]
      go_simp
      refine (mul_any k 9 hk2 (by decide) _).mono ?_
      rintro e v ⟨rfl, rfl⟩
      refine hK.out _ _ hS (fun hS => ?_)
      clear hK K
      refine wpAnyH_ready (rs := [7]) (by kernel_rfl) (by simp) ?_
      refine AllReadyH.cons (o := ⟨some 40, _, _, _, _, _⟩) rfl (fun K hK => ?_) AllReadyH.nil
      rw [if_pos (by kernel_rfl)]
      go_simp
      refine (mul_any k 13 hk2 (by decide) _).mono ?_
      rintro e v ⟨rfl, rfl⟩
      refine hK.out _ _ hS (fun hS => ?_)
      clear hK K
      refine wpAnyH_ready (rs := [9]) (by kernel_rfl) (by simp) ?_
      refine AllReadyH.cons (o := ⟨some 42, _, _, _, _, _⟩) rfl (fun K hK => ?_) AllReadyH.nil
      rw [if_pos (by kernel_rfl)]
      go_simp
      refine (mul_any k 11 hk2 (by decide) _).mono ?_
      rintro e v ⟨rfl, rfl⟩
      refine hK.out _ _ hS (fun hS => ?_)
      clear hK K
      refine wpAnyH_take (i := 10) (oi := ⟨some 43, _, _, _, _, _⟩) (v := .agg #[.int .u8 ((mul k 14 : Nat) : Int), .int .u8 ((mul k 9 : Nat) : Int), .int .u8 ((mul k 13 : Nat) : Int), .int .u8 ((mul k 11 : Nat) : Int)]) rfl (by kernel_rfl) (by kernel_rfl) (by kernel_rfl) (fun _ _ _ h => h) (Or.inl ⟨by kernel_rfl, fun w' hSw => ?_⟩) hS ?_
      · go_simp
      simp only [Act.put, List.setIfInBounds_toArray, List.set_cons_zero, List.set_cons_succ]
      refine wpAnyH_take (i := 13) (oi := ⟨some 46, _, _, _, _, _⟩) (v := .pointer (some ⟨w.heap.size, (1536 + k * 4), none⟩)) rfl (by kernel_rfl) (by kernel_rfl) (by kernel_rfl) (fun _ _ _ h => h) (Or.inl ⟨by kernel_rfl, fun w' hSw => ?_⟩) hS ?_
      · go_simp
      simp only [Act.put, List.setIfInBounds_toArray, List.set_cons_zero, List.set_cons_succ]
      refine wpAnyH_ready (rs := [14]) (by kernel_rfl) (by simp) ?_
      refine AllReadyH.cons (o := ⟨none, _, _, _, _, _⟩) rfl (fun K hK => ?_) AllReadyH.nil
      rw [if_pos (by kernel_rfl)]
      refine wpo_store98 (.tmp 46) (.tmp 43) rfl w.heap.size (1536 + k * 4) f2 (mul k 14) (mul k 9) (mul k 13) (mul k 11) rfl rfl hM.row (by omega) ?_
      refine hK.out _ _ trivial (fun hS => ?_)
      clear hK K
      simp only [Act.put]
      refine wpAnyH_done (by kernel_rfl) ?_ _
      go_wp2_with fail
      have hM := hM.set4 (1536 + k * 4) (mul k 14) (mul k 9) (mul k 13) (mul k 11)
      go_roundw
      case rel => exact ⟨k + 1, _, by go_num, by omega, HT2, hM⟩
      case measure => simp [intOf]; omega
end Go.Proofs.Ytibfihjcjohadaa
