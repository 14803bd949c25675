/-
  The walk of the law's awake: the known keys and the known block end as the standard says.
-/
import Derived.Test.YtibfihjcjohadaaML
import Derived.Test.YtibfihjcjohadaaPA
import Derived.Deep.CutRange
namespace Go.Proofs.Ytibfihjcjohadaa
open Go.RowKit Go.Op
open Aes (words)
theorem blk_lt (i : Nat) : Aes.blk i < 256 := by unfold Aes.blk; split <;> omega
theorem encA_at (i : Nat) (hi : i < 16) : encK (List.range 16) Aes.blk i = (Aes.ks16.getD 10 []).getD i 0 := by
  unfold encK; rw [Aes.words16]; exact Aes.enc16 i hi
theorem encB_at (i : Nat) (hi : i < 16) : encK (List.range 32) Aes.blk i = (Aes.ks32.getD 14 []).getD i 0 := by
  unfold encK; rw [Aes.words32]; exact Aes.enc32 i hi
theorem mayA : MayK (List.range 16).length := .inl (by simp)
theorem mayB : MayK (List.range 32).length := .inr (by simp)
/-- the known ends, as letters -/
structure KnownS (w : World) (C D g : Nat) (x y : Nat → Nat) : Prop where
  ex : ∀ w1, Below w.heap.size w w1 → Calls Try.prog 61 #[.pointer (some ⟨C, 0, none⟩), .agg (bv Aes.blk)] w1 fun e w' => e = .returned (.agg (bv x)) ∧ Below w1.heap.size w1 w'
  ey : ∀ w1, Below w.heap.size w w1 → Calls Try.prog 61 #[.pointer (some ⟨D, 0, none⟩), .agg (bv Aes.blk)] w1 fun e w' => e = .returned (.agg (bv y)) ∧ Below w1.heap.size w1 w'
  dx : ∀ w1, Below w.heap.size w w1 → Calls Try.prog 60 #[.pointer (some ⟨C, 0, none⟩), .agg (bv x)] w1 fun e w' => e = .returned (.agg (bv Aes.blk)) ∧ Below w1.heap.size w1 w'
  ra : ∀ w1, Below w.heap.size w w1 → Calls Try.prog 65 #[.pointer (some ⟨C, 0, none⟩)] w1 fun e w' => e = .returned (.int .i64 10) ∧ w1 = w'
  rb : ∀ w1, Below w.heap.size w w1 → Calls Try.prog 65 #[.pointer (some ⟨D, 0, none⟩)] w1 fun e w' => e = .returned (.int .i64 14) ∧ w1 = w'
  arr : Arr w g Aes.blk
  x0 : x 0 = 105
  x1 : x 1 = 196
  x15 : x 15 = 90
  y0 : y 0 = 142
  y1 : y 1 = 162
  y15 : y 15 = 137
theorem knownS (w : World) (C D g : Nat) (hC : Ciph w C (words (List.range 16))) (hD : Ciph w D (words (List.range 32))) (ha : Arr w g Aes.blk) : ∃ x y, KnownS w C D g x y :=
  ⟨_, _, fun w1 hb => encrypt_key C _ Aes.blk mayA blk_lt w1 (hC.below hb), fun w1 hb => encrypt_key D _ Aes.blk mayB blk_lt w1 (hD.below hb),
    fun w1 hb => (decrypt_key C _ (encK (List.range 16) Aes.blk) mayA (encK_lt blk_lt) w1 (hC.below hb)).mono fun e w' ⟨h1, h2⟩ => ⟨by rw [h1, dec_encK blk_lt], h2⟩,
    fun w1 hb => rounds_key C _ mayA w1 (hC.below hb), fun w1 hb => rounds_key D _ mayB w1 (hD.below hb), ha,
    (encA_at 0 (by decide)).trans (by decide), (encA_at 1 (by decide)).trans (by decide), (encA_at 15 (by decide)).trans (by decide),
    (encB_at 0 (by decide)).trans (by decide), (encB_at 1 (by decide)).trans (by decide), (encB_at 15 (by decide)).trans (by decide)⟩
theorem KnownS.below {w w' : World} {C D g : Nat} {x y : Nat → Nat} (h : KnownS w C D g x y) (hb : Below w.heap.size w w') : KnownS w' C D g x y :=
  ⟨fun w1 h1 => h.ex w1 (hb.trans (h1.mono hb.size)), fun w1 h1 => h.ey w1 (hb.trans (h1.mono hb.size)), fun w1 h1 => h.dx w1 (hb.trans (h1.mono hb.size)), fun w1 h1 => h.ra w1 (hb.trans (h1.mono hb.size)), fun w1 h1 => h.rb w1 (hb.trans (h1.mono hb.size)),
    h.arr.below hb h.arr.lt, h.x0, h.x1, h.x15, h.y0, h.y1, h.y15⟩
/-- two blocks made, apart from what was there -/
def MadeXY (w : World) (x y : Nat → Nat) (p q : Value) (w' : World) : Prop := ∃ g1 g2, p = .pointer (some ⟨g1, 0, none⟩) ∧ q = .pointer (some ⟨g2, 0, none⟩) ∧ Arr w' g1 x ∧ Arr w' g2 y ∧ Below w.heap.size w w'
set_option maxRecDepth 100000 in
set_option maxHeartbeats 8000000 in
theorem awake6 (w : World) : Calls Try.prog 58 #[] w fun e w' => e = .returned (.bool true) ∧ Below w.heap.size w w' := by
  have hk0 : ((w.alloc (.cells #[.int .u8 0, .int .u8 0, .int .u8 0, .int .u8 0, .int .u8 0, .int .u8 0, .int .u8 0, .int .u8 0, .int .u8 0, .int .u8 0, .int .u8 0, .int .u8 0, .int .u8 0, .int .u8 0, .int .u8 0, .int .u8 0, .int .u8 0, .int .u8 0, .int .u8 0, .int .u8 0, .int .u8 0, .int .u8 0, .int .u8 0, .int .u8 0, .int .u8 0, .int .u8 0, .int .u8 0, .int .u8 0, .int .u8 0, .int .u8 0, .int .u8 0, .int .u8 0] 90)).alloc (.cells #[.int .u8 0, .int .u8 0, .int .u8 0, .int .u8 0, .int .u8 0, .int .u8 0, .int .u8 0, .int .u8 0, .int .u8 0, .int .u8 0, .int .u8 0, .int .u8 0, .int .u8 0, .int .u8 0, .int .u8 0, .int .u8 0] 36)).rowIs w.heap.size 90 32 (bCell fun _ => 0) := World.rowIs.alloc (zero_cells (n := 32) (v := .int .u8 0) rfl w 90) _
  have ha0 : Arr ((w.alloc (.cells #[.int .u8 0, .int .u8 0, .int .u8 0, .int .u8 0, .int .u8 0, .int .u8 0, .int .u8 0, .int .u8 0, .int .u8 0, .int .u8 0, .int .u8 0, .int .u8 0, .int .u8 0, .int .u8 0, .int .u8 0, .int .u8 0, .int .u8 0, .int .u8 0, .int .u8 0, .int .u8 0, .int .u8 0, .int .u8 0, .int .u8 0, .int .u8 0, .int .u8 0, .int .u8 0, .int .u8 0, .int .u8 0, .int .u8 0, .int .u8 0, .int .u8 0, .int .u8 0] 90)).alloc (.cells #[.int .u8 0, .int .u8 0, .int .u8 0, .int .u8 0, .int .u8 0, .int .u8 0, .int .u8 0, .int .u8 0, .int .u8 0, .int .u8 0, .int .u8 0, .int .u8 0, .int .u8 0, .int .u8 0, .int .u8 0, .int .u8 0] 36)) (w.heap.size + 1) (fun _ => 0) := Arr.zero _ _ (by simp)
  have hb0 : Below w.heap.size w ((w.alloc (.cells #[.int .u8 0, .int .u8 0, .int .u8 0, .int .u8 0, .int .u8 0, .int .u8 0, .int .u8 0, .int .u8 0, .int .u8 0, .int .u8 0, .int .u8 0, .int .u8 0, .int .u8 0, .int .u8 0, .int .u8 0, .int .u8 0, .int .u8 0, .int .u8 0, .int .u8 0, .int .u8 0, .int .u8 0, .int .u8 0, .int .u8 0, .int .u8 0, .int .u8 0, .int .u8 0, .int .u8 0, .int .u8 0, .int .u8 0, .int .u8 0, .int .u8 0, .int .u8 0] 90)).alloc (.cells #[.int .u8 0, .int .u8 0, .int .u8 0, .int .u8 0, .int .u8 0, .int .u8 0, .int .u8 0, .int .u8 0, .int .u8 0, .int .u8 0, .int .u8 0, .int .u8 0, .int .u8 0, .int .u8 0, .int .u8 0, .int .u8 0] 36)) := ((Below.refl _ _).alloc (Nat.le_refl _) _).alloc (by simp) _
  have hs0 : w.heap.size + 2 ≤ ((w.alloc (.cells #[.int .u8 0, .int .u8 0, .int .u8 0, .int .u8 0, .int .u8 0, .int .u8 0, .int .u8 0, .int .u8 0, .int .u8 0, .int .u8 0, .int .u8 0, .int .u8 0, .int .u8 0, .int .u8 0, .int .u8 0, .int .u8 0, .int .u8 0, .int .u8 0, .int .u8 0, .int .u8 0, .int .u8 0, .int .u8 0, .int .u8 0, .int .u8 0, .int .u8 0, .int .u8 0, .int .u8 0, .int .u8 0, .int .u8 0, .int .u8 0, .int .u8 0, .int .u8 0] 90)).alloc (.cells #[.int .u8 0, .int .u8 0, .int .u8 0, .int .u8 0, .int .u8 0, .int .u8 0, .int .u8 0, .int .u8 0, .int .u8 0, .int .u8 0, .int .u8 0, .int .u8 0, .int .u8 0, .int .u8 0, .int .u8 0, .int .u8 0] 36)).heap.size := by simp
  go_enter Try.func58, Try.ntmps58
  go_wp2_with fail
  revert hk0 ha0 hb0 hs0
  generalize (w.alloc (.cells #[.int .u8 0, .int .u8 0, .int .u8 0, .int .u8 0, .int .u8 0, .int .u8 0, .int .u8 0, .int .u8 0, .int .u8 0, .int .u8 0, .int .u8 0, .int .u8 0, .int .u8 0, .int .u8 0, .int .u8 0, .int .u8 0, .int .u8 0, .int .u8 0, .int .u8 0, .int .u8 0, .int .u8 0, .int .u8 0, .int .u8 0, .int .u8 0, .int .u8 0, .int .u8 0, .int .u8 0, .int .u8 0, .int .u8 0, .int .u8 0, .int .u8 0, .int .u8 0] 90)).alloc (.cells #[.int .u8 0, .int .u8 0, .int .u8 0, .int .u8 0, .int .u8 0, .int .u8 0, .int .u8 0, .int .u8 0, .int .u8 0, .int .u8 0, .int .u8 0, .int .u8 0, .int .u8 0, .int .u8 0, .int .u8 0, .int .u8 0] 36) = w1
  intro hk0 ha0 hb0 hs0
  go_loopw [3] (fun i wr => ∃ (k : Nat), i = .int .i64 (k : Int) ∧ k ≤ 32 ∧ wr.rowIs w.heap.size 90 32 (bCell fun j => if j < k then j else 0) ∧ Arr wr (w.heap.size + 1) (fun _ => 0) ∧ Below w.heap.size w wr ∧ w.heap.size + 2 ≤ wr.heap.size) (fun i _ => 32 - (intOf i).toNat)
  case atStart => exact ⟨0, rfl, by omega, hk0, ha0, hb0, hs0⟩
  case round =>
    obtain ⟨k, rfl, hk, hK, hA, hbel, hsz⟩ := hrel
    clear hk0 ha0 hb0 hs0 w1
    by_cases hk2 : k = 32
    · subst hk2
      have hK2 : wr.rowIs w.heap.size 90 32 (bCell fun j => j) := hK.congr (fun j hj => by show Value.int .u8 ((if j < 32 then j else 0 : Nat) : Int) = _; rw [if_pos hj]; rfl)
      clear hK
      go_wp2_with fail
      go_loopw [4] (fun i wr => ∃ (k : Nat), i = .int .i64 (k : Int) ∧ k ≤ 16 ∧ wr.rowIs w.heap.size 90 32 (bCell fun j => j) ∧ Arr wr (w.heap.size + 1) (fun j => if j < k then Aes.blk j else 0) ∧ Below w.heap.size w wr ∧ w.heap.size + 2 ≤ wr.heap.size) (fun i _ => 16 - (intOf i).toNat)
      case atStart => exact ⟨0, rfl, by omega, hK2, hA, hbel, hsz⟩
      case round =>
        clear hK2 hA hbel hsz
        obtain ⟨k, rfl, hk, hK, hA, hbel, hsz⟩ := hrel
        by_cases hk2 : k = 16
        · subst hk2
          have hA2 : Arr wr (w.heap.size + 1) Aes.blk := hA.congr (fun j hj => by rw [if_pos hj])
          clear hA
          have hB : ∀ n, n ≤ 32 → Bytes wr (some ⟨w.heap.size, 0, none⟩) n (List.range n) := fun n hn => ⟨by simp, by unfold maxLen; omega, fun x hx => by have := List.mem_range.mp hx; omega, fun _ => ⟨_, rfl, fun j hj => by
            rw [add_zero_off, World.rowIs.cell hK (by omega)]
            show some (Value.int .u8 ((j : Nat) : Int)) = _
            rw [List.getD_eq_getElem?_getD, List.getElem?_range hj]; rfl⟩⟩
          have h16 := hB 16 (by omega)
          have h32 := hB 32 (by omega)
          clear hB hK
          go_wp2_with fail
          refine (new_any _ 16 32 _ wr h16 (by omega) (Or.inl rfl)).mono ?_
          rintro e w2 ⟨C, rfl, hC, hb2, hC0⟩
          have h32b := h32.below hb2
          have hA3 := hA2.below hb2 hA2.lt
          have hs2 := hb2.size
          have hbel2 := hbel.trans (hb2.mono (by omega))
          clear hA2 h16 hbel h32
          go_wp2_with fail
          refine (new_any _ 32 32 _ w2 h32b (by omega) (Or.inr rfl)).mono ?_
          rintro e w3 ⟨D, rfl, hD, hb3, hD0⟩
          have hA4 := hA3.below hb3 hA3.lt
          have hC4 := hC.below hb3
          have hs3 := hb3.size
          have hbel3 := hbel2.trans (hb3.mono (by omega))
          clear hA3 hC hbel2 h32b
          go_wp2_with fail
          refine (new_no _ 24 32 w3 rfl rfl).mono ?_
          rintro e w' ⟨rfl, rfl⟩
          obtain ⟨x, y, hN⟩ := knownS _ C D _ hC4 hD hA4
          have HN := Box.mk hN
          clear hN hA4 hC4 hD hb2 hb3 hs2 hs3
          go_upto_region 16 with fail
          go_cut [11, 12] from 64 to 69 (fun p q wx => MadeXY w3 x y p q wx)
          case first =>
            refine wp_region_held_drew (S := fun w' => Below w3.heap.size w3 w') (by kernel_rfl) (Below.refl _ _).drew (fun hS => ?_)
            refine wpAnyH_take (i := 0) (oi := ⟨some 64, _, _, _, _, _⟩) (v := .pointer (some ⟨C, 0, none⟩)) rfl (by kernel_rfl) (by kernel_rfl) (by kernel_rfl) (fun _ _ _ h => h) (Or.inl ⟨by kernel_rfl, fun w' hSw => ?_⟩) hS ?_
            · go_simp
            simp only [Act.put, List.setIfInBounds_toArray, List.set_cons_zero, List.set_cons_succ]
            refine wpAnyH_take (i := 1) (oi := ⟨some 65, _, _, _, _, _⟩) (v := .agg (bv (Aes.blk))) rfl (by kernel_rfl) (by kernel_rfl) (by kernel_rfl) (fun _ _ _ h => h) (yields_arr (by kernel_rfl) (.tmp 2) rfl (w.heap.size + 1) (Aes.blk) rfl fun w' h => HN.out.arr.below h HN.out.arr.lt) hS ?_
            simp only [Act.put, List.setIfInBounds_toArray, List.set_cons_zero, List.set_cons_succ]
            refine wpAnyH_take (i := 3) (oi := ⟨some 67, _, _, _, _, _⟩) (v := .pointer (some ⟨D, 0, none⟩)) rfl (by kernel_rfl) (by kernel_rfl) (by kernel_rfl) (fun _ _ _ h => h) (Or.inl ⟨by kernel_rfl, fun w' hSw => ?_⟩) hS ?_
            · go_simp
            simp only [Act.put, List.setIfInBounds_toArray, List.set_cons_zero, List.set_cons_succ]
            refine wpAnyH_take (i := 4) (oi := ⟨some 68, _, _, _, _, _⟩) (v := .agg (bv (Aes.blk))) rfl (by kernel_rfl) (by kernel_rfl) (by kernel_rfl) (fun _ _ _ h => h) (yields_arr (by kernel_rfl) (.tmp 2) rfl (w.heap.size + 1) (Aes.blk) rfl fun w' h => HN.out.arr.below h HN.out.arr.lt) hS ?_
            simp only [Act.put, List.setIfInBounds_toArray, List.set_cons_zero, List.set_cons_succ]
            refine wpAnyH_ready (rs := [2, 6, 7]) (by kernel_rfl) (by simp) ?_
            refine (AllReadyH.cons (o := ⟨some 66, _, _, _, _, _⟩) rfl (fun K hK => ?_) (AllReadyH.cons (o := ⟨some 11, _, _, _, _, _⟩) rfl (fun K hK => ?_) (AllReadyH.cons (o := ⟨some 12, _, _, _, _, _⟩) rfl (fun K hK => ?_) AllReadyH.nil)))
            · rw [if_pos (by kernel_rfl)]
              go_simp
              refine (HN.out.ex _ hS).mono ?_
              rintro e v1 ⟨rfl, hb1⟩
              have hz1 := hb1.size
              refine hK.out _ _ (hS.trans (hb1.mono (by first | exact hS.size | (have := hS.size; simp at this ⊢; omega)))) (fun hS => ?_)
              clear hK K
              refine wpAnyH_ready (rs := [5, 6, 7]) (by kernel_rfl) (by simp) ?_
              refine (AllReadyH.cons (o := ⟨some 69, _, _, _, _, _⟩) rfl (fun K hK => ?_) (AllReadyH.cons (o := ⟨some 11, _, _, _, _, _⟩) rfl (fun K hK => ?_) (AllReadyH.cons (o := ⟨some 12, _, _, _, _, _⟩) rfl (fun K hK => ?_) AllReadyH.nil)))
              · rw [if_pos (by kernel_rfl)]
                go_simp
                refine (HN.out.ey _ hS).mono ?_
                rintro e v2 ⟨rfl, hb2⟩
                have hz2 := hb2.size
                refine hK.out _ _ (hS.trans (hb2.mono (by first | exact hS.size | (have := hS.size; simp at this ⊢; omega)))) (fun hS => ?_)
                clear hK K
                refine wpAnyH_ready (rs := [6, 7]) (by kernel_rfl) (by simp) ?_
                refine (AllReadyH.cons (o := ⟨some 11, _, _, _, _, _⟩) rfl (fun K hK => ?_) (AllReadyH.cons (o := ⟨some 12, _, _, _, _, _⟩) rfl (fun K hK => ?_) AllReadyH.nil))
                · rw [if_pos (by kernel_rfl)]
                  go_simp
                  have ha11 : Arr (v2.alloc (.cells #[.int .u8 0, .int .u8 0, .int .u8 0, .int .u8 0, .int .u8 0, .int .u8 0, .int .u8 0, .int .u8 0, .int .u8 0, .int .u8 0, .int .u8 0, .int .u8 0, .int .u8 0, .int .u8 0, .int .u8 0, .int .u8 0] 36)) (v2.heap.size) (fun _ => 0) := Arr.zero _ _ (by first | rfl | simp | simp [World.setRow])
                  refine hK.out _ _ (hS.alloc hS.size _) (fun hS => ?_)
                  clear hK K
                  refine wpAnyH_ready (rs := [7]) (by kernel_rfl) (by simp) ?_
                  refine (AllReadyH.cons (o := ⟨some 12, _, _, _, _, _⟩) rfl (fun K hK => ?_) AllReadyH.nil)
                  rw [if_pos (by kernel_rfl)]
                  go_simp
                  have ha11 := ha11.alloc (.cells #[.int .u8 0, .int .u8 0, .int .u8 0, .int .u8 0, .int .u8 0, .int .u8 0, .int .u8 0, .int .u8 0, .int .u8 0, .int .u8 0, .int .u8 0, .int .u8 0, .int .u8 0, .int .u8 0, .int .u8 0, .int .u8 0] 36)
                  have ha12 : Arr ((v2.alloc (.cells #[.int .u8 0, .int .u8 0, .int .u8 0, .int .u8 0, .int .u8 0, .int .u8 0, .int .u8 0, .int .u8 0, .int .u8 0, .int .u8 0, .int .u8 0, .int .u8 0, .int .u8 0, .int .u8 0, .int .u8 0, .int .u8 0] 36)).alloc (.cells #[.int .u8 0, .int .u8 0, .int .u8 0, .int .u8 0, .int .u8 0, .int .u8 0, .int .u8 0, .int .u8 0, .int .u8 0, .int .u8 0, .int .u8 0, .int .u8 0, .int .u8 0, .int .u8 0, .int .u8 0, .int .u8 0] 36)) (v2.heap.size + 1) (fun _ => 0) := Arr.zero _ _ (by first | rfl | simp | simp [World.setRow])
                  refine hK.out _ _ (hS.alloc hS.size _) (fun hS => ?_)
                  clear hK K
                  refine wpAnyH_ready (rs := [8]) (by kernel_rfl) (by simp) ?_
                  refine (AllReadyH.cons (o := ⟨none, _, _, _, _, _⟩) rfl (fun K hK => ?_) AllReadyH.nil)
                  rw [if_pos (by kernel_rfl)]
                  refine wpo_store_arr (.tmp 11) (.tmp 66) rfl (v2.heap.size) (fun _ => 0) (x) rfl rfl ha11 ?_
                  have ha12 := ha12.setRow_far (g' := v2.heap.size) (c := bv (x)) (by first | omega | (simp at *; omega))
                  have ha11 := ha11.setRow (h := x)
                  refine hK.out _ _ (below_setRow hS (by have := hS.size; first | omega | (simp at *; omega) | (simp [setRow_size] at *; omega)) _) (fun hS => ?_)
                  clear hK K
                  simp only [Act.put]
                  refine wpAnyH_ready (rs := [9]) (by kernel_rfl) (by simp) ?_
                  refine (AllReadyH.cons (o := ⟨none, _, _, _, _, _⟩) rfl (fun K hK => ?_) AllReadyH.nil)
                  rw [if_pos (by kernel_rfl)]
                  refine wpo_store_arr (.tmp 12) (.tmp 69) rfl (v2.heap.size + 1) (fun _ => 0) (y) rfl rfl ha12 ?_
                  have ha11 := ha11.setRow_far (g' := v2.heap.size + 1) (c := bv (y)) (by first | omega | (simp at *; omega))
                  have ha12 := ha12.setRow (h := y)
                  refine hK.out _ _ (below_setRow hS (by have := hS.size; first | omega | (simp at *; omega) | (simp [setRow_size] at *; omega)) _) (fun hS => ?_)
                  clear hK K
                  simp only [Act.put]
                  refine wpAnyH_done (by kernel_rfl) ?_ _
                  go_wp2_with fail
                  go_meet
                  case rel => exact ⟨_, _, rfl, rfl, ha11, ha12, hS⟩
                · rw [if_pos (by kernel_rfl)]
                  go_simp
                  have ha12 : Arr (v2.alloc (.cells #[.int .u8 0, .int .u8 0, .int .u8 0, .int .u8 0, .int .u8 0, .int .u8 0, .int .u8 0, .int .u8 0, .int .u8 0, .int .u8 0, .int .u8 0, .int .u8 0, .int .u8 0, .int .u8 0, .int .u8 0, .int .u8 0] 36)) (v2.heap.size) (fun _ => 0) := Arr.zero _ _ (by first | rfl | simp | simp [World.setRow])
                  refine hK.out _ _ (hS.alloc hS.size _) (fun hS => ?_)
                  clear hK K
                  refine wpAnyH_ready (rs := [6]) (by kernel_rfl) (by simp) ?_
                  refine (AllReadyH.cons (o := ⟨some 11, _, _, _, _, _⟩) rfl (fun K hK => ?_) AllReadyH.nil)
                  rw [if_pos (by kernel_rfl)]
                  go_simp
                  have ha12 := ha12.alloc (.cells #[.int .u8 0, .int .u8 0, .int .u8 0, .int .u8 0, .int .u8 0, .int .u8 0, .int .u8 0, .int .u8 0, .int .u8 0, .int .u8 0, .int .u8 0, .int .u8 0, .int .u8 0, .int .u8 0, .int .u8 0, .int .u8 0] 36)
                  have ha11 : Arr ((v2.alloc (.cells #[.int .u8 0, .int .u8 0, .int .u8 0, .int .u8 0, .int .u8 0, .int .u8 0, .int .u8 0, .int .u8 0, .int .u8 0, .int .u8 0, .int .u8 0, .int .u8 0, .int .u8 0, .int .u8 0, .int .u8 0, .int .u8 0] 36)).alloc (.cells #[.int .u8 0, .int .u8 0, .int .u8 0, .int .u8 0, .int .u8 0, .int .u8 0, .int .u8 0, .int .u8 0, .int .u8 0, .int .u8 0, .int .u8 0, .int .u8 0, .int .u8 0, .int .u8 0, .int .u8 0, .int .u8 0] 36)) (v2.heap.size + 1) (fun _ => 0) := Arr.zero _ _ (by first | rfl | simp | simp [World.setRow])
                  refine hK.out _ _ (hS.alloc hS.size _) (fun hS => ?_)
                  clear hK K
                  refine wpAnyH_ready (rs := [8]) (by kernel_rfl) (by simp) ?_
                  refine (AllReadyH.cons (o := ⟨none, _, _, _, _, _⟩) rfl (fun K hK => ?_) AllReadyH.nil)
                  rw [if_pos (by kernel_rfl)]
                  refine wpo_store_arr (.tmp 11) (.tmp 66) rfl (v2.heap.size + 1) (fun _ => 0) (x) rfl rfl ha11 ?_
                  have ha12 := ha12.setRow_far (g' := v2.heap.size + 1) (c := bv (x)) (by first | omega | (simp at *; omega))
                  have ha11 := ha11.setRow (h := x)
                  refine hK.out _ _ (below_setRow hS (by have := hS.size; first | omega | (simp at *; omega) | (simp [setRow_size] at *; omega)) _) (fun hS => ?_)
                  clear hK K
                  simp only [Act.put]
                  refine wpAnyH_ready (rs := [9]) (by kernel_rfl) (by simp) ?_
                  refine (AllReadyH.cons (o := ⟨none, _, _, _, _, _⟩) rfl (fun K hK => ?_) AllReadyH.nil)
                  rw [if_pos (by kernel_rfl)]
                  refine wpo_store_arr (.tmp 12) (.tmp 69) rfl (v2.heap.size) (fun _ => 0) (y) rfl rfl ha12 ?_
                  have ha11 := ha11.setRow_far (g' := v2.heap.size) (c := bv (y)) (by first | omega | (simp at *; omega))
                  have ha12 := ha12.setRow (h := y)
                  refine hK.out _ _ (below_setRow hS (by have := hS.size; first | omega | (simp at *; omega) | (simp [setRow_size] at *; omega)) _) (fun hS => ?_)
                  clear hK K
                  simp only [Act.put]
                  refine wpAnyH_done (by kernel_rfl) ?_ _
                  go_wp2_with fail
                  go_meet
                  case rel => exact ⟨_, _, rfl, rfl, ha11, ha12, hS⟩
              · rw [if_pos (by kernel_rfl)]
                go_simp
                have ha11 : Arr (v1.alloc (.cells #[.int .u8 0, .int .u8 0, .int .u8 0, .int .u8 0, .int .u8 0, .int .u8 0, .int .u8 0, .int .u8 0, .int .u8 0, .int .u8 0, .int .u8 0, .int .u8 0, .int .u8 0, .int .u8 0, .int .u8 0, .int .u8 0] 36)) (v1.heap.size) (fun _ => 0) := Arr.zero _ _ (by first | rfl | simp | simp [World.setRow])
                refine hK.out _ _ (hS.alloc hS.size _) (fun hS => ?_)
                clear hK K
                refine wpAnyH_ready (rs := [5, 7]) (by kernel_rfl) (by simp) ?_
                refine (AllReadyH.cons (o := ⟨some 69, _, _, _, _, _⟩) rfl (fun K hK => ?_) (AllReadyH.cons (o := ⟨some 12, _, _, _, _, _⟩) rfl (fun K hK => ?_) AllReadyH.nil))
                · rw [if_pos (by kernel_rfl)]
                  go_simp
                  refine (HN.out.ey _ hS).mono ?_
                  rintro e v2 ⟨rfl, hb2⟩
                  have ha11 := ha11.below hb2 ha11.lt
                  have hz2 := hb2.size
                  refine hK.out _ _ (hS.trans (hb2.mono (by first | exact hS.size | (have := hS.size; simp at this ⊢; omega)))) (fun hS => ?_)
                  clear hK K
                  refine wpAnyH_ready (rs := [7]) (by kernel_rfl) (by simp) ?_
                  refine (AllReadyH.cons (o := ⟨some 12, _, _, _, _, _⟩) rfl (fun K hK => ?_) AllReadyH.nil)
                  rw [if_pos (by kernel_rfl)]
                  go_simp
                  have ha11 := ha11.alloc (.cells #[.int .u8 0, .int .u8 0, .int .u8 0, .int .u8 0, .int .u8 0, .int .u8 0, .int .u8 0, .int .u8 0, .int .u8 0, .int .u8 0, .int .u8 0, .int .u8 0, .int .u8 0, .int .u8 0, .int .u8 0, .int .u8 0] 36)
                  have ha12 : Arr (v2.alloc (.cells #[.int .u8 0, .int .u8 0, .int .u8 0, .int .u8 0, .int .u8 0, .int .u8 0, .int .u8 0, .int .u8 0, .int .u8 0, .int .u8 0, .int .u8 0, .int .u8 0, .int .u8 0, .int .u8 0, .int .u8 0, .int .u8 0] 36)) (v2.heap.size) (fun _ => 0) := Arr.zero _ _ (by first | rfl | simp | simp [World.setRow])
                  refine hK.out _ _ (hS.alloc hS.size _) (fun hS => ?_)
                  clear hK K
                  refine wpAnyH_ready (rs := [8]) (by kernel_rfl) (by simp) ?_
                  refine (AllReadyH.cons (o := ⟨none, _, _, _, _, _⟩) rfl (fun K hK => ?_) AllReadyH.nil)
                  rw [if_pos (by kernel_rfl)]
                  refine wpo_store_arr (.tmp 11) (.tmp 66) rfl (v1.heap.size) (fun _ => 0) (x) rfl rfl ha11 ?_
                  have ha12 := ha12.setRow_far (g' := v1.heap.size) (c := bv (x)) (by first | omega | (simp at *; omega))
                  have ha11 := ha11.setRow (h := x)
                  refine hK.out _ _ (below_setRow hS (by have := hS.size; first | omega | (simp at *; omega) | (simp [setRow_size] at *; omega)) _) (fun hS => ?_)
                  clear hK K
                  simp only [Act.put]
                  refine wpAnyH_ready (rs := [9]) (by kernel_rfl) (by simp) ?_
                  refine (AllReadyH.cons (o := ⟨none, _, _, _, _, _⟩) rfl (fun K hK => ?_) AllReadyH.nil)
                  rw [if_pos (by kernel_rfl)]
                  refine wpo_store_arr (.tmp 12) (.tmp 69) rfl (v2.heap.size) (fun _ => 0) (y) rfl rfl ha12 ?_
                  have ha11 := ha11.setRow_far (g' := v2.heap.size) (c := bv (y)) (by first | omega | (simp at *; omega))
                  have ha12 := ha12.setRow (h := y)
                  refine hK.out _ _ (below_setRow hS (by have := hS.size; first | omega | (simp at *; omega) | (simp [setRow_size] at *; omega)) _) (fun hS => ?_)
                  clear hK K
                  simp only [Act.put]
                  refine wpAnyH_done (by kernel_rfl) ?_ _
                  go_wp2_with fail
                  go_meet
                  case rel => exact ⟨_, _, rfl, rfl, ha11, ha12, hS⟩
                · rw [if_pos (by kernel_rfl)]
                  go_simp
                  have ha11 := ha11.alloc (.cells #[.int .u8 0, .int .u8 0, .int .u8 0, .int .u8 0, .int .u8 0, .int .u8 0, .int .u8 0, .int .u8 0, .int .u8 0, .int .u8 0, .int .u8 0, .int .u8 0, .int .u8 0, .int .u8 0, .int .u8 0, .int .u8 0] 36)
                  have ha12 : Arr ((v1.alloc (.cells #[.int .u8 0, .int .u8 0, .int .u8 0, .int .u8 0, .int .u8 0, .int .u8 0, .int .u8 0, .int .u8 0, .int .u8 0, .int .u8 0, .int .u8 0, .int .u8 0, .int .u8 0, .int .u8 0, .int .u8 0, .int .u8 0] 36)).alloc (.cells #[.int .u8 0, .int .u8 0, .int .u8 0, .int .u8 0, .int .u8 0, .int .u8 0, .int .u8 0, .int .u8 0, .int .u8 0, .int .u8 0, .int .u8 0, .int .u8 0, .int .u8 0, .int .u8 0, .int .u8 0, .int .u8 0] 36)) (v1.heap.size + 1) (fun _ => 0) := Arr.zero _ _ (by first | rfl | simp | simp [World.setRow])
                  refine hK.out _ _ (hS.alloc hS.size _) (fun hS => ?_)
                  clear hK K
                  refine wpAnyH_ready (rs := [5]) (by kernel_rfl) (by simp) ?_
                  refine (AllReadyH.cons (o := ⟨some 69, _, _, _, _, _⟩) rfl (fun K hK => ?_) AllReadyH.nil)
                  rw [if_pos (by kernel_rfl)]
                  go_simp
                  refine (HN.out.ey _ hS).mono ?_
                  rintro e v2 ⟨rfl, hb2⟩
                  have ha11 := ha11.below hb2 ha11.lt
                  have ha12 := ha12.below hb2 ha12.lt
                  have hz2 := hb2.size
                  refine hK.out _ _ (hS.trans (hb2.mono (by first | exact hS.size | (have := hS.size; simp at this ⊢; omega)))) (fun hS => ?_)
                  clear hK K
                  refine wpAnyH_ready (rs := [8]) (by kernel_rfl) (by simp) ?_
                  refine (AllReadyH.cons (o := ⟨none, _, _, _, _, _⟩) rfl (fun K hK => ?_) AllReadyH.nil)
                  rw [if_pos (by kernel_rfl)]
                  refine wpo_store_arr (.tmp 11) (.tmp 66) rfl (v1.heap.size) (fun _ => 0) (x) rfl rfl ha11 ?_
                  have ha12 := ha12.setRow_far (g' := v1.heap.size) (c := bv (x)) (by first | omega | (simp at *; omega))
                  have ha11 := ha11.setRow (h := x)
                  refine hK.out _ _ (below_setRow hS (by have := hS.size; first | omega | (simp at *; omega) | (simp [setRow_size] at *; omega)) _) (fun hS => ?_)
                  clear hK K
                  simp only [Act.put]
                  refine wpAnyH_ready (rs := [9]) (by kernel_rfl) (by simp) ?_
                  refine (AllReadyH.cons (o := ⟨none, _, _, _, _, _⟩) rfl (fun K hK => ?_) AllReadyH.nil)
                  rw [if_pos (by kernel_rfl)]
                  refine wpo_store_arr (.tmp 12) (.tmp 69) rfl (v1.heap.size + 1) (fun _ => 0) (y) rfl rfl ha12 ?_
                  have ha11 := ha11.setRow_far (g' := v1.heap.size + 1) (c := bv (y)) (by first | omega | (simp at *; omega))
                  have ha12 := ha12.setRow (h := y)
                  refine hK.out _ _ (below_setRow hS (by have := hS.size; first | omega | (simp at *; omega) | (simp [setRow_size] at *; omega)) _) (fun hS => ?_)
                  clear hK K
                  simp only [Act.put]
                  refine wpAnyH_done (by kernel_rfl) ?_ _
                  go_wp2_with fail
                  go_meet
                  case rel => exact ⟨_, _, rfl, rfl, ha11, ha12, hS⟩
              · rw [if_pos (by kernel_rfl)]
                go_simp
                have ha12 : Arr (v1.alloc (.cells #[.int .u8 0, .int .u8 0, .int .u8 0, .int .u8 0, .int .u8 0, .int .u8 0, .int .u8 0, .int .u8 0, .int .u8 0, .int .u8 0, .int .u8 0, .int .u8 0, .int .u8 0, .int .u8 0, .int .u8 0, .int .u8 0] 36)) (v1.heap.size) (fun _ => 0) := Arr.zero _ _ (by first | rfl | simp | simp [World.setRow])
                refine hK.out _ _ (hS.alloc hS.size _) (fun hS => ?_)
                clear hK K
                refine wpAnyH_ready (rs := [5, 6]) (by kernel_rfl) (by simp) ?_
                refine (AllReadyH.cons (o := ⟨some 69, _, _, _, _, _⟩) rfl (fun K hK => ?_) (AllReadyH.cons (o := ⟨some 11, _, _, _, _, _⟩) rfl (fun K hK => ?_) AllReadyH.nil))
                · rw [if_pos (by kernel_rfl)]
                  go_simp
                  refine (HN.out.ey _ hS).mono ?_
                  rintro e v2 ⟨rfl, hb2⟩
                  have ha12 := ha12.below hb2 ha12.lt
                  have hz2 := hb2.size
                  refine hK.out _ _ (hS.trans (hb2.mono (by first | exact hS.size | (have := hS.size; simp at this ⊢; omega)))) (fun hS => ?_)
                  clear hK K
                  refine wpAnyH_ready (rs := [6]) (by kernel_rfl) (by simp) ?_
                  refine (AllReadyH.cons (o := ⟨some 11, _, _, _, _, _⟩) rfl (fun K hK => ?_) AllReadyH.nil)
                  rw [if_pos (by kernel_rfl)]
                  go_simp
                  have ha12 := ha12.alloc (.cells #[.int .u8 0, .int .u8 0, .int .u8 0, .int .u8 0, .int .u8 0, .int .u8 0, .int .u8 0, .int .u8 0, .int .u8 0, .int .u8 0, .int .u8 0, .int .u8 0, .int .u8 0, .int .u8 0, .int .u8 0, .int .u8 0] 36)
                  have ha11 : Arr (v2.alloc (.cells #[.int .u8 0, .int .u8 0, .int .u8 0, .int .u8 0, .int .u8 0, .int .u8 0, .int .u8 0, .int .u8 0, .int .u8 0, .int .u8 0, .int .u8 0, .int .u8 0, .int .u8 0, .int .u8 0, .int .u8 0, .int .u8 0] 36)) (v2.heap.size) (fun _ => 0) := Arr.zero _ _ (by first | rfl | simp | simp [World.setRow])
                  refine hK.out _ _ (hS.alloc hS.size _) (fun hS => ?_)
                  clear hK K
                  refine wpAnyH_ready (rs := [8]) (by kernel_rfl) (by simp) ?_
                  refine (AllReadyH.cons (o := ⟨none, _, _, _, _, _⟩) rfl (fun K hK => ?_) AllReadyH.nil)
                  rw [if_pos (by kernel_rfl)]
                  refine wpo_store_arr (.tmp 11) (.tmp 66) rfl (v2.heap.size) (fun _ => 0) (x) rfl rfl ha11 ?_
                  have ha12 := ha12.setRow_far (g' := v2.heap.size) (c := bv (x)) (by first | omega | (simp at *; omega))
                  have ha11 := ha11.setRow (h := x)
                  refine hK.out _ _ (below_setRow hS (by have := hS.size; first | omega | (simp at *; omega) | (simp [setRow_size] at *; omega)) _) (fun hS => ?_)
                  clear hK K
                  simp only [Act.put]
                  refine wpAnyH_ready (rs := [9]) (by kernel_rfl) (by simp) ?_
                  refine (AllReadyH.cons (o := ⟨none, _, _, _, _, _⟩) rfl (fun K hK => ?_) AllReadyH.nil)
                  rw [if_pos (by kernel_rfl)]
                  refine wpo_store_arr (.tmp 12) (.tmp 69) rfl (v1.heap.size) (fun _ => 0) (y) rfl rfl ha12 ?_
                  have ha11 := ha11.setRow_far (g' := v1.heap.size) (c := bv (y)) (by first | omega | (simp at *; omega))
                  have ha12 := ha12.setRow (h := y)
                  refine hK.out _ _ (below_setRow hS (by have := hS.size; first | omega | (simp at *; omega) | (simp [setRow_size] at *; omega)) _) (fun hS => ?_)
                  clear hK K
                  simp only [Act.put]
                  refine wpAnyH_done (by kernel_rfl) ?_ _
                  go_wp2_with fail
                  go_meet
                  case rel => exact ⟨_, _, rfl, rfl, ha11, ha12, hS⟩
                · rw [if_pos (by kernel_rfl)]
                  go_simp
                  have ha12 := ha12.alloc (.cells #[.int .u8 0, .int .u8 0, .int .u8 0, .int .u8 0, .int .u8 0, .int .u8 0, .int .u8 0, .int .u8 0, .int .u8 0, .int .u8 0, .int .u8 0, .int .u8 0, .int .u8 0, .int .u8 0, .int .u8 0, .int .u8 0] 36)
                  have ha11 : Arr ((v1.alloc (.cells #[.int .u8 0, .int .u8 0, .int .u8 0, .int .u8 0, .int .u8 0, .int .u8 0, .int .u8 0, .int .u8 0, .int .u8 0, .int .u8 0, .int .u8 0, .int .u8 0, .int .u8 0, .int .u8 0, .int .u8 0, .int .u8 0] 36)).alloc (.cells #[.int .u8 0, .int .u8 0, .int .u8 0, .int .u8 0, .int .u8 0, .int .u8 0, .int .u8 0, .int .u8 0, .int .u8 0, .int .u8 0, .int .u8 0, .int .u8 0, .int .u8 0, .int .u8 0, .int .u8 0, .int .u8 0] 36)) (v1.heap.size + 1) (fun _ => 0) := Arr.zero _ _ (by first | rfl | simp | simp [World.setRow])
                  refine hK.out _ _ (hS.alloc hS.size _) (fun hS => ?_)
                  clear hK K
                  refine wpAnyH_ready (rs := [5]) (by kernel_rfl) (by simp) ?_
                  refine (AllReadyH.cons (o := ⟨some 69, _, _, _, _, _⟩) rfl (fun K hK => ?_) AllReadyH.nil)
                  rw [if_pos (by kernel_rfl)]
                  go_simp
                  refine (HN.out.ey _ hS).mono ?_
                  rintro e v2 ⟨rfl, hb2⟩
                  have ha12 := ha12.below hb2 ha12.lt
                  have ha11 := ha11.below hb2 ha11.lt
                  have hz2 := hb2.size
                  refine hK.out _ _ (hS.trans (hb2.mono (by first | exact hS.size | (have := hS.size; simp at this ⊢; omega)))) (fun hS => ?_)
                  clear hK K
                  refine wpAnyH_ready (rs := [8]) (by kernel_rfl) (by simp) ?_
                  refine (AllReadyH.cons (o := ⟨none, _, _, _, _, _⟩) rfl (fun K hK => ?_) AllReadyH.nil)
                  rw [if_pos (by kernel_rfl)]
                  refine wpo_store_arr (.tmp 11) (.tmp 66) rfl (v1.heap.size + 1) (fun _ => 0) (x) rfl rfl ha11 ?_
                  have ha12 := ha12.setRow_far (g' := v1.heap.size + 1) (c := bv (x)) (by first | omega | (simp at *; omega))
                  have ha11 := ha11.setRow (h := x)
                  refine hK.out _ _ (below_setRow hS (by have := hS.size; first | omega | (simp at *; omega) | (simp [setRow_size] at *; omega)) _) (fun hS => ?_)
                  clear hK K
                  simp only [Act.put]
                  refine wpAnyH_ready (rs := [9]) (by kernel_rfl) (by simp) ?_
                  refine (AllReadyH.cons (o := ⟨none, _, _, _, _, _⟩) rfl (fun K hK => ?_) AllReadyH.nil)
                  rw [if_pos (by kernel_rfl)]
                  refine wpo_store_arr (.tmp 12) (.tmp 69) rfl (v1.heap.size) (fun _ => 0) (y) rfl rfl ha12 ?_
                  have ha11 := ha11.setRow_far (g' := v1.heap.size) (c := bv (y)) (by first | omega | (simp at *; omega))
                  have ha12 := ha12.setRow (h := y)
                  refine hK.out _ _ (below_setRow hS (by have := hS.size; first | omega | (simp at *; omega) | (simp [setRow_size] at *; omega)) _) (fun hS => ?_)
                  clear hK K
                  simp only [Act.put]
                  refine wpAnyH_done (by kernel_rfl) ?_ _
                  go_wp2_with fail
                  go_meet
                  case rel => exact ⟨_, _, rfl, rfl, ha11, ha12, hS⟩
            · rw [if_pos (by kernel_rfl)]
              go_simp
              have ha11 : Arr (w3.drew.alloc (.cells #[.int .u8 0, .int .u8 0, .int .u8 0, .int .u8 0, .int .u8 0, .int .u8 0, .int .u8 0, .int .u8 0, .int .u8 0, .int .u8 0, .int .u8 0, .int .u8 0, .int .u8 0, .int .u8 0, .int .u8 0, .int .u8 0] 36)) (w3.heap.size) (fun _ => 0) := Arr.zero _ _ (by first | rfl | simp | simp [World.setRow])
              refine hK.out _ _ (hS.alloc hS.size _) (fun hS => ?_)
              clear hK K
              refine wpAnyH_ready (rs := [2, 7]) (by kernel_rfl) (by simp) ?_
              refine (AllReadyH.cons (o := ⟨some 66, _, _, _, _, _⟩) rfl (fun K hK => ?_) (AllReadyH.cons (o := ⟨some 12, _, _, _, _, _⟩) rfl (fun K hK => ?_) AllReadyH.nil))
              · rw [if_pos (by kernel_rfl)]
                go_simp
                refine (HN.out.ex _ hS).mono ?_
                rintro e v1 ⟨rfl, hb1⟩
                have ha11 := ha11.below hb1 ha11.lt
                have hz1 := hb1.size
                refine hK.out _ _ (hS.trans (hb1.mono (by first | exact hS.size | (have := hS.size; simp at this ⊢; omega)))) (fun hS => ?_)
                clear hK K
                refine wpAnyH_ready (rs := [5, 7]) (by kernel_rfl) (by simp) ?_
                refine (AllReadyH.cons (o := ⟨some 69, _, _, _, _, _⟩) rfl (fun K hK => ?_) (AllReadyH.cons (o := ⟨some 12, _, _, _, _, _⟩) rfl (fun K hK => ?_) AllReadyH.nil))
                · rw [if_pos (by kernel_rfl)]
                  go_simp
                  refine (HN.out.ey _ hS).mono ?_
                  rintro e v2 ⟨rfl, hb2⟩
                  have ha11 := ha11.below hb2 ha11.lt
                  have hz2 := hb2.size
                  refine hK.out _ _ (hS.trans (hb2.mono (by first | exact hS.size | (have := hS.size; simp at this ⊢; omega)))) (fun hS => ?_)
                  clear hK K
                  refine wpAnyH_ready (rs := [7]) (by kernel_rfl) (by simp) ?_
                  refine (AllReadyH.cons (o := ⟨some 12, _, _, _, _, _⟩) rfl (fun K hK => ?_) AllReadyH.nil)
                  rw [if_pos (by kernel_rfl)]
                  go_simp
                  have ha11 := ha11.alloc (.cells #[.int .u8 0, .int .u8 0, .int .u8 0, .int .u8 0, .int .u8 0, .int .u8 0, .int .u8 0, .int .u8 0, .int .u8 0, .int .u8 0, .int .u8 0, .int .u8 0, .int .u8 0, .int .u8 0, .int .u8 0, .int .u8 0] 36)
                  have ha12 : Arr (v2.alloc (.cells #[.int .u8 0, .int .u8 0, .int .u8 0, .int .u8 0, .int .u8 0, .int .u8 0, .int .u8 0, .int .u8 0, .int .u8 0, .int .u8 0, .int .u8 0, .int .u8 0, .int .u8 0, .int .u8 0, .int .u8 0, .int .u8 0] 36)) (v2.heap.size) (fun _ => 0) := Arr.zero _ _ (by first | rfl | simp | simp [World.setRow])
                  refine hK.out _ _ (hS.alloc hS.size _) (fun hS => ?_)
                  clear hK K
                  refine wpAnyH_ready (rs := [8]) (by kernel_rfl) (by simp) ?_
                  refine (AllReadyH.cons (o := ⟨none, _, _, _, _, _⟩) rfl (fun K hK => ?_) AllReadyH.nil)
                  rw [if_pos (by kernel_rfl)]
                  refine wpo_store_arr (.tmp 11) (.tmp 66) rfl (w3.heap.size) (fun _ => 0) (x) rfl rfl ha11 ?_
                  have ha12 := ha12.setRow_far (g' := w3.heap.size) (c := bv (x)) (by first | omega | (simp at *; omega))
                  have ha11 := ha11.setRow (h := x)
                  refine hK.out _ _ (below_setRow hS (by have := hS.size; first | omega | (simp at *; omega) | (simp [setRow_size] at *; omega)) _) (fun hS => ?_)
                  clear hK K
                  simp only [Act.put]
                  refine wpAnyH_ready (rs := [9]) (by kernel_rfl) (by simp) ?_
                  refine (AllReadyH.cons (o := ⟨none, _, _, _, _, _⟩) rfl (fun K hK => ?_) AllReadyH.nil)
                  rw [if_pos (by kernel_rfl)]
                  refine wpo_store_arr (.tmp 12) (.tmp 69) rfl (v2.heap.size) (fun _ => 0) (y) rfl rfl ha12 ?_
                  have ha11 := ha11.setRow_far (g' := v2.heap.size) (c := bv (y)) (by first | omega | (simp at *; omega))
                  have ha12 := ha12.setRow (h := y)
                  refine hK.out _ _ (below_setRow hS (by have := hS.size; first | omega | (simp at *; omega) | (simp [setRow_size] at *; omega)) _) (fun hS => ?_)
                  clear hK K
                  simp only [Act.put]
                  refine wpAnyH_done (by kernel_rfl) ?_ _
                  go_wp2_with fail
                  go_meet
                  case rel => exact ⟨_, _, rfl, rfl, ha11, ha12, hS⟩
                · rw [if_pos (by kernel_rfl)]
                  go_simp
                  have ha11 := ha11.alloc (.cells #[.int .u8 0, .int .u8 0, .int .u8 0, .int .u8 0, .int .u8 0, .int .u8 0, .int .u8 0, .int .u8 0, .int .u8 0, .int .u8 0, .int .u8 0, .int .u8 0, .int .u8 0, .int .u8 0, .int .u8 0, .int .u8 0] 36)
                  have ha12 : Arr (v1.alloc (.cells #[.int .u8 0, .int .u8 0, .int .u8 0, .int .u8 0, .int .u8 0, .int .u8 0, .int .u8 0, .int .u8 0, .int .u8 0, .int .u8 0, .int .u8 0, .int .u8 0, .int .u8 0, .int .u8 0, .int .u8 0, .int .u8 0] 36)) (v1.heap.size) (fun _ => 0) := Arr.zero _ _ (by first | rfl | simp | simp [World.setRow])
                  refine hK.out _ _ (hS.alloc hS.size _) (fun hS => ?_)
                  clear hK K
                  refine wpAnyH_ready (rs := [5]) (by kernel_rfl) (by simp) ?_
                  refine (AllReadyH.cons (o := ⟨some 69, _, _, _, _, _⟩) rfl (fun K hK => ?_) AllReadyH.nil)
                  rw [if_pos (by kernel_rfl)]
                  go_simp
                  refine (HN.out.ey _ hS).mono ?_
                  rintro e v2 ⟨rfl, hb2⟩
                  have ha11 := ha11.below hb2 ha11.lt
                  have ha12 := ha12.below hb2 ha12.lt
                  have hz2 := hb2.size
                  refine hK.out _ _ (hS.trans (hb2.mono (by first | exact hS.size | (have := hS.size; simp at this ⊢; omega)))) (fun hS => ?_)
                  clear hK K
                  refine wpAnyH_ready (rs := [8]) (by kernel_rfl) (by simp) ?_
                  refine (AllReadyH.cons (o := ⟨none, _, _, _, _, _⟩) rfl (fun K hK => ?_) AllReadyH.nil)
                  rw [if_pos (by kernel_rfl)]
                  refine wpo_store_arr (.tmp 11) (.tmp 66) rfl (w3.heap.size) (fun _ => 0) (x) rfl rfl ha11 ?_
                  have ha12 := ha12.setRow_far (g' := w3.heap.size) (c := bv (x)) (by first | omega | (simp at *; omega))
                  have ha11 := ha11.setRow (h := x)
                  refine hK.out _ _ (below_setRow hS (by have := hS.size; first | omega | (simp at *; omega) | (simp [setRow_size] at *; omega)) _) (fun hS => ?_)
                  clear hK K
                  simp only [Act.put]
                  refine wpAnyH_ready (rs := [9]) (by kernel_rfl) (by simp) ?_
                  refine (AllReadyH.cons (o := ⟨none, _, _, _, _, _⟩) rfl (fun K hK => ?_) AllReadyH.nil)
                  rw [if_pos (by kernel_rfl)]
                  refine wpo_store_arr (.tmp 12) (.tmp 69) rfl (v1.heap.size) (fun _ => 0) (y) rfl rfl ha12 ?_
                  have ha11 := ha11.setRow_far (g' := v1.heap.size) (c := bv (y)) (by first | omega | (simp at *; omega))
                  have ha12 := ha12.setRow (h := y)
                  refine hK.out _ _ (below_setRow hS (by have := hS.size; first | omega | (simp at *; omega) | (simp [setRow_size] at *; omega)) _) (fun hS => ?_)
                  clear hK K
                  simp only [Act.put]
                  refine wpAnyH_done (by kernel_rfl) ?_ _
                  go_wp2_with fail
                  go_meet
                  case rel => exact ⟨_, _, rfl, rfl, ha11, ha12, hS⟩
              · rw [if_pos (by kernel_rfl)]
                go_simp
                have ha11 := ha11.alloc (.cells #[.int .u8 0, .int .u8 0, .int .u8 0, .int .u8 0, .int .u8 0, .int .u8 0, .int .u8 0, .int .u8 0, .int .u8 0, .int .u8 0, .int .u8 0, .int .u8 0, .int .u8 0, .int .u8 0, .int .u8 0, .int .u8 0] 36)
                have ha12 : Arr ((w3.drew.alloc (.cells #[.int .u8 0, .int .u8 0, .int .u8 0, .int .u8 0, .int .u8 0, .int .u8 0, .int .u8 0, .int .u8 0, .int .u8 0, .int .u8 0, .int .u8 0, .int .u8 0, .int .u8 0, .int .u8 0, .int .u8 0, .int .u8 0] 36)).alloc (.cells #[.int .u8 0, .int .u8 0, .int .u8 0, .int .u8 0, .int .u8 0, .int .u8 0, .int .u8 0, .int .u8 0, .int .u8 0, .int .u8 0, .int .u8 0, .int .u8 0, .int .u8 0, .int .u8 0, .int .u8 0, .int .u8 0] 36)) (w3.heap.size + 1) (fun _ => 0) := Arr.zero _ _ (by first | rfl | simp | simp [World.setRow])
                refine hK.out _ _ (hS.alloc hS.size _) (fun hS => ?_)
                clear hK K
                refine wpAnyH_ready (rs := [2]) (by kernel_rfl) (by simp) ?_
                refine (AllReadyH.cons (o := ⟨some 66, _, _, _, _, _⟩) rfl (fun K hK => ?_) AllReadyH.nil)
                rw [if_pos (by kernel_rfl)]
                go_simp
                refine (HN.out.ex _ hS).mono ?_
                rintro e v1 ⟨rfl, hb1⟩
                have ha11 := ha11.below hb1 ha11.lt
                have ha12 := ha12.below hb1 ha12.lt
                have hz1 := hb1.size
                refine hK.out _ _ (hS.trans (hb1.mono (by first | exact hS.size | (have := hS.size; simp at this ⊢; omega)))) (fun hS => ?_)
                clear hK K
                refine wpAnyH_ready (rs := [5]) (by kernel_rfl) (by simp) ?_
                refine (AllReadyH.cons (o := ⟨some 69, _, _, _, _, _⟩) rfl (fun K hK => ?_) AllReadyH.nil)
                rw [if_pos (by kernel_rfl)]
                go_simp
                refine (HN.out.ey _ hS).mono ?_
                rintro e v2 ⟨rfl, hb2⟩
                have ha11 := ha11.below hb2 ha11.lt
                have ha12 := ha12.below hb2 ha12.lt
                have hz2 := hb2.size
                refine hK.out _ _ (hS.trans (hb2.mono (by first | exact hS.size | (have := hS.size; simp at this ⊢; omega)))) (fun hS => ?_)
                clear hK K
                refine wpAnyH_ready (rs := [8]) (by kernel_rfl) (by simp) ?_
                refine (AllReadyH.cons (o := ⟨none, _, _, _, _, _⟩) rfl (fun K hK => ?_) AllReadyH.nil)
                rw [if_pos (by kernel_rfl)]
                refine wpo_store_arr (.tmp 11) (.tmp 66) rfl (w3.heap.size) (fun _ => 0) (x) rfl rfl ha11 ?_
                have ha12 := ha12.setRow_far (g' := w3.heap.size) (c := bv (x)) (by first | omega | (simp at *; omega))
                have ha11 := ha11.setRow (h := x)
                refine hK.out _ _ (below_setRow hS (by have := hS.size; first | omega | (simp at *; omega) | (simp [setRow_size] at *; omega)) _) (fun hS => ?_)
                clear hK K
                simp only [Act.put]
                refine wpAnyH_ready (rs := [9]) (by kernel_rfl) (by simp) ?_
                refine (AllReadyH.cons (o := ⟨none, _, _, _, _, _⟩) rfl (fun K hK => ?_) AllReadyH.nil)
                rw [if_pos (by kernel_rfl)]
                refine wpo_store_arr (.tmp 12) (.tmp 69) rfl (w3.heap.size + 1) (fun _ => 0) (y) rfl rfl ha12 ?_
                have ha11 := ha11.setRow_far (g' := w3.heap.size + 1) (c := bv (y)) (by first | omega | (simp at *; omega))
                have ha12 := ha12.setRow (h := y)
                refine hK.out _ _ (below_setRow hS (by have := hS.size; first | omega | (simp at *; omega) | (simp [setRow_size] at *; omega)) _) (fun hS => ?_)
                clear hK K
                simp only [Act.put]
                refine wpAnyH_done (by kernel_rfl) ?_ _
                go_wp2_with fail
                go_meet
                case rel => exact ⟨_, _, rfl, rfl, ha11, ha12, hS⟩
            · rw [if_pos (by kernel_rfl)]
              go_simp
              have ha12 : Arr (w3.drew.alloc (.cells #[.int .u8 0, .int .u8 0, .int .u8 0, .int .u8 0, .int .u8 0, .int .u8 0, .int .u8 0, .int .u8 0, .int .u8 0, .int .u8 0, .int .u8 0, .int .u8 0, .int .u8 0, .int .u8 0, .int .u8 0, .int .u8 0] 36)) (w3.heap.size) (fun _ => 0) := Arr.zero _ _ (by first | rfl | simp | simp [World.setRow])
              refine hK.out _ _ (hS.alloc hS.size _) (fun hS => ?_)
              clear hK K
              refine wpAnyH_ready (rs := [2, 6]) (by kernel_rfl) (by simp) ?_
              refine (AllReadyH.cons (o := ⟨some 66, _, _, _, _, _⟩) rfl (fun K hK => ?_) (AllReadyH.cons (o := ⟨some 11, _, _, _, _, _⟩) rfl (fun K hK => ?_) AllReadyH.nil))
              · rw [if_pos (by kernel_rfl)]
                go_simp
                refine (HN.out.ex _ hS).mono ?_
                rintro e v1 ⟨rfl, hb1⟩
                have ha12 := ha12.below hb1 ha12.lt
                have hz1 := hb1.size
                refine hK.out _ _ (hS.trans (hb1.mono (by first | exact hS.size | (have := hS.size; simp at this ⊢; omega)))) (fun hS => ?_)
                clear hK K
                refine wpAnyH_ready (rs := [5, 6]) (by kernel_rfl) (by simp) ?_
                refine (AllReadyH.cons (o := ⟨some 69, _, _, _, _, _⟩) rfl (fun K hK => ?_) (AllReadyH.cons (o := ⟨some 11, _, _, _, _, _⟩) rfl (fun K hK => ?_) AllReadyH.nil))
                · rw [if_pos (by kernel_rfl)]
                  go_simp
                  refine (HN.out.ey _ hS).mono ?_
                  rintro e v2 ⟨rfl, hb2⟩
                  have ha12 := ha12.below hb2 ha12.lt
                  have hz2 := hb2.size
                  refine hK.out _ _ (hS.trans (hb2.mono (by first | exact hS.size | (have := hS.size; simp at this ⊢; omega)))) (fun hS => ?_)
                  clear hK K
                  refine wpAnyH_ready (rs := [6]) (by kernel_rfl) (by simp) ?_
                  refine (AllReadyH.cons (o := ⟨some 11, _, _, _, _, _⟩) rfl (fun K hK => ?_) AllReadyH.nil)
                  rw [if_pos (by kernel_rfl)]
                  go_simp
                  have ha12 := ha12.alloc (.cells #[.int .u8 0, .int .u8 0, .int .u8 0, .int .u8 0, .int .u8 0, .int .u8 0, .int .u8 0, .int .u8 0, .int .u8 0, .int .u8 0, .int .u8 0, .int .u8 0, .int .u8 0, .int .u8 0, .int .u8 0, .int .u8 0] 36)
                  have ha11 : Arr (v2.alloc (.cells #[.int .u8 0, .int .u8 0, .int .u8 0, .int .u8 0, .int .u8 0, .int .u8 0, .int .u8 0, .int .u8 0, .int .u8 0, .int .u8 0, .int .u8 0, .int .u8 0, .int .u8 0, .int .u8 0, .int .u8 0, .int .u8 0] 36)) (v2.heap.size) (fun _ => 0) := Arr.zero _ _ (by first | rfl | simp | simp [World.setRow])
                  refine hK.out _ _ (hS.alloc hS.size _) (fun hS => ?_)
                  clear hK K
                  refine wpAnyH_ready (rs := [8]) (by kernel_rfl) (by simp) ?_
                  refine (AllReadyH.cons (o := ⟨none, _, _, _, _, _⟩) rfl (fun K hK => ?_) AllReadyH.nil)
                  rw [if_pos (by kernel_rfl)]
                  refine wpo_store_arr (.tmp 11) (.tmp 66) rfl (v2.heap.size) (fun _ => 0) (x) rfl rfl ha11 ?_
                  have ha12 := ha12.setRow_far (g' := v2.heap.size) (c := bv (x)) (by first | omega | (simp at *; omega))
                  have ha11 := ha11.setRow (h := x)
                  refine hK.out _ _ (below_setRow hS (by have := hS.size; first | omega | (simp at *; omega) | (simp [setRow_size] at *; omega)) _) (fun hS => ?_)
                  clear hK K
                  simp only [Act.put]
                  refine wpAnyH_ready (rs := [9]) (by kernel_rfl) (by simp) ?_
                  refine (AllReadyH.cons (o := ⟨none, _, _, _, _, _⟩) rfl (fun K hK => ?_) AllReadyH.nil)
                  rw [if_pos (by kernel_rfl)]
                  refine wpo_store_arr (.tmp 12) (.tmp 69) rfl (w3.heap.size) (fun _ => 0) (y) rfl rfl ha12 ?_
                  have ha11 := ha11.setRow_far (g' := w3.heap.size) (c := bv (y)) (by first | omega | (simp at *; omega))
                  have ha12 := ha12.setRow (h := y)
                  refine hK.out _ _ (below_setRow hS (by have := hS.size; first | omega | (simp at *; omega) | (simp [setRow_size] at *; omega)) _) (fun hS => ?_)
                  clear hK K
                  simp only [Act.put]
                  refine wpAnyH_done (by kernel_rfl) ?_ _
                  go_wp2_with fail
                  go_meet
                  case rel => exact ⟨_, _, rfl, rfl, ha11, ha12, hS⟩
                · rw [if_pos (by kernel_rfl)]
                  go_simp
                  have ha12 := ha12.alloc (.cells #[.int .u8 0, .int .u8 0, .int .u8 0, .int .u8 0, .int .u8 0, .int .u8 0, .int .u8 0, .int .u8 0, .int .u8 0, .int .u8 0, .int .u8 0, .int .u8 0, .int .u8 0, .int .u8 0, .int .u8 0, .int .u8 0] 36)
                  have ha11 : Arr (v1.alloc (.cells #[.int .u8 0, .int .u8 0, .int .u8 0, .int .u8 0, .int .u8 0, .int .u8 0, .int .u8 0, .int .u8 0, .int .u8 0, .int .u8 0, .int .u8 0, .int .u8 0, .int .u8 0, .int .u8 0, .int .u8 0, .int .u8 0] 36)) (v1.heap.size) (fun _ => 0) := Arr.zero _ _ (by first | rfl | simp | simp [World.setRow])
                  refine hK.out _ _ (hS.alloc hS.size _) (fun hS => ?_)
                  clear hK K
                  refine wpAnyH_ready (rs := [5]) (by kernel_rfl) (by simp) ?_
                  refine (AllReadyH.cons (o := ⟨some 69, _, _, _, _, _⟩) rfl (fun K hK => ?_) AllReadyH.nil)
                  rw [if_pos (by kernel_rfl)]
                  go_simp
                  refine (HN.out.ey _ hS).mono ?_
                  rintro e v2 ⟨rfl, hb2⟩
                  have ha12 := ha12.below hb2 ha12.lt
                  have ha11 := ha11.below hb2 ha11.lt
                  have hz2 := hb2.size
                  refine hK.out _ _ (hS.trans (hb2.mono (by first | exact hS.size | (have := hS.size; simp at this ⊢; omega)))) (fun hS => ?_)
                  clear hK K
                  refine wpAnyH_ready (rs := [8]) (by kernel_rfl) (by simp) ?_
                  refine (AllReadyH.cons (o := ⟨none, _, _, _, _, _⟩) rfl (fun K hK => ?_) AllReadyH.nil)
                  rw [if_pos (by kernel_rfl)]
                  refine wpo_store_arr (.tmp 11) (.tmp 66) rfl (v1.heap.size) (fun _ => 0) (x) rfl rfl ha11 ?_
                  have ha12 := ha12.setRow_far (g' := v1.heap.size) (c := bv (x)) (by first | omega | (simp at *; omega))
                  have ha11 := ha11.setRow (h := x)
                  refine hK.out _ _ (below_setRow hS (by have := hS.size; first | omega | (simp at *; omega) | (simp [setRow_size] at *; omega)) _) (fun hS => ?_)
                  clear hK K
                  simp only [Act.put]
                  refine wpAnyH_ready (rs := [9]) (by kernel_rfl) (by simp) ?_
                  refine (AllReadyH.cons (o := ⟨none, _, _, _, _, _⟩) rfl (fun K hK => ?_) AllReadyH.nil)
                  rw [if_pos (by kernel_rfl)]
                  refine wpo_store_arr (.tmp 12) (.tmp 69) rfl (w3.heap.size) (fun _ => 0) (y) rfl rfl ha12 ?_
                  have ha11 := ha11.setRow_far (g' := w3.heap.size) (c := bv (y)) (by first | omega | (simp at *; omega))
                  have ha12 := ha12.setRow (h := y)
                  refine hK.out _ _ (below_setRow hS (by have := hS.size; first | omega | (simp at *; omega) | (simp [setRow_size] at *; omega)) _) (fun hS => ?_)
                  clear hK K
                  simp only [Act.put]
                  refine wpAnyH_done (by kernel_rfl) ?_ _
                  go_wp2_with fail
                  go_meet
                  case rel => exact ⟨_, _, rfl, rfl, ha11, ha12, hS⟩
              · rw [if_pos (by kernel_rfl)]
                go_simp
                have ha12 := ha12.alloc (.cells #[.int .u8 0, .int .u8 0, .int .u8 0, .int .u8 0, .int .u8 0, .int .u8 0, .int .u8 0, .int .u8 0, .int .u8 0, .int .u8 0, .int .u8 0, .int .u8 0, .int .u8 0, .int .u8 0, .int .u8 0, .int .u8 0] 36)
                have ha11 : Arr ((w3.drew.alloc (.cells #[.int .u8 0, .int .u8 0, .int .u8 0, .int .u8 0, .int .u8 0, .int .u8 0, .int .u8 0, .int .u8 0, .int .u8 0, .int .u8 0, .int .u8 0, .int .u8 0, .int .u8 0, .int .u8 0, .int .u8 0, .int .u8 0] 36)).alloc (.cells #[.int .u8 0, .int .u8 0, .int .u8 0, .int .u8 0, .int .u8 0, .int .u8 0, .int .u8 0, .int .u8 0, .int .u8 0, .int .u8 0, .int .u8 0, .int .u8 0, .int .u8 0, .int .u8 0, .int .u8 0, .int .u8 0] 36)) (w3.heap.size + 1) (fun _ => 0) := Arr.zero _ _ (by first | rfl | simp | simp [World.setRow])
                refine hK.out _ _ (hS.alloc hS.size _) (fun hS => ?_)
                clear hK K
                refine wpAnyH_ready (rs := [2]) (by kernel_rfl) (by simp) ?_
                refine (AllReadyH.cons (o := ⟨some 66, _, _, _, _, _⟩) rfl (fun K hK => ?_) AllReadyH.nil)
                rw [if_pos (by kernel_rfl)]
                go_simp
                refine (HN.out.ex _ hS).mono ?_
                rintro e v1 ⟨rfl, hb1⟩
                have ha12 := ha12.below hb1 ha12.lt
                have ha11 := ha11.below hb1 ha11.lt
                have hz1 := hb1.size
                refine hK.out _ _ (hS.trans (hb1.mono (by first | exact hS.size | (have := hS.size; simp at this ⊢; omega)))) (fun hS => ?_)
                clear hK K
                refine wpAnyH_ready (rs := [5]) (by kernel_rfl) (by simp) ?_
                refine (AllReadyH.cons (o := ⟨some 69, _, _, _, _, _⟩) rfl (fun K hK => ?_) AllReadyH.nil)
                rw [if_pos (by kernel_rfl)]
                go_simp
                refine (HN.out.ey _ hS).mono ?_
                rintro e v2 ⟨rfl, hb2⟩
                have ha12 := ha12.below hb2 ha12.lt
                have ha11 := ha11.below hb2 ha11.lt
                have hz2 := hb2.size
                refine hK.out _ _ (hS.trans (hb2.mono (by first | exact hS.size | (have := hS.size; simp at this ⊢; omega)))) (fun hS => ?_)
                clear hK K
                refine wpAnyH_ready (rs := [8]) (by kernel_rfl) (by simp) ?_
                refine (AllReadyH.cons (o := ⟨none, _, _, _, _, _⟩) rfl (fun K hK => ?_) AllReadyH.nil)
                rw [if_pos (by kernel_rfl)]
                refine wpo_store_arr (.tmp 11) (.tmp 66) rfl (w3.heap.size + 1) (fun _ => 0) (x) rfl rfl ha11 ?_
                have ha12 := ha12.setRow_far (g' := w3.heap.size + 1) (c := bv (x)) (by first | omega | (simp at *; omega))
                have ha11 := ha11.setRow (h := x)
                refine hK.out _ _ (below_setRow hS (by have := hS.size; first | omega | (simp at *; omega) | (simp [setRow_size] at *; omega)) _) (fun hS => ?_)
                clear hK K
                simp only [Act.put]
                refine wpAnyH_ready (rs := [9]) (by kernel_rfl) (by simp) ?_
                refine (AllReadyH.cons (o := ⟨none, _, _, _, _, _⟩) rfl (fun K hK => ?_) AllReadyH.nil)
                rw [if_pos (by kernel_rfl)]
                refine wpo_store_arr (.tmp 12) (.tmp 69) rfl (w3.heap.size) (fun _ => 0) (y) rfl rfl ha12 ?_
                have ha11 := ha11.setRow_far (g' := w3.heap.size) (c := bv (y)) (by first | omega | (simp at *; omega))
                have ha12 := ha12.setRow (h := y)
                refine hK.out _ _ (below_setRow hS (by have := hS.size; first | omega | (simp at *; omega) | (simp [setRow_size] at *; omega)) _) (fun hS => ?_)
                clear hK K
                simp only [Act.put]
                refine wpAnyH_done (by kernel_rfl) ?_ _
                go_wp2_with fail
                go_meet
                case rel => exact ⟨_, _, rfl, rfl, ha11, ha12, hS⟩
          case rest =>
            obtain ⟨g1, g2, rfl, rfl, hX, hY, hb4⟩ := hcut
            have HN2 := Box.mk (HN.out.below hb4)
            clear HN
            go_wp2_with fail
            refine wp_region_held_drew (S := fun w' => Below wc.heap.size wc w') (by kernel_rfl) (Below.refl _ _).drew (fun hS => ?_)
            refine wpAnyH_take (i := 0) (oi := ⟨some 70, _, _, _, _, _⟩) (v := .pointer (some ⟨g1, 0, none⟩)) rfl (by kernel_rfl) (by kernel_rfl) (by kernel_rfl) (fun _ _ _ h => h) (Or.inl ⟨by kernel_rfl, fun w' hSw => ?_⟩) hS ?_
            · go_simp
            simp only [Act.put, List.setIfInBounds_toArray, List.set_cons_zero, List.set_cons_succ]
            refine wpAnyH_take (i := 1) (oi := ⟨some 71, _, _, _, _, _⟩) (v := .int .u8 105) rfl (by kernel_rfl) (by kernel_rfl) (by kernel_rfl) (fun _ _ _ h => h) (Or.inl ⟨by kernel_rfl, fun w' hSw => ?_⟩) hS ?_
            · (have c := Arr.cell (hX.below hSw hX.lt) (k := 0) (by decide); rw [HN2.out.x0] at c; go_simp)
            simp only [Act.put, List.setIfInBounds_toArray, List.set_cons_zero, List.set_cons_succ]
            refine wpAnyH_take (i := 2) (oi := ⟨some 72, _, _, _, _, _⟩) (v := .bool true) rfl (by kernel_rfl) (by kernel_rfl) (by kernel_rfl) (fun _ _ _ h => h) (Or.inl ⟨by kernel_rfl, fun w' hSw => ?_⟩) hS ?_
            · go_simp
            simp only [Act.put, List.setIfInBounds_toArray, List.set_cons_zero, List.set_cons_succ]
            refine wpAnyH_take (i := 3) (oi := ⟨some 73, _, _, _, _, _⟩) (v := .bool true) rfl (by kernel_rfl) (by kernel_rfl) (by kernel_rfl) (fun _ _ _ h => h) (Or.inl ⟨by kernel_rfl, fun w' hSw => ?_⟩) hS ?_
            · go_simp
            simp only [Act.put, List.setIfInBounds_toArray, List.set_cons_zero, List.set_cons_succ]
            refine wpAnyH_take (i := 4) (oi := ⟨some 74, _, _, _, _, _⟩) (v := .pointer (some ⟨g1, 1, none⟩)) rfl (by kernel_rfl) (by kernel_rfl) (by kernel_rfl) (fun _ _ _ h => h) (Or.inl ⟨by kernel_rfl, fun w' hSw => ?_⟩) hS ?_
            · go_simp
            simp only [Act.put, List.setIfInBounds_toArray, List.set_cons_zero, List.set_cons_succ]
            refine wpAnyH_take (i := 5) (oi := ⟨some 75, _, _, _, _, _⟩) (v := .int .u8 196) rfl (by kernel_rfl) (by kernel_rfl) (by kernel_rfl) (fun _ _ _ h => h) (Or.inl ⟨by kernel_rfl, fun w' hSw => ?_⟩) hS ?_
            · (have c := Arr.cell (hX.below hSw hX.lt) (k := 1) (by decide); rw [HN2.out.x1] at c; go_simp)
            simp only [Act.put, List.setIfInBounds_toArray, List.set_cons_zero, List.set_cons_succ]
            refine wpAnyH_take (i := 6) (oi := ⟨some 76, _, _, _, _, _⟩) (v := .bool true) rfl (by kernel_rfl) (by kernel_rfl) (by kernel_rfl) (fun _ _ _ h => h) (Or.inl ⟨by kernel_rfl, fun w' hSw => ?_⟩) hS ?_
            · go_simp
            simp only [Act.put, List.setIfInBounds_toArray, List.set_cons_zero, List.set_cons_succ]
            refine wpAnyH_take (i := 7) (oi := ⟨some 77, _, _, _, _, _⟩) (v := .bool true) rfl (by kernel_rfl) (by kernel_rfl) (by kernel_rfl) (fun _ _ _ h => h) (Or.inl ⟨by kernel_rfl, fun w' hSw => ?_⟩) hS ?_
            · go_simp
            simp only [Act.put, List.setIfInBounds_toArray, List.set_cons_zero, List.set_cons_succ]
            refine wpAnyH_take (i := 8) (oi := ⟨some 78, _, _, _, _, _⟩) (v := .bool true) rfl (by kernel_rfl) (by kernel_rfl) (by kernel_rfl) (fun _ _ _ h => h) (Or.inl ⟨by kernel_rfl, fun w' hSw => ?_⟩) hS ?_
            · go_simp
            simp only [Act.put, List.setIfInBounds_toArray, List.set_cons_zero, List.set_cons_succ]
            refine wpAnyH_take (i := 9) (oi := ⟨some 79, _, _, _, _, _⟩) (v := .pointer (some ⟨g1, 15, none⟩)) rfl (by kernel_rfl) (by kernel_rfl) (by kernel_rfl) (fun _ _ _ h => h) (Or.inl ⟨by kernel_rfl, fun w' hSw => ?_⟩) hS ?_
            · go_simp
            simp only [Act.put, List.setIfInBounds_toArray, List.set_cons_zero, List.set_cons_succ]
            refine wpAnyH_take (i := 10) (oi := ⟨some 80, _, _, _, _, _⟩) (v := .int .u8 90) rfl (by kernel_rfl) (by kernel_rfl) (by kernel_rfl) (fun _ _ _ h => h) (Or.inl ⟨by kernel_rfl, fun w' hSw => ?_⟩) hS ?_
            · (have c := Arr.cell (hX.below hSw hX.lt) (k := 15) (by decide); rw [HN2.out.x15] at c; go_simp)
            simp only [Act.put, List.setIfInBounds_toArray, List.set_cons_zero, List.set_cons_succ]
            refine wpAnyH_take (i := 11) (oi := ⟨some 81, _, _, _, _, _⟩) (v := .bool true) rfl (by kernel_rfl) (by kernel_rfl) (by kernel_rfl) (fun _ _ _ h => h) (Or.inl ⟨by kernel_rfl, fun w' hSw => ?_⟩) hS ?_
            · go_simp
            simp only [Act.put, List.setIfInBounds_toArray, List.set_cons_zero, List.set_cons_succ]
            refine wpAnyH_take (i := 12) (oi := ⟨some 82, _, _, _, _, _⟩) (v := .bool true) rfl (by kernel_rfl) (by kernel_rfl) (by kernel_rfl) (fun _ _ _ h => h) (Or.inl ⟨by kernel_rfl, fun w' hSw => ?_⟩) hS ?_
            · go_simp
            simp only [Act.put, List.setIfInBounds_toArray, List.set_cons_zero, List.set_cons_succ]
            refine wpAnyH_take (i := 13) (oi := ⟨some 83, _, _, _, _, _⟩) (v := .bool true) rfl (by kernel_rfl) (by kernel_rfl) (by kernel_rfl) (fun _ _ _ h => h) (Or.inl ⟨by kernel_rfl, fun w' hSw => ?_⟩) hS ?_
            · go_simp
            simp only [Act.put, List.setIfInBounds_toArray, List.set_cons_zero, List.set_cons_succ]
            refine wpAnyH_take (i := 14) (oi := ⟨some 84, _, _, _, _, _⟩) (v := .pointer (some ⟨g2, 0, none⟩)) rfl (by kernel_rfl) (by kernel_rfl) (by kernel_rfl) (fun _ _ _ h => h) (Or.inl ⟨by kernel_rfl, fun w' hSw => ?_⟩) hS ?_
            · go_simp
            simp only [Act.put, List.setIfInBounds_toArray, List.set_cons_zero, List.set_cons_succ]
            refine wpAnyH_take (i := 15) (oi := ⟨some 85, _, _, _, _, _⟩) (v := .int .u8 142) rfl (by kernel_rfl) (by kernel_rfl) (by kernel_rfl) (fun _ _ _ h => h) (Or.inl ⟨by kernel_rfl, fun w' hSw => ?_⟩) hS ?_
            · (have c := Arr.cell (hY.below hSw hY.lt) (k := 0) (by decide); rw [HN2.out.y0] at c; go_simp)
            simp only [Act.put, List.setIfInBounds_toArray, List.set_cons_zero, List.set_cons_succ]
            refine wpAnyH_take (i := 16) (oi := ⟨some 86, _, _, _, _, _⟩) (v := .bool true) rfl (by kernel_rfl) (by kernel_rfl) (by kernel_rfl) (fun _ _ _ h => h) (Or.inl ⟨by kernel_rfl, fun w' hSw => ?_⟩) hS ?_
            · go_simp
            simp only [Act.put, List.setIfInBounds_toArray, List.set_cons_zero, List.set_cons_succ]
            refine wpAnyH_take (i := 17) (oi := ⟨some 87, _, _, _, _, _⟩) (v := .bool true) rfl (by kernel_rfl) (by kernel_rfl) (by kernel_rfl) (fun _ _ _ h => h) (Or.inl ⟨by kernel_rfl, fun w' hSw => ?_⟩) hS ?_
            · go_simp
            simp only [Act.put, List.setIfInBounds_toArray, List.set_cons_zero, List.set_cons_succ]
            refine wpAnyH_take (i := 18) (oi := ⟨some 88, _, _, _, _, _⟩) (v := .bool true) rfl (by kernel_rfl) (by kernel_rfl) (by kernel_rfl) (fun _ _ _ h => h) (Or.inl ⟨by kernel_rfl, fun w' hSw => ?_⟩) hS ?_
            · go_simp
            simp only [Act.put, List.setIfInBounds_toArray, List.set_cons_zero, List.set_cons_succ]
            refine wpAnyH_take (i := 19) (oi := ⟨some 89, _, _, _, _, _⟩) (v := .pointer (some ⟨g2, 1, none⟩)) rfl (by kernel_rfl) (by kernel_rfl) (by kernel_rfl) (fun _ _ _ h => h) (Or.inl ⟨by kernel_rfl, fun w' hSw => ?_⟩) hS ?_
            · go_simp
            simp only [Act.put, List.setIfInBounds_toArray, List.set_cons_zero, List.set_cons_succ]
            refine wpAnyH_take (i := 20) (oi := ⟨some 90, _, _, _, _, _⟩) (v := .int .u8 162) rfl (by kernel_rfl) (by kernel_rfl) (by kernel_rfl) (fun _ _ _ h => h) (Or.inl ⟨by kernel_rfl, fun w' hSw => ?_⟩) hS ?_
            · (have c := Arr.cell (hY.below hSw hY.lt) (k := 1) (by decide); rw [HN2.out.y1] at c; go_simp)
            simp only [Act.put, List.setIfInBounds_toArray, List.set_cons_zero, List.set_cons_succ]
            refine wpAnyH_take (i := 21) (oi := ⟨some 91, _, _, _, _, _⟩) (v := .bool true) rfl (by kernel_rfl) (by kernel_rfl) (by kernel_rfl) (fun _ _ _ h => h) (Or.inl ⟨by kernel_rfl, fun w' hSw => ?_⟩) hS ?_
            · go_simp
            simp only [Act.put, List.setIfInBounds_toArray, List.set_cons_zero, List.set_cons_succ]
            refine wpAnyH_take (i := 22) (oi := ⟨some 92, _, _, _, _, _⟩) (v := .bool true) rfl (by kernel_rfl) (by kernel_rfl) (by kernel_rfl) (fun _ _ _ h => h) (Or.inl ⟨by kernel_rfl, fun w' hSw => ?_⟩) hS ?_
            · go_simp
            simp only [Act.put, List.setIfInBounds_toArray, List.set_cons_zero, List.set_cons_succ]
            refine wpAnyH_take (i := 23) (oi := ⟨some 93, _, _, _, _, _⟩) (v := .bool true) rfl (by kernel_rfl) (by kernel_rfl) (by kernel_rfl) (fun _ _ _ h => h) (Or.inl ⟨by kernel_rfl, fun w' hSw => ?_⟩) hS ?_
            · go_simp
            simp only [Act.put, List.setIfInBounds_toArray, List.set_cons_zero, List.set_cons_succ]
            refine wpAnyH_take (i := 24) (oi := ⟨some 94, _, _, _, _, _⟩) (v := .pointer (some ⟨g2, 15, none⟩)) rfl (by kernel_rfl) (by kernel_rfl) (by kernel_rfl) (fun _ _ _ h => h) (Or.inl ⟨by kernel_rfl, fun w' hSw => ?_⟩) hS ?_
            · go_simp
            simp only [Act.put, List.setIfInBounds_toArray, List.set_cons_zero, List.set_cons_succ]
            refine wpAnyH_take (i := 25) (oi := ⟨some 95, _, _, _, _, _⟩) (v := .int .u8 137) rfl (by kernel_rfl) (by kernel_rfl) (by kernel_rfl) (fun _ _ _ h => h) (Or.inl ⟨by kernel_rfl, fun w' hSw => ?_⟩) hS ?_
            · (have c := Arr.cell (hY.below hSw hY.lt) (k := 15) (by decide); rw [HN2.out.y15] at c; go_simp)
            simp only [Act.put, List.setIfInBounds_toArray, List.set_cons_zero, List.set_cons_succ]
            refine wpAnyH_take (i := 26) (oi := ⟨some 96, _, _, _, _, _⟩) (v := .bool true) rfl (by kernel_rfl) (by kernel_rfl) (by kernel_rfl) (fun _ _ _ h => h) (Or.inl ⟨by kernel_rfl, fun w' hSw => ?_⟩) hS ?_
            · go_simp
            simp only [Act.put, List.setIfInBounds_toArray, List.set_cons_zero, List.set_cons_succ]
            refine wpAnyH_take (i := 27) (oi := ⟨some 97, _, _, _, _, _⟩) (v := .bool true) rfl (by kernel_rfl) (by kernel_rfl) (by kernel_rfl) (fun _ _ _ h => h) (Or.inl ⟨by kernel_rfl, fun w' hSw => ?_⟩) hS ?_
            · go_simp
            simp only [Act.put, List.setIfInBounds_toArray, List.set_cons_zero, List.set_cons_succ]
            refine wpAnyH_take (i := 28) (oi := ⟨some 98, _, _, _, _, _⟩) (v := .bool true) rfl (by kernel_rfl) (by kernel_rfl) (by kernel_rfl) (fun _ _ _ h => h) (Or.inl ⟨by kernel_rfl, fun w' hSw => ?_⟩) hS ?_
            · go_simp
            simp only [Act.put, List.setIfInBounds_toArray, List.set_cons_zero, List.set_cons_succ]
            refine wpAnyH_take (i := 29) (oi := ⟨some 99, _, _, _, _, _⟩) (v := .pointer (some ⟨C, 0, none⟩)) rfl (by kernel_rfl) (by kernel_rfl) (by kernel_rfl) (fun _ _ _ h => h) (Or.inl ⟨by kernel_rfl, fun w' hSw => ?_⟩) hS ?_
            · go_simp
            simp only [Act.put, List.setIfInBounds_toArray, List.set_cons_zero, List.set_cons_succ]
            refine wpAnyH_take (i := 30) (oi := ⟨some 100, _, _, _, _, _⟩) (v := .agg (bv (x))) rfl (by kernel_rfl) (by kernel_rfl) (by kernel_rfl) (fun _ _ _ h => h) (yields_arr (by kernel_rfl) (.tmp 11) rfl (g1) (x) rfl fun w' h => hX.below h hX.lt) hS ?_
            simp only [Act.put, List.setIfInBounds_toArray, List.set_cons_zero, List.set_cons_succ]
            refine wpAnyH_take (i := 32) (oi := ⟨some 102, _, _, _, _, _⟩) (v := .agg (bv (Aes.blk))) rfl (by kernel_rfl) (by kernel_rfl) (by kernel_rfl) (fun _ _ _ h => h) (yields_arr (by kernel_rfl) (.tmp 2) rfl (w.heap.size + 1) (Aes.blk) rfl fun w' h => HN2.out.arr.below h HN2.out.arr.lt) hS ?_
            simp only [Act.put, List.setIfInBounds_toArray, List.set_cons_zero, List.set_cons_succ]
            refine wpAnyH_ready (rs := [31]) (by kernel_rfl) (by simp) ?_
            refine (AllReadyH.cons (o := ⟨some 101, _, _, _, _, _⟩) rfl (fun K hK => ?_) AllReadyH.nil)
            rw [if_pos (by kernel_rfl)]
            go_simp
            refine (HN2.out.dx _ hS).mono ?_
            rintro e v1 ⟨rfl, hb1⟩
            have hz1 := hb1.size
            refine hK.out _ _ (hS.trans (hb1.mono (by first | exact hS.size | (have := hS.size; simp at this ⊢; omega)))) (fun hS => ?_)
            clear hK K
            refine wpAnyH_take (i := 33) (oi := ⟨some 103, _, _, _, _, _⟩) (v := .bool true) rfl (by kernel_rfl) (by kernel_rfl) (by kernel_rfl) (fun _ _ _ h => h) (yields_same (by kernel_rfl) (.tmp 101) (.tmp 102) rfl (Aes.blk) rfl rfl) hS ?_
            simp only [Act.put, List.setIfInBounds_toArray, List.set_cons_zero, List.set_cons_succ]
            refine wpAnyH_take (i := 34) (oi := ⟨some 104, _, _, _, _, _⟩) (v := .bool true) rfl (by kernel_rfl) (by kernel_rfl) (by kernel_rfl) (fun _ _ _ h => h) (Or.inl ⟨by kernel_rfl, fun w' hSw => ?_⟩) hS ?_
            · go_simp
            simp only [Act.put, List.setIfInBounds_toArray, List.set_cons_zero, List.set_cons_succ]
            refine wpAnyH_take (i := 35) (oi := ⟨some 105, _, _, _, _, _⟩) (v := .bool true) rfl (by kernel_rfl) (by kernel_rfl) (by kernel_rfl) (fun _ _ _ h => h) (Or.inl ⟨by kernel_rfl, fun w' hSw => ?_⟩) hS ?_
            · go_simp
            simp only [Act.put, List.setIfInBounds_toArray, List.set_cons_zero, List.set_cons_succ]
            refine wpAnyH_take (i := 36) (oi := ⟨some 106, _, _, _, _, _⟩) (v := .pointer (some ⟨C, 0, none⟩)) rfl (by kernel_rfl) (by kernel_rfl) (by kernel_rfl) (fun _ _ _ h => h) (Or.inl ⟨by kernel_rfl, fun w' hSw => ?_⟩) hS ?_
            · go_simp
            simp only [Act.put, List.setIfInBounds_toArray, List.set_cons_zero, List.set_cons_succ]
            refine wpAnyH_ready (rs := [37]) (by kernel_rfl) (by simp) ?_
            refine (AllReadyH.cons (o := ⟨some 107, _, _, _, _, _⟩) rfl (fun K hK => ?_) AllReadyH.nil)
            rw [if_pos (by kernel_rfl)]
            go_simp
            refine (HN2.out.ra _ hS).mono ?_
            rintro e q ⟨rfl, rfl⟩
            refine hK.out _ _ hS (fun hS => ?_)
            clear hK K
            refine wpAnyH_take (i := 38) (oi := ⟨some 108, _, _, _, _, _⟩) (v := .bool true) rfl (by kernel_rfl) (by kernel_rfl) (by kernel_rfl) (fun _ _ _ h => h) (Or.inl ⟨by kernel_rfl, fun w' hSw => ?_⟩) hS ?_
            · go_simp
            simp only [Act.put, List.setIfInBounds_toArray, List.set_cons_zero, List.set_cons_succ]
            refine wpAnyH_take (i := 39) (oi := ⟨some 109, _, _, _, _, _⟩) (v := .bool true) rfl (by kernel_rfl) (by kernel_rfl) (by kernel_rfl) (fun _ _ _ h => h) (Or.inl ⟨by kernel_rfl, fun w' hSw => ?_⟩) hS ?_
            · go_simp
            simp only [Act.put, List.setIfInBounds_toArray, List.set_cons_zero, List.set_cons_succ]
            refine wpAnyH_take (i := 40) (oi := ⟨some 110, _, _, _, _, _⟩) (v := .bool true) rfl (by kernel_rfl) (by kernel_rfl) (by kernel_rfl) (fun _ _ _ h => h) (Or.inl ⟨by kernel_rfl, fun w' hSw => ?_⟩) hS ?_
            · go_simp
            simp only [Act.put, List.setIfInBounds_toArray, List.set_cons_zero, List.set_cons_succ]
            refine wpAnyH_take (i := 41) (oi := ⟨some 111, _, _, _, _, _⟩) (v := .pointer (some ⟨D, 0, none⟩)) rfl (by kernel_rfl) (by kernel_rfl) (by kernel_rfl) (fun _ _ _ h => h) (Or.inl ⟨by kernel_rfl, fun w' hSw => ?_⟩) hS ?_
            · go_simp
            simp only [Act.put, List.setIfInBounds_toArray, List.set_cons_zero, List.set_cons_succ]
            refine wpAnyH_ready (rs := [42]) (by kernel_rfl) (by simp) ?_
            refine (AllReadyH.cons (o := ⟨some 112, _, _, _, _, _⟩) rfl (fun K hK => ?_) AllReadyH.nil)
            rw [if_pos (by kernel_rfl)]
            go_simp
            refine (HN2.out.rb _ hS).mono ?_
            rintro e q ⟨rfl, rfl⟩
            refine hK.out _ _ hS (fun hS => ?_)
            clear hK K
            refine wpAnyH_take (i := 43) (oi := ⟨some 113, _, _, _, _, _⟩) (v := .bool true) rfl (by kernel_rfl) (by kernel_rfl) (by kernel_rfl) (fun _ _ _ h => h) (Or.inl ⟨by kernel_rfl, fun w' hSw => ?_⟩) hS ?_
            · go_simp
            simp only [Act.put, List.setIfInBounds_toArray, List.set_cons_zero, List.set_cons_succ]
            refine wpAnyH_take (i := 44) (oi := ⟨some 114, _, _, _, _, _⟩) (v := .bool true) rfl (by kernel_rfl) (by kernel_rfl) (by kernel_rfl) (fun _ _ _ h => h) (Or.inl ⟨by kernel_rfl, fun w' hSw => ?_⟩) hS ?_
            · go_simp
            simp only [Act.put, List.setIfInBounds_toArray, List.set_cons_zero, List.set_cons_succ]
            refine wpAnyH_take (i := 45) (oi := ⟨some 115, _, _, _, _, _⟩) (v := .bool true) rfl (by kernel_rfl) (by kernel_rfl) (by kernel_rfl) (fun _ _ _ h => h) (Or.inl ⟨by kernel_rfl, fun w' hSw => ?_⟩) hS ?_
            · go_simp
            simp only [Act.put, List.setIfInBounds_toArray, List.set_cons_zero, List.set_cons_succ]
            refine wpAnyH_take (i := 46) (oi := ⟨some 116, _, _, _, _, _⟩) (v := .pointer none) rfl (by kernel_rfl) (by kernel_rfl) (by kernel_rfl) (fun _ _ _ h => h) (Or.inl ⟨by kernel_rfl, fun w' hSw => ?_⟩) hS ?_
            · go_simp
            simp only [Act.put, List.setIfInBounds_toArray, List.set_cons_zero, List.set_cons_succ]
            refine wpAnyH_take (i := 47) (oi := ⟨some 117, _, _, _, _, _⟩) (v := .agg (bv (Aes.blk))) rfl (by kernel_rfl) (by kernel_rfl) (by kernel_rfl) (fun _ _ _ h => h) (yields_arr (by kernel_rfl) (.tmp 2) rfl (w.heap.size + 1) (Aes.blk) rfl fun w' h => HN2.out.arr.below h HN2.out.arr.lt) hS ?_
            simp only [Act.put, List.setIfInBounds_toArray, List.set_cons_zero, List.set_cons_succ]
            refine wpAnyH_take (i := 49) (oi := ⟨some 119, _, _, _, _, _⟩) (v := .agg (bv (Aes.blk))) rfl (by kernel_rfl) (by kernel_rfl) (by kernel_rfl) (fun _ _ _ h => h) (yields_arr (by kernel_rfl) (.tmp 2) rfl (w.heap.size + 1) (Aes.blk) rfl fun w' h => HN2.out.arr.below h HN2.out.arr.lt) hS ?_
            simp only [Act.put, List.setIfInBounds_toArray, List.set_cons_zero, List.set_cons_succ]
            refine wpAnyH_ready (rs := [48]) (by kernel_rfl) (by simp) ?_
            refine (AllReadyH.cons (o := ⟨some 118, _, _, _, _, _⟩) rfl (fun K hK => ?_) AllReadyH.nil)
            rw [if_pos (by kernel_rfl)]
            go_simp
            refine (encrypt_nil Aes.blk _).mono ?_
            rintro e v2 ⟨rfl, hb2⟩
            have hz2 := hb2.size
            refine hK.out _ _ (hS.trans (hb2.mono (by first | exact hS.size | (have := hS.size; simp at this ⊢; omega)))) (fun hS => ?_)
            clear hK K
            refine wpAnyH_take (i := 50) (oi := ⟨some 120, _, _, _, _, _⟩) (v := .bool true) rfl (by kernel_rfl) (by kernel_rfl) (by kernel_rfl) (fun _ _ _ h => h) (yields_same (by kernel_rfl) (.tmp 118) (.tmp 119) rfl (Aes.blk) rfl rfl) hS ?_
            simp only [Act.put, List.setIfInBounds_toArray, List.set_cons_zero, List.set_cons_succ]
            refine wpAnyH_take (i := 51) (oi := ⟨some 121, _, _, _, _, _⟩) (v := .bool true) rfl (by kernel_rfl) (by kernel_rfl) (by kernel_rfl) (fun _ _ _ h => h) (Or.inl ⟨by kernel_rfl, fun w' hSw => ?_⟩) hS ?_
            · go_simp
            simp only [Act.put, List.setIfInBounds_toArray, List.set_cons_zero, List.set_cons_succ]
            refine wpAnyH_take (i := 52) (oi := ⟨some 122, _, _, _, _, _⟩) (v := .bool true) rfl (by kernel_rfl) (by kernel_rfl) (by kernel_rfl) (fun _ _ _ h => h) (Or.inl ⟨by kernel_rfl, fun w' hSw => ?_⟩) hS ?_
            · go_simp
            simp only [Act.put, List.setIfInBounds_toArray, List.set_cons_zero, List.set_cons_succ]
            refine wpAnyH_take (i := 53) (oi := ⟨some 123, _, _, _, _, _⟩) (v := .pointer none) rfl (by kernel_rfl) (by kernel_rfl) (by kernel_rfl) (fun _ _ _ h => h) (Or.inl ⟨by kernel_rfl, fun w' hSw => ?_⟩) hS ?_
            · go_simp
            simp only [Act.put, List.setIfInBounds_toArray, List.set_cons_zero, List.set_cons_succ]
            refine wpAnyH_ready (rs := [54]) (by kernel_rfl) (by simp) ?_
            refine (AllReadyH.cons (o := ⟨some 124, _, _, _, _, _⟩) rfl (fun K hK => ?_) AllReadyH.nil)
            rw [if_pos (by kernel_rfl)]
            go_simp
            refine (rounds_nil _).mono ?_
            rintro e q ⟨rfl, rfl⟩
            refine hK.out _ _ hS (fun hS => ?_)
            clear hK K
            refine wpAnyH_take (i := 55) (oi := ⟨some 125, _, _, _, _, _⟩) (v := .bool true) rfl (by kernel_rfl) (by kernel_rfl) (by kernel_rfl) (fun _ _ _ h => h) (Or.inl ⟨by kernel_rfl, fun w' hSw => ?_⟩) hS ?_
            · go_simp
            simp only [Act.put, List.setIfInBounds_toArray, List.set_cons_zero, List.set_cons_succ]
            refine wpAnyH_take (i := 56) (oi := ⟨some 126, _, _, _, _, _⟩) (v := .bool true) rfl (by kernel_rfl) (by kernel_rfl) (by kernel_rfl) (fun _ _ _ h => h) (Or.inl ⟨by kernel_rfl, fun w' hSw => ?_⟩) hS ?_
            · go_simp
            simp only [Act.put, List.setIfInBounds_toArray, List.set_cons_zero, List.set_cons_succ]
            refine wpAnyH_take (i := 57) (oi := ⟨some 0, _, _, _, _, _⟩) (v := .bool true) rfl (by kernel_rfl) (by kernel_rfl) (by kernel_rfl) (fun _ _ _ h => h) (Or.inl ⟨by kernel_rfl, fun w' hSw => ?_⟩) hS ?_
            · go_simp
            simp only [Act.put, List.setIfInBounds_toArray, List.set_cons_zero]
            refine wpAnyH_done (by kernel_rfl) ?_ _
            go_wp2_with fail
            go_ret
            exact ⟨rfl, hbel3.trans ((hb4.trans (hS.mono hb4.size)).mono hbel3.size)⟩
        · have hk3 : k < 16 := by omega
          clear hk2
          have hc := hA.cell hk3
          rw [if_neg (by omega)] at hc
          have hfz := hA.free k
          have q0 : (0 : Int) ≤ (k : Int) := by omega
          have q1 : (k : Int) < 16 := by omega
          go_wp2_with fail
          go_roundw
          case rel =>
            refine ⟨k + 1, by go_num, by omega, ?_, ?_, ?_, ?_⟩
            · exact hK.setOther (show w.heap.size ≠ w.heap.size + 1 by omega) _
            · refine (Arr.set (x := 17 * k) hA).congr (fun j hj => by
                unfold upd
                by_cases e1 : j = k
                · subst e1; rw [if_pos rfl, if_pos (by omega)]; unfold Aes.blk; rw [if_pos hj]
                · rw [if_neg e1]
                  show (if j < k then Aes.blk j else 0) = _
                  by_cases hjk : j < k
                  · rw [if_pos hjk, if_pos (by omega)]
                  · rw [if_neg hjk, if_neg (by omega)])
            · exact hbel.setCell (show w.heap.size ≤ w.heap.size + 1 by omega) _
            · rw [World.size_setCell]; exact hsz
          case measure => simp [intOf]; omega
    · have hk3 : k < 32 := by omega
      clear hk2
      have hm : (k : Int) % 256 = (k : Int) := by omega
      have hc := World.rowIs.cell hK hk3
      have hfz := World.rowIs.frozen hK k
      have e0 : bCell (fun j => if j < k then j else 0) k = .int .u8 0 := by show Value.int .u8 ((if k < k then k else 0 : Nat) : Int) = _; rw [if_neg (by omega)]; rfl
      rw [e0] at hc
      clear e0
      have q0 : (0 : Int) ≤ (k : Int) := by omega
      have q1 : (k : Int) < 32 := by omega
      go_wp2_with fail
      go_roundw
      case rel =>
        refine ⟨k + 1, by go_num, by omega, ?_, ?_, ?_, ?_⟩
        · refine rowIs_set (x := k) (g := fun j => if j < k + 1 then j else 0) hK (fun j _ => ?_) rfl
          by_cases e1 : j = k
          · subst e1; rw [if_pos rfl]; show _ = Value.int .u8 ((if j < j + 1 then j else 0 : Nat) : Int); rw [if_pos (by omega)]
          · rw [if_neg e1]
            show Value.int .u8 ((if j < k then j else 0 : Nat) : Int) = Value.int .u8 ((if j < k + 1 then j else 0 : Nat) : Int)
            by_cases hjk : j < k
            · rw [if_pos hjk, if_pos (by omega)]
            · rw [if_neg hjk, if_neg (by omega)]
        · exact hA.far (show w.heap.size + 1 ≠ w.heap.size by omega) _
        · exact hbel.setCell (Nat.le_refl _) _
        · rw [World.size_setCell]; exact hsz
      case measure => simp [intOf]; omega
end Go.Proofs.Ytibfihjcjohadaa
