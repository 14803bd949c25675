/-
  The walk of the law on what the document says of blocks: it returns true, whatever the input, and writes nothing that was there.
-/
import Derived.Test.YtibfihjcjohadaaRTms
import Derived.Test.YtibfihjcjohadaaL7c
namespace Go.Proofs.Ytibfihjcjohadaa
open Go.RowKit Go.Op
open Twk (byt dbl hlv tm byt_lt dbl_lt hlv_lt tm_lt up down xor_lt128 byt_xor)
theorem nsum_two (x y : Nat) : nsum [x, y] = x ^^^ y := by simp [nsum]
set_option maxRecDepth 100000 in
set_option maxHeartbeats 400000 in
theorem tells7_out (A : Option Addr) (k c : Nat) (n : Int) (B : Option Addr) (k2 c2 : Nat) (w : World) (h : 100 < k ∨ (k ≤ 100 ∧ 100 < k2)) :
    Calls Try.prog 8 #[.slice A k c, .int .i64 n, .slice B k2 c2] w fun e w' => e = .returned (.bool true) ∧ Below w.heap.size w w' := by
  rcases h with h | ⟨h1, h2⟩
  all_goals
    go_enter Try.func8, Try.ntmps8
    go_wp2_with fail
    refine (awake7 _).mono ?_
    rintro e w' ⟨rfl, hbel⟩
    go_wp2_with fail
    go_ret
    exact ⟨rfl, hbel⟩
set_option maxRecDepth 100000 in
set_option maxHeartbeats 4000000 in
theorem tells7_in (A : Option Addr) (k c : Nat) (l : List Nat) (n : Int) (B : Option Addr) (k2 c2 : Nat) (l2 : List Nat) (w : World) (hl : Bytes w A k l) (hl2 : Bytes w B k2 l2) (h0 : k ≤ 100) (h1 : k2 ≤ 100) (hn : n ≤ 9223372036854775807) :
    Calls Try.prog 8 #[.slice A k c, .int .i64 n, .slice B k2 c2] w fun e w' => e = .returned (.bool true) ∧ Below w.heap.size w w' := by
  have HX : Box (numL l < 2 ^ 128) := ⟨numL_lt hl.2.2.1⟩
  have HY : Box (numL l2 < 2 ^ 128) := ⟨numL_lt hl2.2.2.1⟩
  have HN : Box (n ≤ 9223372036854775807) := ⟨hn⟩
  have HC := Box.mk (fun w hl => block_any A k c l w hl)
  have HD := Box.mk (fun w hl => block_any B k2 c2 l2 w hl)
  clear hn
  revert HX HY HC HD
  generalize numL l = X
  generalize numL l2 = Y
  intro HX HY HC HD
  go_enter Try.func8, Try.ntmps8
  go_wp2_with fail
  refine (HC.out _ hl).mono ?_
  rintro e w1 ⟨rfl, hb1⟩
  go_wp2_with fail
  refine (HD.out _ (hl2.below hb1)).mono ?_
  rintro e w2 ⟨rfl, hb2⟩
  have hb2' : Below w.heap.size w w2 := hb1.trans (hb2.mono hb1.size)
  have hs2 := hb2'.size
  clear hb1 hb2
  go_wp2_with (first
    | ((with_reducible show wpList _ _ _ (⟨_, Op.store 36 (.tmp 7) (.tmp 21), _, _, _, _⟩ :: _) _ _); refine wp_store_arr rfl (.tmp 7) (.tmp 21) rfl (w2.heap.size) (fun _ => 0) (byt X) rfl rfl ((Arr.zero _ _ rfl).alloc _) ?_)
    | ((with_reducible show wpList _ _ _ (⟨_, Op.store 36 (.tmp 8) (.tmp 23), _, _, _, _⟩ :: _) _ _); refine wp_store_arr rfl (.tmp 8) (.tmp 23) rfl (w2.heap.size + 1) (fun _ => 0) (byt Y) rfl rfl ((Arr.zero _ _ (by simp)).setRow_far (by omega)) ?_))
  go_loopw [10] (fun i wr => ∃ (k : Nat) (h : Nat → Nat), i = .int .i64 (k : Int) ∧ k ≤ 16 ∧ Hid (∀ j, h j = if j < k then byt (X ^^^ Y) j else 0) ∧ Arr wr w2.heap.size (byt X) ∧ Arr wr (w2.heap.size + 1) (byt Y) ∧ Arr wr (w2.heap.size + 2) h ∧ Below w.heap.size w wr) (fun i _ => 16 - (intOf i).toNat)
  case atStart =>
    refine ⟨0, _, rfl, by omega, Lib.hid (fun j => rfl), ?_, ?_, Arr.zero _ _ (by simp [World.setRow]), ?_⟩
    · exact ((((Arr.zero _ _ rfl).alloc _).setRow).setRow_far (by omega)).alloc _
    · exact (((Arr.zero _ _ (by simp)).setRow_far (by omega)).setRow).alloc _
    · exact (below_setRow (below_setRow ((hb2'.alloc hs2 _).alloc (by simp; omega) _) hs2 _) (by omega) _).alloc (by simp [World.setRow]; omega) _
  case round =>
    obtain ⟨k, h, rfl, hk, H, ha, hb, hc, hbel⟩ := hrel
    by_cases hlt : k < 16
    · have c1 := ha.cell hlt
      have c2 := hb.cell hlt
      have c3 := hc.cell hlt
      have c4 := hc.free k
      have hxr := u8_xor_nat _ _ (byt_lt X k) (byt_lt Y k)
      go_wp2_with fail
      go_region
      go_wp2_with fail
      go_roundw
      case rel =>
        refine ⟨k + 1, upd h k (byt X k ^^^ byt Y k), by go_num, by omega, Lib.hid (fun j => ?_), (ha.far (show w2.heap.size ≠ w2.heap.size + 2 by omega) _).drew, (hb.far (show w2.heap.size + 1 ≠ w2.heap.size + 2 by omega) _).drew, (Arr.set hc).drew, (hbel.setCell (show w.heap.size ≤ w2.heap.size + 2 by omega) _).drew⟩
        unfold upd
        by_cases e : j = k
        · subst e; rw [if_pos rfl, if_pos (by omega), byt_xor]
        · rw [if_neg e, H.out j]
          by_cases hjk : j < k
          · rw [if_pos hjk, if_pos (by omega)]
          · rw [if_neg hjk, if_neg (by omega)]
      case measure => simp [intOf]; omega
    · obtain rfl : k = 16 := by omega
      have hc2 : Arr wr (w2.heap.size + 2) (byt (X ^^^ Y)) := hc.congr (fun j hj => by rw [H.out j, if_pos hj])
      clear H hc
      go_wp2_with fail
      have hS1 : S3 w w2.heap.size X (w2.heap.size + 1) Y (w2.heap.size + 2) (X ^^^ Y) wr.drew := ⟨ha.drew, hb.drew, hc2.drew, hbel.drew⟩
      clear ha hb hc2 hbel hb2' hl hl2
      refine wp_region_held_drew (S := S3 w w2.heap.size X (w2.heap.size + 1) Y (w2.heap.size + 2) (X ^^^ Y)) (by kernel_rfl) hS1 (fun hS => ?_)
      clear hS1
      refine wpAnyH_take (i := 0) (oi := ⟨some 37, _, _, _, _, _⟩) (v := .agg (bv (byt X))) rfl (by kernel_rfl) (by kernel_rfl) (by kernel_rfl) (fun _ _ _ h => h) (yields_arr (by kernel_rfl) (.tmp 7) rfl (w2.heap.size) (byt X) rfl (fun _ h => h.1)) hS ?_
      simp only [Act.put, List.setIfInBounds_toArray, List.set_cons_zero, List.set_cons_succ]
      refine wpAnyH_take (i := 2) (oi := ⟨some 39, _, _, _, _, _⟩) (v := .agg (bv (byt X))) rfl (by kernel_rfl) (by kernel_rfl) (by kernel_rfl) (fun _ _ _ h => h) (yields_arr (by kernel_rfl) (.tmp 7) rfl (w2.heap.size) (byt X) rfl (fun _ h => h.1)) hS ?_
      simp only [Act.put, List.setIfInBounds_toArray, List.set_cons_zero, List.set_cons_succ]
      refine wpAnyH_ready (rs := [1]) (by kernel_rfl) (by simp) ?_
      refine AllReadyH.cons (o := ⟨some 38, _, _, _, _, _⟩) rfl (fun K hK => ?_) AllReadyH.nil
      rw [if_pos (by kernel_rfl)]
      go_simp
      refine (double_any X HX.out _).mono ?_
      rintro e v1 ⟨rfl, hb⟩
      refine hK.out _ _ (hS.below hb) (fun hS => ?_)
      clear hK K
      refine wpAnyH_ready (rs := [3]) (by kernel_rfl) (by simp) ?_
      refine AllReadyH.cons (o := ⟨some 40, _, _, _, _, _⟩) rfl (fun K hK => ?_) AllReadyH.nil
      rw [if_pos (by kernel_rfl)]
      go_simp
      refine (rdouble_any X HX.out _).mono ?_
      rintro e v2 ⟨rfl, hb⟩
      refine hK.out _ _ (hS.below hb) (fun hS => ?_)
      clear hK K
      refine wpAnyH_take (i := 4) (oi := ⟨some 41, _, _, _, _, _⟩) (v := .bool true) rfl (by kernel_rfl) (by kernel_rfl) (by kernel_rfl) (fun _ _ _ h => h) (yields_same (by kernel_rfl) (.tmp 38) (.tmp 40) rfl (byt (dbl X)) rfl rfl) hS ?_
      simp only [Act.put, List.setIfInBounds_toArray, List.set_cons_zero, List.set_cons_succ]
      refine wpAnyH_take (i := 5) (oi := ⟨some 42, _, _, _, _, _⟩) (v := .bool true) rfl (by kernel_rfl) (by kernel_rfl) (by kernel_rfl) (fun _ _ _ h => h) (Or.inl ⟨by kernel_rfl, fun w' hSw => ?_⟩) hS ?_
      · go_simp
      simp only [Act.put, List.setIfInBounds_toArray, List.set_cons_zero, List.set_cons_succ]
      refine wpAnyH_take (i := 6) (oi := ⟨some 43, _, _, _, _, _⟩) (v := .agg (bv (byt X))) rfl (by kernel_rfl) (by kernel_rfl) (by kernel_rfl) (fun _ _ _ h => h) (yields_arr (by kernel_rfl) (.tmp 7) rfl (w2.heap.size) (byt X) rfl (fun _ h => h.1)) hS ?_
      simp only [Act.put, List.setIfInBounds_toArray, List.set_cons_zero, List.set_cons_succ]
      refine wpAnyH_take (i := 8) (oi := ⟨some 45, _, _, _, _, _⟩) (v := .agg (bv (byt X))) rfl (by kernel_rfl) (by kernel_rfl) (by kernel_rfl) (fun _ _ _ h => h) (yields_arr (by kernel_rfl) (.tmp 7) rfl (w2.heap.size) (byt X) rfl (fun _ h => h.1)) hS ?_
      simp only [Act.put, List.setIfInBounds_toArray, List.set_cons_zero, List.set_cons_succ]
      refine wpAnyH_ready (rs := [7]) (by kernel_rfl) (by simp) ?_
      refine AllReadyH.cons (o := ⟨some 44, _, _, _, _, _⟩) rfl (fun K hK => ?_) AllReadyH.nil
      rw [if_pos (by kernel_rfl)]
      go_simp
      refine (halve_any X HX.out _).mono ?_
      rintro e v3 ⟨rfl, hb⟩
      refine hK.out _ _ (hS.below hb) (fun hS => ?_)
      clear hK K
      refine wpAnyH_ready (rs := [9]) (by kernel_rfl) (by simp) ?_
      refine AllReadyH.cons (o := ⟨some 46, _, _, _, _, _⟩) rfl (fun K hK => ?_) AllReadyH.nil
      rw [if_pos (by kernel_rfl)]
      go_simp
      refine (rhalve_any X HX.out _).mono ?_
      rintro e v4 ⟨rfl, hb⟩
      refine hK.out _ _ (hS.below hb) (fun hS => ?_)
      clear hK K
      refine wpAnyH_take (i := 10) (oi := ⟨some 47, _, _, _, _, _⟩) (v := .bool true) rfl (by kernel_rfl) (by kernel_rfl) (by kernel_rfl) (fun _ _ _ h => h) (yields_same (by kernel_rfl) (.tmp 44) (.tmp 46) rfl (byt (hlv X)) rfl rfl) hS ?_
      simp only [Act.put, List.setIfInBounds_toArray, List.set_cons_zero, List.set_cons_succ]
      refine wpAnyH_take (i := 11) (oi := ⟨some 48, _, _, _, _, _⟩) (v := .bool true) rfl (by kernel_rfl) (by kernel_rfl) (by kernel_rfl) (fun _ _ _ h => h) (Or.inl ⟨by kernel_rfl, fun w' hSw => ?_⟩) hS ?_
      · go_simp
      simp only [Act.put, List.setIfInBounds_toArray, List.set_cons_zero, List.set_cons_succ]
      refine wpAnyH_take (i := 12) (oi := ⟨some 49, _, _, _, _, _⟩) (v := .bool true) rfl (by kernel_rfl) (by kernel_rfl) (by kernel_rfl) (fun _ _ _ h => h) (Or.inl ⟨by kernel_rfl, fun w' hSw => ?_⟩) hS ?_
      · go_simp
      simp only [Act.put, List.setIfInBounds_toArray, List.set_cons_zero, List.set_cons_succ]
      refine wpAnyH_take (i := 13) (oi := ⟨some 50, _, _, _, _, _⟩) (v := .agg (bv (byt X))) rfl (by kernel_rfl) (by kernel_rfl) (by kernel_rfl) (fun _ _ _ h => h) (yields_arr (by kernel_rfl) (.tmp 7) rfl (w2.heap.size) (byt X) rfl (fun _ h => h.1)) hS ?_
      simp only [Act.put, List.setIfInBounds_toArray, List.set_cons_zero, List.set_cons_succ]
      refine wpAnyH_take (i := 14) (oi := ⟨some 51, _, _, _, _, _⟩) (v := .int .i64 n) rfl (by kernel_rfl) (by kernel_rfl) (by kernel_rfl) (fun _ _ _ h => h) (Or.inl ⟨by kernel_rfl, fun w' hSw => ?_⟩) hS ?_
      · go_simp
      simp only [Act.put, List.setIfInBounds_toArray, List.set_cons_zero, List.set_cons_succ]
      refine wpAnyH_take (i := 16) (oi := ⟨some 53, _, _, _, _, _⟩) (v := .agg (bv (byt X))) rfl (by kernel_rfl) (by kernel_rfl) (by kernel_rfl) (fun _ _ _ h => h) (yields_arr (by kernel_rfl) (.tmp 7) rfl (w2.heap.size) (byt X) rfl (fun _ h => h.1)) hS ?_
      simp only [Act.put, List.setIfInBounds_toArray, List.set_cons_zero, List.set_cons_succ]
      refine wpAnyH_take (i := 17) (oi := ⟨some 54, _, _, _, _, _⟩) (v := .int .i64 n) rfl (by kernel_rfl) (by kernel_rfl) (by kernel_rfl) (fun _ _ _ h => h) (Or.inl ⟨by kernel_rfl, fun w' hSw => ?_⟩) hS ?_
      · go_simp
      simp only [Act.put, List.setIfInBounds_toArray, List.set_cons_zero, List.set_cons_succ]
      refine wpAnyH_ready (rs := [15]) (by kernel_rfl) (by simp) ?_
      refine AllReadyH.cons (o := ⟨some 52, _, _, _, _, _⟩) rfl (fun K hK => ?_) AllReadyH.nil
      rw [if_pos (by kernel_rfl)]
      go_simp
      refine (times_any X n HX.out _).mono ?_
      rintro e v5 ⟨rfl, hb⟩
      refine hK.out _ _ (hS.below hb) (fun hS => ?_)
      clear hK K
      refine wpAnyH_ready (rs := [18]) (by kernel_rfl) (by simp) ?_
      refine AllReadyH.cons (o := ⟨some 55, _, _, _, _, _⟩) rfl (fun K hK => ?_) AllReadyH.nil
      rw [if_pos (by kernel_rfl)]
      go_simp
      refine (rtimes_any X n HX.out _).mono ?_
      rintro e v6 ⟨rfl, hb⟩
      refine hK.out _ _ (hS.below hb) (fun hS => ?_)
      clear hK K
      refine wpAnyH_take (i := 19) (oi := ⟨some 56, _, _, _, _, _⟩) (v := .bool true) rfl (by kernel_rfl) (by kernel_rfl) (by kernel_rfl) (fun _ _ _ h => h) (yields_same (by kernel_rfl) (.tmp 52) (.tmp 55) rfl (byt (timesB X n)) rfl rfl) hS ?_
      simp only [Act.put, List.setIfInBounds_toArray, List.set_cons_zero, List.set_cons_succ]
      refine wpAnyH_take (i := 20) (oi := ⟨some 57, _, _, _, _, _⟩) (v := .bool true) rfl (by kernel_rfl) (by kernel_rfl) (by kernel_rfl) (fun _ _ _ h => h) (Or.inl ⟨by kernel_rfl, fun w' hSw => ?_⟩) hS ?_
      · go_simp
      simp only [Act.put, List.setIfInBounds_toArray, List.set_cons_zero, List.set_cons_succ]
      refine wpAnyH_take (i := 21) (oi := ⟨some 58, _, _, _, _, _⟩) (v := .bool true) rfl (by kernel_rfl) (by kernel_rfl) (by kernel_rfl) (fun _ _ _ h => h) (Or.inl ⟨by kernel_rfl, fun w' hSw => ?_⟩) hS ?_
      · go_simp
      simp only [Act.put, List.setIfInBounds_toArray, List.set_cons_zero, List.set_cons_succ]
      refine wpAnyH_take (i := 22) (oi := ⟨some 59, _, _, _, _, _⟩) (v := .int .i64 n) rfl (by kernel_rfl) (by kernel_rfl) (by kernel_rfl) (fun _ _ _ h => h) (Or.inl ⟨by kernel_rfl, fun w' hSw => ?_⟩) hS ?_
      · go_simp
      simp only [Act.put, List.setIfInBounds_toArray, List.set_cons_zero, List.set_cons_succ]
      refine wpAnyH_take (i := 24) (oi := ⟨some 61, _, _, _, _, _⟩) (v := .int .i64 n) rfl (by kernel_rfl) (by kernel_rfl) (by kernel_rfl) (fun _ _ _ h => h) (Or.inl ⟨by kernel_rfl, fun w' hSw => ?_⟩) hS ?_
      · go_simp
      simp only [Act.put, List.setIfInBounds_toArray, List.set_cons_zero, List.set_cons_succ]
      refine wpAnyH_ready (rs := [23]) (by kernel_rfl) (by simp) ?_
      refine AllReadyH.cons (o := ⟨some 60, _, _, _, _, _⟩) rfl (fun K hK => ?_) AllReadyH.nil
      rw [if_pos (by kernel_rfl)]
      go_simp
      refine (number_any n HN.out _).mono ?_
      rintro e v7 ⟨rfl, hb⟩
      refine hK.out _ _ (hS.below hb) (fun hS => ?_)
      clear hK K
      refine wpAnyH_ready (rs := [25]) (by kernel_rfl) (by simp) ?_
      refine AllReadyH.cons (o := ⟨some 62, _, _, _, _, _⟩) rfl (fun K hK => ?_) AllReadyH.nil
      rw [if_pos (by kernel_rfl)]
      go_simp
      refine (rnumber_any n HN.out _).mono ?_
      rintro e v8 ⟨rfl, hb⟩
      refine hK.out _ _ (hS.below hb) (fun hS => ?_)
      clear hK K
      refine wpAnyH_take (i := 26) (oi := ⟨some 63, _, _, _, _, _⟩) (v := .bool true) rfl (by kernel_rfl) (by kernel_rfl) (by kernel_rfl) (fun _ _ _ h => h) (yields_same (by kernel_rfl) (.tmp 60) (.tmp 62) rfl (byt (n.toNat)) rfl rfl) hS ?_
      simp only [Act.put, List.setIfInBounds_toArray, List.set_cons_zero, List.set_cons_succ]
      refine wpAnyH_take (i := 27) (oi := ⟨some 64, _, _, _, _, _⟩) (v := .bool true) rfl (by kernel_rfl) (by kernel_rfl) (by kernel_rfl) (fun _ _ _ h => h) (Or.inl ⟨by kernel_rfl, fun w' hSw => ?_⟩) hS ?_
      · go_simp
      simp only [Act.put, List.setIfInBounds_toArray, List.set_cons_zero, List.set_cons_succ]
      refine wpAnyH_take (i := 28) (oi := ⟨some 65, _, _, _, _, _⟩) (v := .bool true) rfl (by kernel_rfl) (by kernel_rfl) (by kernel_rfl) (fun _ _ _ h => h) (Or.inl ⟨by kernel_rfl, fun w' hSw => ?_⟩) hS ?_
      · go_simp
      simp only [Act.put, List.setIfInBounds_toArray, List.set_cons_zero, List.set_cons_succ]
      refine wpAnyH_take (i := 29) (oi := ⟨some 66, _, _, _, _, _⟩) (v := .agg (bv (byt X))) rfl (by kernel_rfl) (by kernel_rfl) (by kernel_rfl) (fun _ _ _ h => h) (yields_arr (by kernel_rfl) (.tmp 7) rfl (w2.heap.size) (byt X) rfl (fun _ h => h.1)) hS ?_
      simp only [Act.put, List.setIfInBounds_toArray, List.set_cons_zero, List.set_cons_succ]
      refine wpAnyH_take (i := 30) (oi := ⟨some 67, _, _, _, _, _⟩) (v := .agg (bv (byt Y))) rfl (by kernel_rfl) (by kernel_rfl) (by kernel_rfl) (fun _ _ _ h => h) (yields_arr (by kernel_rfl) (.tmp 8) rfl (w2.heap.size + 1) (byt Y) rfl (fun _ h => h.2.1)) hS ?_
      simp only [Act.put, List.setIfInBounds_toArray, List.set_cons_zero, List.set_cons_succ]
      refine wpAnyH_take (i := 33) (oi := ⟨some 70, _, _, _, _, _⟩) (v := .agg (bv (byt (X ^^^ Y)))) rfl (by kernel_rfl) (by kernel_rfl) (by kernel_rfl) (fun _ _ _ h => h) (yields_arr (by kernel_rfl) (.tmp 9) rfl (w2.heap.size + 2) (byt (X ^^^ Y)) rfl (fun _ h => h.2.2.1)) hS ?_
      simp only [Act.put, List.setIfInBounds_toArray, List.set_cons_zero, List.set_cons_succ]
      refine wpAnyH_ready (rs := [31]) (by kernel_rfl) (by simp) ?_
      refine AllReadyH.cons (o := ⟨some 68, _, _, _, _, _⟩) rfl (fun K hK => ?_) AllReadyH.nil
      rw [if_pos (by kernel_rfl)]
      refine wp_two (.tmp 66) (.tmp 67) rfl (byt X) (byt Y) rfl rfl ?_
      refine hK.out _ _ (hS.below ((Below.refl _ _).alloc (Nat.le_refl _) _)) (fun hS => ?_)
      clear hK K
      simp only [Act.put, List.setIfInBounds_toArray, List.set_cons_zero, List.set_cons_succ]
      refine wpAnyH_ready (rs := [32]) (by kernel_rfl) (by simp) ?_
      refine AllReadyH.cons (o := ⟨some 69, _, _, _, _, _⟩) rfl (fun K hK => ?_) AllReadyH.nil
      rw [if_pos (by kernel_rfl)]
      go_simp
      refine (xor_any _ 2 2 [X, Y] _ (blocks_two _ _ X Y rfl HX.out HY.out)).mono ?_
      rw [nsum_two]
      rintro e v9 ⟨rfl, hb⟩
      refine hK.out _ _ (hS.below hb) (fun hS => ?_)
      clear hK K
      refine wpAnyH_take (i := 34) (oi := ⟨some 71, _, _, _, _, _⟩) (v := .bool true) rfl (by kernel_rfl) (by kernel_rfl) (by kernel_rfl) (fun _ _ _ h => h) (yields_same (by kernel_rfl) (.tmp 69) (.tmp 70) rfl (byt (X ^^^ Y)) rfl rfl) hS ?_
      simp only [Act.put, List.setIfInBounds_toArray, List.set_cons_zero, List.set_cons_succ]
      refine wpAnyH_take (i := 35) (oi := ⟨some 72, _, _, _, _, _⟩) (v := .bool true) rfl (by kernel_rfl) (by kernel_rfl) (by kernel_rfl) (fun _ _ _ h => h) (Or.inl ⟨by kernel_rfl, fun w' hSw => ?_⟩) hS ?_
      · go_simp
      simp only [Act.put, List.setIfInBounds_toArray, List.set_cons_zero, List.set_cons_succ]
      refine wpAnyH_take (i := 36) (oi := ⟨some 73, _, _, _, _, _⟩) (v := .bool true) rfl (by kernel_rfl) (by kernel_rfl) (by kernel_rfl) (fun _ _ _ h => h) (Or.inl ⟨by kernel_rfl, fun w' hSw => ?_⟩) hS ?_
      · go_simp
      simp only [Act.put, List.setIfInBounds_toArray, List.set_cons_zero, List.set_cons_succ]
      refine wpAnyH_ready (rs := [37]) (by kernel_rfl) (by simp) ?_
      refine AllReadyH.cons (o := ⟨some 74, _, _, _, _, _⟩) rfl (fun K hK => ?_) AllReadyH.nil
      rw [if_pos (by kernel_rfl)]
      go_simp
      refine (awake7 _).mono ?_
      rintro e v10 ⟨rfl, hb⟩
      refine hK.out _ _ (hS.below hb) (fun hS => ?_)
      clear hK K
      refine wpAnyH_take (i := 38) (oi := ⟨some 75, _, _, _, _, _⟩) (v := .bool true) rfl (by kernel_rfl) (by kernel_rfl) (by kernel_rfl) (fun _ _ _ h => h) (Or.inl ⟨by kernel_rfl, fun w' hSw => ?_⟩) hS ?_
      · go_simp
      simp only [Act.put, List.setIfInBounds_toArray, List.set_cons_zero, List.set_cons_succ]
      refine wpAnyH_take (i := 39) (oi := ⟨some 6, _, _, _, _, _⟩) (v := .bool true) rfl (by kernel_rfl) (by kernel_rfl) (by kernel_rfl) (fun _ _ _ h => h) (Or.inl ⟨by kernel_rfl, fun w' hSw => ?_⟩) hS ?_
      · go_simp
      simp only [Act.put, List.setIfInBounds_toArray, List.set_cons_zero, List.set_cons_succ]
      refine wpAnyH_done (by kernel_rfl) ?_ _
      go_wp2_with fail
      go_ret
      exact ⟨rfl, hS.2.2.2⟩
theorem tweakTells_walk {w : World} (A : Option Addr) (k c : Nat) (l : List Nat) (_hc : k ≤ c) (hl : Bytes w A k l) (n : Int) (_n0 : -9223372036854775808 ≤ n) (n1 : n ≤ 9223372036854775807) (B : Option Addr) (k2 c2 : Nat) (l2 : List Nat) (_hc2 : k2 ≤ c2) (hl2 : Bytes w B k2 l2) :
    Calls Try.prog 8 #[.slice A k c, .int .i64 n, .slice B k2 c2] w fun e w' => e = .returned (.bool true) ∧ Below w.heap.size w w' := by
  by_cases h : k ≤ 100 ∧ k2 ≤ 100
  · exact tells7_in A k c l n B k2 c2 l2 w hl hl2 h.1 h.2 n1
  · exact tells7_out A k c n B k2 c2 w (by omega)
end Go.Proofs.Ytibfihjcjohadaa
