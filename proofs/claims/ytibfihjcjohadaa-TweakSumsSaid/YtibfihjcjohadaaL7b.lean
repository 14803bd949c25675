/-
  The walk of the law on halving what was doubled: it returns true, whatever the input, and writes nothing that was there.
-/
import Derived.Test.YtibfihjcjohadaaAw7
namespace Go.Proofs.Ytibfihjcjohadaa
open Go.RowKit Go.Op
open Twk (byt dbl hlv tm byt_lt dbl_lt hlv_lt tm_lt up down xor_lt128 byt_xor hlv_dbl dbl_hlv tm_add)
/-- the number of the block that a list of bytes makes -/
def numL (l : List Nat) : Nat := numF (ofL l) 16
theorem numL_lt {l : List Nat} (h : ∀ x ∈ l, x < 256) : numL l < 2 ^ 128 := numF_lt16 (ofL_lt h)
theorem block_any (A : Option Addr) (n c : Nat) (l : List Nat) (w : World) (hl : Bytes w A n l) :
    Calls Try.prog 38 #[.slice A n c] w fun e w' => e = .returned (.agg (blk (numL l))) ∧ Below w.heap.size w w' := by
  have h := block_walk A n c l w hl
  rw [← blk_numF (ofL_lt hl.2.2.1)] at h
  exact h
theorem timesB_add {N : Nat} (hN : N < 2 ^ 128) {n m : Int} (h1 : -500 ≤ n) (h2 : n ≤ 500) (h3 : -500 ≤ m) (h4 : m ≤ 500) : timesB (timesB N n) m = timesB N (n + m) := by
  unfold timesB
  rw [if_neg (by omega), if_neg (by omega), if_neg (by omega), tm_add hN]
theorem timesB_zero (N : Nat) : timesB N 0 = N := rfl
/-- what a region reads of one block x, that lies in block g -/
def S1 (w : World) (g N : Nat) (w' : World) : Prop := Arr w' g (byt N) ∧ Below w.heap.size w w' ∧ g + 1 ≤ w'.heap.size ∧ w.heap.size ≤ g
theorem S1.below {w w' w'' : World} {g N : Nat} (h : S1 w g N w') (hb : Below w'.heap.size w' w'') : S1 w g N w'' := by
  obtain ⟨h1, h2, h3, h4⟩ := h
  have := hb.size
  exact ⟨h1.below hb (by omega), h2.trans (hb.mono (by omega)), by omega, h4⟩
set_option maxRecDepth 100000 in
set_option maxHeartbeats 1000000 in
theorem back_out0 (A : Option Addr) (k c : Nat) (n m : Int) (w : World) (h : 100 < k) :
    Calls Try.prog 9 #[.slice A k c, .int .i64 n, .int .i64 m] w fun e w' => e = .returned (.bool true) ∧ Below w.heap.size w w' := by
  obtain h0 := h
  go_enter Try.func9, Try.ntmps9
  go_wp2_with fail
  refine (awake7 _).mono ?_
  rintro e w' ⟨rfl, hbel⟩
  go_wp2_with fail
  go_ret
  exact ⟨rfl, hbel⟩
set_option maxRecDepth 100000 in
set_option maxHeartbeats 1000000 in
theorem back_out1 (A : Option Addr) (k c : Nat) (n m : Int) (w : World) (h : k ≤ 100 ∧ n < -500) :
    Calls Try.prog 9 #[.slice A k c, .int .i64 n, .int .i64 m] w fun e w' => e = .returned (.bool true) ∧ Below w.heap.size w w' := by
  obtain ⟨h0, h1⟩ := h
  go_enter Try.func9, Try.ntmps9
  go_wp2_with fail
  refine (awake7 _).mono ?_
  rintro e w' ⟨rfl, hbel⟩
  go_wp2_with fail
  go_ret
  exact ⟨rfl, hbel⟩
set_option maxRecDepth 100000 in
set_option maxHeartbeats 1000000 in
theorem back_out2 (A : Option Addr) (k c : Nat) (n m : Int) (w : World) (h : k ≤ 100 ∧ -500 ≤ n ∧ 500 < n) :
    Calls Try.prog 9 #[.slice A k c, .int .i64 n, .int .i64 m] w fun e w' => e = .returned (.bool true) ∧ Below w.heap.size w w' := by
  obtain ⟨h0, h1, h2⟩ := h
  go_enter Try.func9, Try.ntmps9
  go_wp2_with fail
  refine (awake7 _).mono ?_
  rintro e w' ⟨rfl, hbel⟩
  go_wp2_with fail
  go_ret
  exact ⟨rfl, hbel⟩
set_option maxRecDepth 100000 in
set_option maxHeartbeats 1000000 in
theorem back_out3 (A : Option Addr) (k c : Nat) (n m : Int) (w : World) (h : k ≤ 100 ∧ -500 ≤ n ∧ n ≤ 500 ∧ m < -500) :
    Calls Try.prog 9 #[.slice A k c, .int .i64 n, .int .i64 m] w fun e w' => e = .returned (.bool true) ∧ Below w.heap.size w w' := by
  obtain ⟨h0, h1, h2, h3⟩ := h
  go_enter Try.func9, Try.ntmps9
  go_wp2_with fail
  refine (awake7 _).mono ?_
  rintro e w' ⟨rfl, hbel⟩
  go_wp2_with fail
  go_ret
  exact ⟨rfl, hbel⟩
set_option maxRecDepth 100000 in
set_option maxHeartbeats 1000000 in
theorem back_out4 (A : Option Addr) (k c : Nat) (n m : Int) (w : World) (h : k ≤ 100 ∧ -500 ≤ n ∧ n ≤ 500 ∧ -500 ≤ m ∧ 500 < m) :
    Calls Try.prog 9 #[.slice A k c, .int .i64 n, .int .i64 m] w fun e w' => e = .returned (.bool true) ∧ Below w.heap.size w w' := by
  obtain ⟨h0, h1, h2, h3, h4⟩ := h
  go_enter Try.func9, Try.ntmps9
  go_wp2_with fail
  refine (awake7 _).mono ?_
  rintro e w' ⟨rfl, hbel⟩
  go_wp2_with fail
  go_ret
  exact ⟨rfl, hbel⟩
set_option maxRecDepth 100000 in
set_option maxHeartbeats 4000000 in
theorem back_in (A : Option Addr) (k c : Nat) (l : List Nat) (n m : Int) (w : World) (hl : Bytes w A k l) (h0 : k ≤ 100) (h1 : -500 ≤ n) (h2 : n ≤ 500) (h3 : -500 ≤ m) (h4 : m ≤ 500) :
    Calls Try.prog 9 #[.slice A k c, .int .i64 n, .int .i64 m] w fun e w' => e = .returned (.bool true) ∧ Below w.heap.size w w' := by
  have hN := numL_lt hl.2.2.1
  have hnm : IntKind.i64.wrap (n + m) = n + m := IntWalk.i64_in _ (by omega)
  have hc := fun w hl => block_any A k c l w hl
  have hadd := timesB_add hN h1 h2 h3 h4
  have HC := Lib.hid hc
  have HADD := Lib.hid hadd
  have HN := Lib.hid hN
  clear hc hadd hN
  revert HC HADD HN
  generalize numL l = N
  intro HC HADD HN
  go_enter Try.func9, Try.ntmps9
  go_wp2_with fail
  refine (HC.out w hl).mono ?_
  rintro e w1 ⟨rfl, hb1⟩
  have hs1 := hb1.size
  go_wp2_with ((with_reducible show wpList _ _ _ _ _ _); refine wp_store_arr rfl (.tmp 7) (.tmp 29) rfl w1.heap.size (fun _ => 0) (byt N) rfl rfl (Arr.zero _ _ rfl) ?_)
  have hS0 : S1 w w1.heap.size N ((w1.alloc (.cells #[.int .u8 0, .int .u8 0, .int .u8 0, .int .u8 0, .int .u8 0, .int .u8 0, .int .u8 0, .int .u8 0, .int .u8 0, .int .u8 0, .int .u8 0, .int .u8 0, .int .u8 0, .int .u8 0, .int .u8 0, .int .u8 0] 36)).setRow w1.heap.size (bv (byt N))) := ⟨(Arr.zero _ _ rfl).setRow, below_setRow (hb1.alloc hs1 _) hs1 _, by simp [World.setRow], hs1⟩
  revert hS0
  generalize (w1.alloc (.cells #[.int .u8 0, .int .u8 0, .int .u8 0, .int .u8 0, .int .u8 0, .int .u8 0, .int .u8 0, .int .u8 0, .int .u8 0, .int .u8 0, .int .u8 0, .int .u8 0, .int .u8 0, .int .u8 0, .int .u8 0, .int .u8 0] 36)).setRow w1.heap.size (bv (byt N)) = w2
  intro hS0
  have hS1 : S1 w w1.heap.size N w2.drew := ⟨hS0.1.drew, hS0.2.1.drew, hS0.2.2⟩
  clear hS0 hb1
  refine wp_region_held_drew (S := S1 w w1.heap.size N) (by kernel_rfl) hS1 (fun hS => ?_)
  clear hS1
  refine wpAnyH_take (i := 0) (oi := ⟨some 30, _, _, _, _, _⟩) (v := .agg (bv (byt N))) rfl (by kernel_rfl) (by kernel_rfl) (by kernel_rfl) (fun _ _ _ h => h) (yields_arr (by kernel_rfl) (.tmp 7) rfl (w1.heap.size) (byt N) rfl (fun _ h => h.1)) hS ?_
  simp only [Act.put, List.setIfInBounds_toArray, List.set_cons_zero, List.set_cons_succ]
  refine wpAnyH_take (i := 3) (oi := ⟨some 33, _, _, _, _, _⟩) (v := .agg (bv (byt N))) rfl (by kernel_rfl) (by kernel_rfl) (by kernel_rfl) (fun _ _ _ h => h) (yields_arr (by kernel_rfl) (.tmp 7) rfl (w1.heap.size) (byt N) rfl (fun _ h => h.1)) hS ?_
  simp only [Act.put, List.setIfInBounds_toArray, List.set_cons_zero, List.set_cons_succ]
  refine wpAnyH_ready (rs := [1]) (by kernel_rfl) (by simp) ?_
  refine AllReadyH.cons (o := ⟨some 31, _, _, _, _, _⟩) rfl (fun K hK => ?_) AllReadyH.nil
  rw [if_pos (by kernel_rfl)]
  go_simp
  refine (double_any N HN.out _).mono ?_
  rintro e w2' ⟨rfl, hb⟩
  refine hK.out _ _ (hS.below hb) (fun hS => ?_)
  clear hK K
  refine wpAnyH_ready (rs := [2]) (by kernel_rfl) (by simp) ?_
  refine AllReadyH.cons (o := ⟨some 32, _, _, _, _, _⟩) rfl (fun K hK => ?_) AllReadyH.nil
  rw [if_pos (by kernel_rfl)]
  go_simp
  refine (halve_any (dbl N) (dbl_lt HN.out) _).mono ?_
  rw [hlv_dbl HN.out]
  rintro e w3 ⟨rfl, hb⟩
  refine hK.out _ _ (hS.below hb) (fun hS => ?_)
  clear hK K
  refine wpAnyH_take (i := 4) (oi := ⟨some 34, _, _, _, _, _⟩) (v := .bool true) rfl (by kernel_rfl) (by kernel_rfl) (by kernel_rfl) (fun _ _ _ h => h) (yields_same (by kernel_rfl) (.tmp 32) (.tmp 33) rfl (byt N) rfl rfl) hS ?_
  simp only [Act.put, List.setIfInBounds_toArray, List.set_cons_zero, List.set_cons_succ]
  refine wpAnyH_take (i := 5) (oi := ⟨some 35, _, _, _, _, _⟩) (v := .bool true) rfl (by kernel_rfl) (by kernel_rfl) (by kernel_rfl) (fun _ _ _ h => h) (Or.inl ⟨by kernel_rfl, fun w' hSw => ?_⟩) hS ?_
  · go_simp
  simp only [Act.put, List.setIfInBounds_toArray, List.set_cons_zero, List.set_cons_succ]
  refine wpAnyH_take (i := 6) (oi := ⟨some 36, _, _, _, _, _⟩) (v := .agg (bv (byt N))) rfl (by kernel_rfl) (by kernel_rfl) (by kernel_rfl) (fun _ _ _ h => h) (yields_arr (by kernel_rfl) (.tmp 7) rfl (w1.heap.size) (byt N) rfl (fun _ h => h.1)) hS ?_
  simp only [Act.put, List.setIfInBounds_toArray, List.set_cons_zero, List.set_cons_succ]
  refine wpAnyH_take (i := 9) (oi := ⟨some 39, _, _, _, _, _⟩) (v := .agg (bv (byt N))) rfl (by kernel_rfl) (by kernel_rfl) (by kernel_rfl) (fun _ _ _ h => h) (yields_arr (by kernel_rfl) (.tmp 7) rfl (w1.heap.size) (byt N) rfl (fun _ h => h.1)) hS ?_
  simp only [Act.put, List.setIfInBounds_toArray, List.set_cons_zero, List.set_cons_succ]
  refine wpAnyH_ready (rs := [7]) (by kernel_rfl) (by simp) ?_
  refine AllReadyH.cons (o := ⟨some 37, _, _, _, _, _⟩) rfl (fun K hK => ?_) AllReadyH.nil
  rw [if_pos (by kernel_rfl)]
  go_simp
  refine (halve_any N HN.out _).mono ?_
  rintro e w4 ⟨rfl, hb⟩
  refine hK.out _ _ (hS.below hb) (fun hS => ?_)
  clear hK K
  refine wpAnyH_ready (rs := [8]) (by kernel_rfl) (by simp) ?_
  refine AllReadyH.cons (o := ⟨some 38, _, _, _, _, _⟩) rfl (fun K hK => ?_) AllReadyH.nil
  rw [if_pos (by kernel_rfl)]
  go_simp
  refine (double_any (hlv N) (hlv_lt HN.out) _).mono ?_
  rw [dbl_hlv HN.out]
  rintro e w5 ⟨rfl, hb⟩
  refine hK.out _ _ (hS.below hb) (fun hS => ?_)
  clear hK K
  refine wpAnyH_take (i := 10) (oi := ⟨some 40, _, _, _, _, _⟩) (v := .bool true) rfl (by kernel_rfl) (by kernel_rfl) (by kernel_rfl) (fun _ _ _ h => h) (yields_same (by kernel_rfl) (.tmp 38) (.tmp 39) rfl (byt N) rfl rfl) hS ?_
  simp only [Act.put, List.setIfInBounds_toArray, List.set_cons_zero, List.set_cons_succ]
  refine wpAnyH_take (i := 11) (oi := ⟨some 41, _, _, _, _, _⟩) (v := .bool true) rfl (by kernel_rfl) (by kernel_rfl) (by kernel_rfl) (fun _ _ _ h => h) (Or.inl ⟨by kernel_rfl, fun w' hSw => ?_⟩) hS ?_
  · go_simp
  simp only [Act.put, List.setIfInBounds_toArray, List.set_cons_zero, List.set_cons_succ]
  refine wpAnyH_take (i := 12) (oi := ⟨some 42, _, _, _, _, _⟩) (v := .bool true) rfl (by kernel_rfl) (by kernel_rfl) (by kernel_rfl) (fun _ _ _ h => h) (Or.inl ⟨by kernel_rfl, fun w' hSw => ?_⟩) hS ?_
  · go_simp
  simp only [Act.put, List.setIfInBounds_toArray, List.set_cons_zero, List.set_cons_succ]
  refine wpAnyH_take (i := 13) (oi := ⟨some 43, _, _, _, _, _⟩) (v := .agg (bv (byt N))) rfl (by kernel_rfl) (by kernel_rfl) (by kernel_rfl) (fun _ _ _ h => h) (yields_arr (by kernel_rfl) (.tmp 7) rfl (w1.heap.size) (byt N) rfl (fun _ h => h.1)) hS ?_
  simp only [Act.put, List.setIfInBounds_toArray, List.set_cons_zero, List.set_cons_succ]
  refine wpAnyH_take (i := 14) (oi := ⟨some 44, _, _, _, _, _⟩) (v := .int .i64 n) rfl (by kernel_rfl) (by kernel_rfl) (by kernel_rfl) (fun _ _ _ h => h) (Or.inl ⟨by kernel_rfl, fun w' hSw => ?_⟩) hS ?_
  · go_simp
  simp only [Act.put, List.setIfInBounds_toArray, List.set_cons_zero, List.set_cons_succ]
  refine wpAnyH_take (i := 16) (oi := ⟨some 46, _, _, _, _, _⟩) (v := .int .i64 m) rfl (by kernel_rfl) (by kernel_rfl) (by kernel_rfl) (fun _ _ _ h => h) (Or.inl ⟨by kernel_rfl, fun w' hSw => ?_⟩) hS ?_
  · go_simp
  simp only [Act.put, List.setIfInBounds_toArray, List.set_cons_zero, List.set_cons_succ]
  refine wpAnyH_take (i := 18) (oi := ⟨some 48, _, _, _, _, _⟩) (v := .agg (bv (byt N))) rfl (by kernel_rfl) (by kernel_rfl) (by kernel_rfl) (fun _ _ _ h => h) (yields_arr (by kernel_rfl) (.tmp 7) rfl (w1.heap.size) (byt N) rfl (fun _ h => h.1)) hS ?_
  simp only [Act.put, List.setIfInBounds_toArray, List.set_cons_zero, List.set_cons_succ]
  refine wpAnyH_take (i := 19) (oi := ⟨some 49, _, _, _, _, _⟩) (v := .int .i64 n) rfl (by kernel_rfl) (by kernel_rfl) (by kernel_rfl) (fun _ _ _ h => h) (Or.inl ⟨by kernel_rfl, fun w' hSw => ?_⟩) hS ?_
  · go_simp
  simp only [Act.put, List.setIfInBounds_toArray, List.set_cons_zero, List.set_cons_succ]
  refine wpAnyH_take (i := 20) (oi := ⟨some 50, _, _, _, _, _⟩) (v := .int .i64 m) rfl (by kernel_rfl) (by kernel_rfl) (by kernel_rfl) (fun _ _ _ h => h) (Or.inl ⟨by kernel_rfl, fun w' hSw => ?_⟩) hS ?_
  · go_simp
  simp only [Act.put, List.setIfInBounds_toArray, List.set_cons_zero, List.set_cons_succ]
  refine wpAnyH_take (i := 21) (oi := ⟨some 51, _, _, _, _, _⟩) (v := .int .i64 (n + m)) rfl (by kernel_rfl) (by kernel_rfl) (by kernel_rfl) (fun _ _ _ h => h) (Or.inl ⟨by kernel_rfl, fun w' hSw => ?_⟩) hS ?_
  · go_simp
  simp only [Act.put, List.setIfInBounds_toArray, List.set_cons_zero, List.set_cons_succ]
  refine wpAnyH_ready (rs := [15]) (by kernel_rfl) (by simp) ?_
  refine AllReadyH.cons (o := ⟨some 45, _, _, _, _, _⟩) rfl (fun K hK => ?_) AllReadyH.nil
  rw [if_pos (by kernel_rfl)]
  go_simp
  refine (times_any N n HN.out _).mono ?_
  rintro e w6 ⟨rfl, hb⟩
  refine hK.out _ _ (hS.below hb) (fun hS => ?_)
  clear hK K
  refine wpAnyH_ready (rs := [17]) (by kernel_rfl) (by simp) ?_
  refine AllReadyH.cons (o := ⟨some 47, _, _, _, _, _⟩) rfl (fun K hK => ?_) AllReadyH.nil
  rw [if_pos (by kernel_rfl)]
  go_simp
  refine (times_any (timesB N n) m (timesB_lt HN.out n) _).mono ?_
  rw [HADD.out]
  rintro e w7 ⟨rfl, hb⟩
  refine hK.out _ _ (hS.below hb) (fun hS => ?_)
  clear hK K
  refine wpAnyH_ready (rs := [22]) (by kernel_rfl) (by simp) ?_
  refine AllReadyH.cons (o := ⟨some 52, _, _, _, _, _⟩) rfl (fun K hK => ?_) AllReadyH.nil
  rw [if_pos (by kernel_rfl)]
  go_simp
  refine (times_any N (n + m) HN.out _).mono ?_
  rintro e w8 ⟨rfl, hb⟩
  refine hK.out _ _ (hS.below hb) (fun hS => ?_)
  clear hK K
  refine wpAnyH_take (i := 23) (oi := ⟨some 53, _, _, _, _, _⟩) (v := .bool true) rfl (by kernel_rfl) (by kernel_rfl) (by kernel_rfl) (fun _ _ _ h => h) (yields_same (by kernel_rfl) (.tmp 47) (.tmp 52) rfl (byt (timesB N (n + m))) rfl rfl) hS ?_
  simp only [Act.put, List.setIfInBounds_toArray, List.set_cons_zero, List.set_cons_succ]
  refine wpAnyH_take (i := 24) (oi := ⟨some 54, _, _, _, _, _⟩) (v := .bool true) rfl (by kernel_rfl) (by kernel_rfl) (by kernel_rfl) (fun _ _ _ h => h) (Or.inl ⟨by kernel_rfl, fun w' hSw => ?_⟩) hS ?_
  · go_simp
  simp only [Act.put, List.setIfInBounds_toArray, List.set_cons_zero, List.set_cons_succ]
  refine wpAnyH_take (i := 25) (oi := ⟨some 55, _, _, _, _, _⟩) (v := .bool true) rfl (by kernel_rfl) (by kernel_rfl) (by kernel_rfl) (fun _ _ _ h => h) (Or.inl ⟨by kernel_rfl, fun w' hSw => ?_⟩) hS ?_
  · go_simp
  simp only [Act.put, List.setIfInBounds_toArray, List.set_cons_zero, List.set_cons_succ]
  refine wpAnyH_take (i := 26) (oi := ⟨some 56, _, _, _, _, _⟩) (v := .agg (bv (byt N))) rfl (by kernel_rfl) (by kernel_rfl) (by kernel_rfl) (fun _ _ _ h => h) (yields_arr (by kernel_rfl) (.tmp 7) rfl (w1.heap.size) (byt N) rfl (fun _ h => h.1)) hS ?_
  simp only [Act.put, List.setIfInBounds_toArray, List.set_cons_zero, List.set_cons_succ]
  refine wpAnyH_take (i := 28) (oi := ⟨some 58, _, _, _, _, _⟩) (v := .agg (bv (byt N))) rfl (by kernel_rfl) (by kernel_rfl) (by kernel_rfl) (fun _ _ _ h => h) (yields_arr (by kernel_rfl) (.tmp 7) rfl (w1.heap.size) (byt N) rfl (fun _ h => h.1)) hS ?_
  simp only [Act.put, List.setIfInBounds_toArray, List.set_cons_zero, List.set_cons_succ]
  refine wpAnyH_ready (rs := [27]) (by kernel_rfl) (by simp) ?_
  refine AllReadyH.cons (o := ⟨some 57, _, _, _, _, _⟩) rfl (fun K hK => ?_) AllReadyH.nil
  rw [if_pos (by kernel_rfl)]
  go_simp
  refine (times_any N 0 HN.out _).mono ?_
  rw [timesB_zero]
  rintro e w9 ⟨rfl, hb⟩
  refine hK.out _ _ (hS.below hb) (fun hS => ?_)
  clear hK K
  refine wpAnyH_take (i := 29) (oi := ⟨some 59, _, _, _, _, _⟩) (v := .bool true) rfl (by kernel_rfl) (by kernel_rfl) (by kernel_rfl) (fun _ _ _ h => h) (yields_same (by kernel_rfl) (.tmp 57) (.tmp 58) rfl (byt N) rfl rfl) hS ?_
  simp only [Act.put, List.setIfInBounds_toArray, List.set_cons_zero, List.set_cons_succ]
  refine wpAnyH_take (i := 30) (oi := ⟨some 60, _, _, _, _, _⟩) (v := .bool true) rfl (by kernel_rfl) (by kernel_rfl) (by kernel_rfl) (fun _ _ _ h => h) (Or.inl ⟨by kernel_rfl, fun w' hSw => ?_⟩) hS ?_
  · go_simp
  simp only [Act.put, List.setIfInBounds_toArray, List.set_cons_zero, List.set_cons_succ]
  refine wpAnyH_take (i := 31) (oi := ⟨some 61, _, _, _, _, _⟩) (v := .bool true) rfl (by kernel_rfl) (by kernel_rfl) (by kernel_rfl) (fun _ _ _ h => h) (Or.inl ⟨by kernel_rfl, fun w' hSw => ?_⟩) hS ?_
  · go_simp
  simp only [Act.put, List.setIfInBounds_toArray, List.set_cons_zero, List.set_cons_succ]
  refine wpAnyH_ready (rs := [32]) (by kernel_rfl) (by simp) ?_
  refine AllReadyH.cons (o := ⟨some 62, _, _, _, _, _⟩) rfl (fun K hK => ?_) AllReadyH.nil
  rw [if_pos (by kernel_rfl)]
  go_simp
  refine (awake7 _).mono ?_
  rintro e w10 ⟨rfl, hb⟩
  refine hK.out _ _ (hS.below hb) (fun hS => ?_)
  clear hK K
  refine wpAnyH_take (i := 33) (oi := ⟨some 63, _, _, _, _, _⟩) (v := .bool true) rfl (by kernel_rfl) (by kernel_rfl) (by kernel_rfl) (fun _ _ _ h => h) (Or.inl ⟨by kernel_rfl, fun w' hSw => ?_⟩) hS ?_
  · go_simp
  simp only [Act.put, List.setIfInBounds_toArray, List.set_cons_zero, List.set_cons_succ]
  refine wpAnyH_take (i := 34) (oi := ⟨some 6, _, _, _, _, _⟩) (v := .bool true) rfl (by kernel_rfl) (by kernel_rfl) (by kernel_rfl) (fun _ _ _ h => h) (Or.inl ⟨by kernel_rfl, fun w' hSw => ?_⟩) hS ?_
  · go_simp
  simp only [Act.put, List.setIfInBounds_toArray, List.set_cons_zero, List.set_cons_succ]
  refine wpAnyH_done (by kernel_rfl) ?_ _
  go_wp2_with fail
  go_ret
  exact ⟨rfl, hS.2.1⟩
theorem tweakBack_walk {w : World} (A : Option Addr) (k c : Nat) (l : List Nat) (_hc : k ≤ c) (hl : Bytes w A k l) (n : Int) (_n0 : -9223372036854775808 ≤ n) (_n1 : n ≤ 9223372036854775807) (m : Int) (_m0 : -9223372036854775808 ≤ m) (_m1 : m ≤ 9223372036854775807) :
    Calls Try.prog 9 #[.slice A k c, .int .i64 n, .int .i64 m] w fun e w' => e = .returned (.bool true) ∧ Below w.heap.size w w' := by
  by_cases h : k ≤ 100 ∧ -500 ≤ n ∧ n ≤ 500 ∧ -500 ≤ m ∧ m ≤ 500
  · exact back_in A k c l n m w hl h.1 h.2.1 h.2.2.1 h.2.2.2.1 h.2.2.2.2
  · have h5 : 100 < k ∨ (k ≤ 100 ∧ n < -500) ∨ (k ≤ 100 ∧ -500 ≤ n ∧ 500 < n) ∨ (k ≤ 100 ∧ -500 ≤ n ∧ n ≤ 500 ∧ m < -500) ∨ (k ≤ 100 ∧ -500 ≤ n ∧ n ≤ 500 ∧ -500 ≤ m ∧ 500 < m) := by omega
    rcases h5 with h | h | h | h | h
    · exact back_out0 A k c n m w h
    · exact back_out1 A k c n m w h
    · exact back_out2 A k c n m w h
    · exact back_out3 A k c n m w h
    · exact back_out4 A k c n m w h
end Go.Proofs.Ytibfihjcjohadaa
