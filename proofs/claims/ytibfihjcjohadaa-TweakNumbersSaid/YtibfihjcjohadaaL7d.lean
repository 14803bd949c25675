/-
  The walk of the law on numbers as blocks: it returns true, whatever the input, and writes nothing that was there.
-/
import Derived.Test.YtibfihjcjohadaaL7c
namespace Go.Proofs.Ytibfihjcjohadaa
open Go.RowKit Go.Op
open Twk (byt dbl hlv tm byt_lt dbl_lt hlv_lt tm_lt up down)
theorem or_byte {s b : Nat} (hb : b < 256) : s * 256 ||| b = s * 256 + b := by
  have h := Nat.two_pow_add_eq_or_of_lt (i := 8) (b := b) (by simpa using hb) s
  rw [Nat.mul_comm s 256, show (256 : Nat) = 2 ^ 8 from rfl]
  exact h.symm
theorem digit_up (N k : Nat) : N / 256 ^ (k + 1) * 256 + byt N k = N / 256 ^ k := by
  unfold byt
  rw [Nat.pow_succ, ← Nat.div_div_eq_div_mul]
  generalize N / 256 ^ k = q
  omega
theorem top_zero {N : Nat} (hN : N < 9223372036854775808) : N / 256 ^ 8 = 0 := by
  apply Nat.div_eq_of_lt
  have h8 : (256 : Nat) ^ 8 = 18446744073709551616 := by decide
  omega
theorem byt_big {N k : Nat} (hN : N < 9223372036854775808) (hk : 8 ≤ k) : byt N k = 0 := by
  unfold byt
  have : N / 256 ^ k = 0 := by
    apply Nat.div_eq_of_lt
    have : 256 ^ 8 ≤ 256 ^ k := Nat.pow_le_pow_right (by decide) hk
    have h8 : (256 : Nat) ^ 8 = 18446744073709551616 := by decide
    omega
  rw [this]
theorem mask_lt (N U : Nat) : N % 2 ^ (62 - U) < 4611686018427387904 := by
  have h1 : N % 2 ^ (62 - U) < 2 ^ (62 - U) := Nat.mod_lt _ (Nat.pow_pos (by decide))
  have h2 : 2 ^ (62 - U) ≤ 2 ^ 62 := Nat.pow_le_pow_right (by decide) (by omega)
  have h3 : (2 : Nat) ^ 62 = 4611686018427387904 := by decide
  omega
theorem mask_prod (N : Nat) {U : Nat} (hU : U ≤ 60) : (N % 2 ^ (62 - U)) * 2 ^ U ≤ 4611686018427387904 := by
  have h1 : N % 2 ^ (62 - U) < 2 ^ (62 - U) := Nat.mod_lt _ (Nat.pow_pos (by decide))
  have h2 : (N % 2 ^ (62 - U)) * 2 ^ U ≤ 2 ^ (62 - U) * 2 ^ U := Nat.mul_le_mul_right _ (Nat.le_of_lt h1)
  rw [← Nat.pow_add, show 62 - U + U = 62 by omega, show (2 : Nat) ^ 62 = 4611686018427387904 from by decide] at h2
  exact h2
theorem mask_up (N : Nat) {U : Nat} (hU : U ≤ 60) : timesB (N % 2 ^ (62 - U)) (U : Int) = (N % 2 ^ (62 - U)) * 2 ^ U := by
  unfold timesB
  rw [if_neg (by omega)]
  unfold tm
  rw [if_pos (by omega), Int.toNat_natCast, Twk.up_small U (Nat.lt_of_le_of_lt (mask_prod N hU) (by decide))]
theorem mask_shl (N : Nat) {U : Nat} (hU : U ≤ 60) : (N % 2 ^ (62 - U)) * 2 ^ U ≤ 4611686018427387904 ∧ IntKind.i64.wrap (((N % 2 ^ (62 - U) : Nat) : Int) * 2 ^ min U 64) = (((N % 2 ^ (62 - U)) * 2 ^ U : Nat) : Int) := by
  have h := mask_prod N hU
  refine ⟨h, ?_⟩
  have e : ((N % 2 ^ (62 - U) : Nat) : Int) * 2 ^ min U 64 = (((N % 2 ^ (62 - U)) * 2 ^ U : Nat) : Int) := by
    rw [show min U 64 = U by omega, Int.natCast_mul, Int.natCast_pow]; rfl
  rw [e]
  exact IntWalk.i64_in _ (by omega)
theorem mask_val {N U : Nat} (hN : N < 9223372036854775808) (hU : U ≤ 60) : bits .and .i64 (N : Int) (wrap64 (wrap64 (2 ^ (62 - U)) - 1)) = ((N % 2 ^ (62 - U) : Nat) : Int) := by
  have hp : 0 < 2 ^ (62 - U) := Nat.pow_pos (by decide)
  have h2 : 2 ^ (62 - U) ≤ 2 ^ 62 := Nat.pow_le_pow_right (by decide) (by omega)
  have h3 : (2 : Nat) ^ 62 = 4611686018427387904 := by decide
  have e : (2 : Int) ^ (62 - U) = ((2 ^ (62 - U) : Nat) : Int) := by rw [Int.natCast_pow]; rfl
  have w1 : wrap64 ((2 : Int) ^ (62 - U)) = ((2 ^ (62 - U) : Nat) : Int) := by
    rw [e]
    generalize 2 ^ (62 - U) = c at hp h2 ⊢
    exact IntWalk.wrap64_in (c : Int) (by omega)
  have w2 : wrap64 (((2 ^ (62 - U) : Nat) : Int) - 1) = ((2 ^ (62 - U) - 1 : Nat) : Int) := by
    generalize 2 ^ (62 - U) = c at hp h2 ⊢
    rw [show ((c : Int) - 1) = ((c - 1 : Nat) : Int) by omega]
    exact IntWalk.wrap64_in ((c - 1 : Nat) : Int) (by omega)
  rw [w1, w2, i64_and_nat _ _ hN (by omega), Nat.and_two_pow_sub_one_eq_mod]
set_option maxRecDepth 100000 in
set_option maxHeartbeats 400000 in
theorem numbers_out (n u : Int) (w : World) (h : n < 0 ∨ (0 ≤ n ∧ u < 0) ∨ (0 ≤ n ∧ 0 ≤ u ∧ 60 < u)) :
    Calls Try.prog 11 #[.int .i64 n, .int .i64 u] w fun e w' => e = .returned (.bool true) ∧ Below w.heap.size w w' := by
  rcases h with h | ⟨h1, h2⟩ | ⟨h1, h2, h3⟩
  all_goals
    go_enter Try.func11, Try.ntmps11
    go_wp2_with fail
    refine (awake7 _).mono ?_
    rintro e w' ⟨rfl, hbel⟩
    go_wp2_with fail
    go_ret
    exact ⟨rfl, hbel⟩
set_option maxRecDepth 100000 in
set_option maxHeartbeats 4000000 in
theorem numbers_in (N U : Nat) (hN : N < 9223372036854775808) (hU : U ≤ 60) (w : World) :
    Calls Try.prog 11 #[.int .i64 (N : Int), .int .i64 (U : Int)] w fun e w' => e = .returned (.bool true) ∧ Below w.heap.size w w' := by
  have hN' : (N : Int) ≤ 9223372036854775807 := by omega
  have HN : Box (N < 9223372036854775808) := ⟨hN⟩
  clear hN
  go_enter Try.func11, Try.ntmps11
  go_wp2_with fail
  refine (number_any (N : Int) hN' _).mono ?_
  rw [Int.toNat_natCast]
  rintro e w1 ⟨rfl, hb1⟩
  have hs1 := hb1.size
  go_wp2_with ((with_reducible show wpList _ _ _ _ _ _); refine wp_store_arr rfl (.tmp 5) (.tmp 22) rfl w1.heap.size (fun _ => 0) (byt N) rfl rfl (Arr.zero _ _ rfl) ?_)
  have ha : Arr ((w1.alloc (.cells #[.int .u8 0, .int .u8 0, .int .u8 0, .int .u8 0, .int .u8 0, .int .u8 0, .int .u8 0, .int .u8 0, .int .u8 0, .int .u8 0, .int .u8 0, .int .u8 0, .int .u8 0, .int .u8 0, .int .u8 0, .int .u8 0] 36)).setRow w1.heap.size (bv (byt N))) w1.heap.size (byt N) := (Arr.zero _ _ rfl).setRow
  have hb : Below w.heap.size w ((w1.alloc (.cells #[.int .u8 0, .int .u8 0, .int .u8 0, .int .u8 0, .int .u8 0, .int .u8 0, .int .u8 0, .int .u8 0, .int .u8 0, .int .u8 0, .int .u8 0, .int .u8 0, .int .u8 0, .int .u8 0, .int .u8 0, .int .u8 0] 36)).setRow w1.heap.size (bv (byt N))) := below_setRow (hb1.alloc hs1 _) hs1 _
  revert ha hb
  generalize (w1.alloc (.cells #[.int .u8 0, .int .u8 0, .int .u8 0, .int .u8 0, .int .u8 0, .int .u8 0, .int .u8 0, .int .u8 0, .int .u8 0, .int .u8 0, .int .u8 0, .int .u8 0, .int .u8 0, .int .u8 0, .int .u8 0, .int .u8 0] 36)).setRow w1.heap.size (bv (byt N)) = w2
  intro ha hb
  clear hb1
  go_loop [6, 7] (fun s i => ∃ (k q : Nat), k ≤ 8 ∧ i = .int .i64 ((k : Int) - 1) ∧ s = .int .i64 (q : Int) ∧ Box (q = N / 256 ^ k)) (fun _ i => (intOf i + 1).toNat)
  case atStart => exact ⟨8, 0, by omega, rfl, rfl, ⟨(top_zero HN.out).symm⟩⟩
  case round =>
    obtain ⟨k, q, hk, rfl, rfl, HQ⟩ := hrel
    by_cases hk0 : k = 0
    · subst hk0
      rw [show ((0 : Nat) : Int) - 1 = -1 from rfl]
      obtain rfl : N = q := by have := HQ.out; simpa using this.symm
      clear HQ
      go_wp2_with fail
      go_loop [8] (fun i => ∃ k : Nat, 8 ≤ k ∧ k ≤ 16 ∧ i = .int .i64 (k : Int)) (fun i => 16 - (intOf i).toNat)
      case atStart => exact ⟨8, by omega, by omega, rfl⟩
      case round =>
        obtain ⟨k, hk8, hk16, rfl⟩ := hrel
        by_cases hlt : k < 16
        · have hcell := ha.cell hlt
          rw [byt_big HN.out hk8] at hcell
          go_wp2_with fail
          go_round
          case rel => exact ⟨k + 1, by omega, by omega, by go_num⟩
          case measure => simp [intOf]; omega
        · obtain rfl : k = 16 := by omega
          go_wp2_with fail
          rw [mask_val HN.out hU]
          have HL : Box (N % 2 ^ (62 - U) < 4611686018427387904) := ⟨mask_lt N U⟩
          have HE : Box (timesB (N % 2 ^ (62 - U)) (U : Int) = (N % 2 ^ (62 - U)) * 2 ^ U) := ⟨mask_up N hU⟩
          have HV : Box ((N % 2 ^ (62 - U)) * 2 ^ U ≤ 4611686018427387904 ∧ IntKind.i64.wrap (((N % 2 ^ (62 - U) : Nat) : Int) * 2 ^ min U 64) = (((N % 2 ^ (62 - U)) * 2 ^ U : Nat) : Int)) := ⟨mask_shl N hU⟩
          revert HL HE HV
          generalize N % 2 ^ (62 - U) = M
          generalize M * 2 ^ U = V
          intro HL HE HV
          have hS1 : Below w.heap.size w w2.drew := hb.drew
          refine wp_region_held_drew (S := fun w' => Below w.heap.size w w') (by kernel_rfl) hS1 (fun hS => ?_)
          clear hS1
          refine wpAnyH_take (i := 0) (oi := ⟨some 48, _, _, _, _, _⟩) (v := .int .i64 (N : Int)) rfl (by kernel_rfl) (by kernel_rfl) (by kernel_rfl) (fun _ _ _ h => h) (Or.inl ⟨by kernel_rfl, fun w' hSw => ?_⟩) hS ?_
          · go_simp
          simp only [Act.put, List.setIfInBounds_toArray, List.set_cons_zero, List.set_cons_succ]
          refine wpAnyH_take (i := 1) (oi := ⟨some 49, _, _, _, _, _⟩) (v := .int .i64 (N : Int)) rfl (by kernel_rfl) (by kernel_rfl) (by kernel_rfl) (fun _ _ _ h => h) (Or.inl ⟨by kernel_rfl, fun w' hSw => ?_⟩) hS ?_
          · go_simp
          simp only [Act.put, List.setIfInBounds_toArray, List.set_cons_zero, List.set_cons_succ]
          refine wpAnyH_take (i := 2) (oi := ⟨some 50, _, _, _, _, _⟩) (v := .bool true) rfl (by kernel_rfl) (by kernel_rfl) (by kernel_rfl) (fun _ _ _ h => h) (Or.inl ⟨by kernel_rfl, fun w' hSw => ?_⟩) hS ?_
          · go_simp
          simp only [Act.put, List.setIfInBounds_toArray, List.set_cons_zero, List.set_cons_succ]
          refine wpAnyH_take (i := 3) (oi := ⟨some 51, _, _, _, _, _⟩) (v := .bool true) rfl (by kernel_rfl) (by kernel_rfl) (by kernel_rfl) (fun _ _ _ h => h) (Or.inl ⟨by kernel_rfl, fun w' hSw => ?_⟩) hS ?_
          · go_simp
          simp only [Act.put, List.setIfInBounds_toArray, List.set_cons_zero, List.set_cons_succ]
          refine wpAnyH_take (i := 4) (oi := ⟨some 52, _, _, _, _, _⟩) (v := .int .i64 (M : Int)) rfl (by kernel_rfl) (by kernel_rfl) (by kernel_rfl) (fun _ _ _ h => h) (Or.inl ⟨by kernel_rfl, fun w' hSw => ?_⟩) hS ?_
          · go_simp
          simp only [Act.put, List.setIfInBounds_toArray, List.set_cons_zero, List.set_cons_succ]
          refine wpAnyH_take (i := 6) (oi := ⟨some 54, _, _, _, _, _⟩) (v := .int .i64 (U : Int)) rfl (by kernel_rfl) (by kernel_rfl) (by kernel_rfl) (fun _ _ _ h => h) (Or.inl ⟨by kernel_rfl, fun w' hSw => ?_⟩) hS ?_
          · go_simp
          simp only [Act.put, List.setIfInBounds_toArray, List.set_cons_zero, List.set_cons_succ]
          refine wpAnyH_take (i := 8) (oi := ⟨some 56, _, _, _, _, _⟩) (v := .int .i64 (M : Int)) rfl (by kernel_rfl) (by kernel_rfl) (by kernel_rfl) (fun _ _ _ h => h) (Or.inl ⟨by kernel_rfl, fun w' hSw => ?_⟩) hS ?_
          · go_simp
          simp only [Act.put, List.setIfInBounds_toArray, List.set_cons_zero, List.set_cons_succ]
          refine wpAnyH_take (i := 9) (oi := ⟨some 57, _, _, _, _, _⟩) (v := .int .i64 (U : Int)) rfl (by kernel_rfl) (by kernel_rfl) (by kernel_rfl) (fun _ _ _ h => h) (Or.inl ⟨by kernel_rfl, fun w' hSw => ?_⟩) hS ?_
          · go_simp
          simp only [Act.put, List.setIfInBounds_toArray, List.set_cons_zero, List.set_cons_succ]
          refine wpAnyH_take (i := 10) (oi := ⟨some 58, _, _, _, _, _⟩) (v := .int .i64 (V : Int)) rfl (by kernel_rfl) (by kernel_rfl) (by kernel_rfl) (fun _ _ _ h => h) (Or.inl ⟨by kernel_rfl, fun w' hSw => ?_⟩) hS ?_
          · (have hv := HV.out.2; rw [show min U 64 = U by omega] at hv; go_simp)
          simp only [Act.put, List.setIfInBounds_toArray, List.set_cons_zero, List.set_cons_succ]
          refine wpAnyH_ready (rs := [5]) (by kernel_rfl) (by simp) ?_
          refine AllReadyH.cons (o := ⟨some 53, _, _, _, _, _⟩) rfl (fun K hK => ?_) AllReadyH.nil
          rw [if_pos (by kernel_rfl)]
          go_simp
          refine (number_any (M : Int) (by have := HL.out; omega) _).mono ?_
          rw [Int.toNat_natCast]
          rintro e w3 ⟨rfl, hb'⟩
          refine hK.out _ _ (hS.trans (hb'.mono hS.size)) (fun hS => ?_)
          clear hK K
          refine wpAnyH_ready (rs := [7]) (by kernel_rfl) (by simp) ?_
          refine AllReadyH.cons (o := ⟨some 55, _, _, _, _, _⟩) rfl (fun K hK => ?_) AllReadyH.nil
          rw [if_pos (by kernel_rfl)]
          go_simp
          refine (times_any M (U : Int) (Nat.lt_trans HL.out (by decide)) _).mono ?_
          rw [HE.out]
          rintro e w4 ⟨rfl, hb'⟩
          refine hK.out _ _ (hS.trans (hb'.mono hS.size)) (fun hS => ?_)
          clear hK K
          refine wpAnyH_ready (rs := [11]) (by kernel_rfl) (by simp) ?_
          refine AllReadyH.cons (o := ⟨some 59, _, _, _, _, _⟩) rfl (fun K hK => ?_) AllReadyH.nil
          rw [if_pos (by kernel_rfl)]
          go_simp
          refine (number_any (V : Int) (by have := HV.out.1; omega) _).mono ?_
          rw [Int.toNat_natCast]
          rintro e w5 ⟨rfl, hb'⟩
          refine hK.out _ _ (hS.trans (hb'.mono hS.size)) (fun hS => ?_)
          clear hK K
          refine wpAnyH_take (i := 12) (oi := ⟨some 60, _, _, _, _, _⟩) (v := .bool true) rfl (by kernel_rfl) (by kernel_rfl) (by kernel_rfl) (fun _ _ _ h => h) (yields_same (by kernel_rfl) (.tmp 55) (.tmp 59) rfl (byt V) rfl rfl) hS ?_
          simp only [Act.put, List.setIfInBounds_toArray, List.set_cons_zero, List.set_cons_succ]
          refine wpAnyH_take (i := 13) (oi := ⟨some 61, _, _, _, _, _⟩) (v := .bool true) rfl (by kernel_rfl) (by kernel_rfl) (by kernel_rfl) (fun _ _ _ h => h) (Or.inl ⟨by kernel_rfl, fun w' hSw => ?_⟩) hS ?_
          · go_simp
          simp only [Act.put, List.setIfInBounds_toArray, List.set_cons_zero, List.set_cons_succ]
          refine wpAnyH_take (i := 14) (oi := ⟨some 62, _, _, _, _, _⟩) (v := .bool true) rfl (by kernel_rfl) (by kernel_rfl) (by kernel_rfl) (fun _ _ _ h => h) (Or.inl ⟨by kernel_rfl, fun w' hSw => ?_⟩) hS ?_
          · go_simp
          simp only [Act.put, List.setIfInBounds_toArray, List.set_cons_zero, List.set_cons_succ]
          refine wpAnyH_ready (rs := [15]) (by kernel_rfl) (by simp) ?_
          refine AllReadyH.cons (o := ⟨some 63, _, _, _, _, _⟩) rfl (fun K hK => ?_) AllReadyH.nil
          rw [if_pos (by kernel_rfl)]
          go_simp
          refine (awake7 _).mono ?_
          rintro e w6 ⟨rfl, hb'⟩
          refine hK.out _ _ (hS.trans (hb'.mono hS.size)) (fun hS => ?_)
          clear hK K
          refine wpAnyH_take (i := 16) (oi := ⟨some 64, _, _, _, _, _⟩) (v := .bool true) rfl (by kernel_rfl) (by kernel_rfl) (by kernel_rfl) (fun _ _ _ h => h) (Or.inl ⟨by kernel_rfl, fun w' hSw => ?_⟩) hS ?_
          · go_simp
          simp only [Act.put, List.setIfInBounds_toArray, List.set_cons_zero, List.set_cons_succ]
          refine wpAnyH_take (i := 17) (oi := ⟨some 4, _, _, _, _, _⟩) (v := .bool true) rfl (by kernel_rfl) (by kernel_rfl) (by kernel_rfl) (fun _ _ _ h => h) (Or.inl ⟨by kernel_rfl, fun w' hSw => ?_⟩) hS ?_
          · go_simp
          simp only [Act.put, List.setIfInBounds_toArray, List.set_cons_zero, List.set_cons_succ]
          refine wpAnyH_done (by kernel_rfl) ?_ _
          go_wp2_with fail
          go_ret
          exact ⟨rfl, hS⟩
    · obtain ⟨m, rfl⟩ : ∃ m, k = m + 1 := ⟨k - 1, by omega⟩
      rw [show ((m + 1 : Nat) : Int) - 1 = (m : Int) by omega]
      have hcell := ha.cell (show m < 16 by omega)
      have hbm := byt_lt N m
      have hd := digit_up N m
      have hle : N / 256 ^ m ≤ N := Nat.div_le_self _ _
      have hq := HQ.out
      rw [← hq] at hd
      have hq2 : q * 256 ≤ 9223372036854775807 := by omega
      have hq3 : (q : Int) * 256 ≤ 9223372036854775807 := by omega
      have hor : bits .or .i64 ((q : Int) * 256) ((byt N m : Nat) : Int) = ((q * 256 + byt N m : Nat) : Int) := by
        rw [show (q : Int) * 256 = ((q * 256 : Nat) : Int) by omega, i64_or_nat _ _ (by omega) (by omega), or_byte hbm]
      have HD : Box (q * 256 + byt N m = N / 256 ^ m) := ⟨hd⟩
      clear hd hle hq
      go_wp2_with fail
      go_round
      case rel => exact ⟨m, q * 256 + byt N m, by omega, rfl, rfl, HD⟩
      case measure => simp [intOf]
theorem tweakNumbers_walk (n : Int) (_n0 : -9223372036854775808 ≤ n) (n1 : n ≤ 9223372036854775807) (u : Int) (_u0 : -9223372036854775808 ≤ u) (_u1 : u ≤ 9223372036854775807) (w : World) :
    Calls Try.prog 11 #[.int .i64 n, .int .i64 u] w fun e w' => e = .returned (.bool true) ∧ Below w.heap.size w w' := by
  by_cases h : 0 ≤ n ∧ 0 ≤ u ∧ u ≤ 60
  · obtain ⟨N, rfl⟩ := Int.eq_ofNat_of_zero_le h.1
    obtain ⟨U, rfl⟩ := Int.eq_ofNat_of_zero_le h.2.1
    exact numbers_in N U (by omega) (by omega) w
  · exact numbers_out n u w (by omega)
end Go.Proofs.Ytibfihjcjohadaa
