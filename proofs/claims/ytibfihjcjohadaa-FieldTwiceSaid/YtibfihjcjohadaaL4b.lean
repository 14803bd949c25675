/-
  The walks of three laws on bytes that multiply: powers, the inverse, twice: each returns true, whatever the input, and writes nothing that was there.
-/
import Derived.Test.YtibfihjcjohadaaLaw4
namespace Go.Proofs.Ytibfihjcjohadaa
open Go.RowKit Go.Op
open Fld (tw mul mulL tw_lt xor_lt mul_lt pw powL npow inv inv_lt npow_lt)

theorem nat_eq0 {a : Nat} : ((a : Int) == 0) = (a == 0) := by
  rw [show (0 : Int) = ((0 : Nat) : Int) from rfl, eq_lit]
theorem powI_nat {a : Nat} (ha : a < 256) (N : Nat) : powI a (N : Int) = npow a N := by
  unfold powI
  split
  · rename_i h
    rw [h.1, Fld.zero_npow]
    intro h0; exact h.2 (by omega)
  · rename_i h
    rw [show ((N : Int) % 255).toNat = N % 255 by omega, Fld.pw_eq ha (by omega)]
    by_cases h0 : a = 0
    · have : N = 0 := by
        rcases Nat.eq_zero_or_pos N with h1 | h1
        · exact h1
        · exact absurd ⟨h0, by omega⟩ h
      subst this; rfl
    · exact Fld.npow_mod ha h0 N
theorem powI_neg {a : Nat} (ha : a < 256) (h0 : a ≠ 0) (N : Nat) : powI a (-(N : Int)) = inv (npow a N) := by
  unfold powI inv
  rw [if_neg (fun h => h0 h.1), Fld.pw_eq ha (by omega), Fld.pw_eq (npow_lt ha N) (by decide), ← Fld.npow_mul ha, ← Fld.npow_mod ha h0 (N * 254)]
  congr 1
  omega

theorem powers_out (a : Nat) (n m : Int) (w : World) (h : n < 0 ∨ (0 ≤ n ∧ 300 < n) ∨ (0 ≤ n ∧ n ≤ 300 ∧ m < 0) ∨ (0 ≤ n ∧ n ≤ 300 ∧ 0 ≤ m ∧ 300 < m)) :
    Calls Try.prog 4 #[.int .u8 (a : Int), .int .i64 n, .int .i64 m] w fun e w' => e = .returned (.bool true) ∧ Below w.heap.size w w' := by
  rcases h with h | ⟨h1, h2⟩ | ⟨h1, h2, h3⟩ | ⟨h1, h2, h3, h4⟩
  all_goals
    go_enter Try.func4, Try.ntmps4
    go_wp2_with fail
    refine (awake4 _).mono ?_
    rintro e w' ⟨rfl, hbel⟩
    go_wp2_with fail
    go_ret
    exact ⟨rfl, hbel⟩
set_option maxHeartbeats 1000000 in
theorem powers_in (a : Nat) (ha : a < 256) (N M : Nat) (hN : N ≤ 300) (hM : M ≤ 300) (w : World) :
    Calls Try.prog 4 #[.int .u8 (a : Int), .int .i64 (N : Int), .int .i64 (M : Int)] w fun e w' => e = .returned (.bool true) ∧ Below w.heap.size w w' := by
  have c1 := fun w => power_any a (N : Int) ha w
  have c2 := fun w => power_any a (M : Int) ha w
  have c3 := fun w => power_any a ((N : Int) + (M : Int)) ha w
  have c4 := fun w => power_any a 255 ha w
  have c5 := fun w => power_any a (-(N : Int)) ha w
  have c6 := fun w => inv_any (npow a N) (npow_lt ha N) w
  rw [powI_nat ha] at c1 c2
  rw [show ((N : Int) + (M : Int)) = ((N + M : Nat) : Int) by omega, powI_nat ha, Fld.npow_add ha, ← show ((N : Int) + (M : Int)) = ((N + M : Nat) : Int) by omega] at c3
  have C1 := Lib.hid c1
  have C2 := Lib.hid c2
  have C3 := Lib.hid c3
  clear c1 c2 c3
  have hz : ((a : Int) == 0) = true ∨ ((a : Int) == 0) = false := by cases (a : Int) == 0 <;> simp
  have C4 : Hid (((a : Int) == 0) = false → ∀ w, Calls Try.prog 35 #[.int .u8 (a : Int), .int .i64 255] w fun e w' => e = .returned (.int .u8 1) ∧ w = w') := by
    intro h w
    have h0 : a ≠ 0 := by rw [nat_eq0] at h; simpa using h
    have := c4 w
    rw [show powI a 255 = 1 from (powI_nat ha 255).trans (Fld.npow255 ha h0)] at this
    exact this
  have C5 : Hid (((a : Int) == 0) = false → ∀ w, Calls Try.prog 35 #[.int .u8 (a : Int), .int .i64 (-(N : Int))] w fun e w' => e = .returned (.int .u8 ((inv (npow a N) : Nat) : Int)) ∧ w = w') := by
    intro h w
    have h0 : a ≠ 0 := by rw [nat_eq0] at h; simpa using h
    have := c5 w
    rw [powI_neg ha h0] at this
    exact this
  have C6 := Lib.hid c6
  clear c4 c5 c6
  rcases hz with hz | hz
  all_goals
    go_enter Try.func4, Try.ntmps4
    go_wp2
    go_loop [7, 8] (fun p i => ∃ k : Nat, k ≤ N ∧ i = .int .i64 (k : Int) ∧ p = .int .u8 ((npow a k : Nat) : Int)) (fun _ i => N - (intOf i).toNat)
    case atStart => exact ⟨0, Nat.zero_le _, rfl, rfl⟩
    case round =>
      obtain ⟨k, hk, rfl, rfl⟩ := hrel
      by_cases hlt : k < N
      · go_wp2_with fail
        refine (mul_any (npow a k) a (npow_lt ha k) ha _).mono ?_
        rintro e w' ⟨rfl, rfl⟩
        go_wp2_with fail
        go_round
        case rel => exact ⟨k + 1, by omega, by go_num, rfl⟩
        case measure => simp [intOf]; omega
      · have e : k = N := by omega
        subst e
        go_wp2_with fail
        refine (C1.out _).mono ?_
        rintro e w' ⟨rfl, rfl⟩
        go_wp2_with fail
        refine (C1.out _).mono ?_
        rintro e w' ⟨rfl, rfl⟩
        go_wp2_with fail
        refine (C2.out _).mono ?_
        rintro e w' ⟨rfl, rfl⟩
        go_wp2_with fail
        refine (mul_any (npow a k) (npow a M) (npow_lt ha k) (npow_lt ha M) _).mono ?_
        rintro e w' ⟨rfl, rfl⟩
        go_wp2_with fail
        refine (C3.out _).mono ?_
        rintro e w' ⟨rfl, rfl⟩
        go_wp2_with fail
        first
          | (refine (awake4 _).mono ?_
             rintro e w' ⟨rfl, hbel⟩
             go_wp2_with fail
             go_ret
             exact ⟨rfl, hbel⟩)
          | (refine (C4.out hz _).mono ?_
             rintro e w' ⟨rfl, rfl⟩
             go_wp2_with fail
             refine (C5.out hz _).mono ?_
             rintro e w' ⟨rfl, rfl⟩
             go_wp2_with fail
             refine (C6.out _).mono ?_
             rintro e w' ⟨rfl, rfl⟩
             go_wp2_with fail
             refine (awake4 _).mono ?_
             rintro e w' ⟨rfl, hbel⟩
             go_wp2_with fail
             go_ret
             exact ⟨rfl, hbel⟩)
theorem fieldPowers_walk (a : Nat) (ha : a < 256) (n : Int) (_hn0 : -9223372036854775808 ≤ n) (_hn1 : n ≤ 9223372036854775807) (m : Int) (_hm0 : -9223372036854775808 ≤ m) (_hm1 : m ≤ 9223372036854775807) (w : World) :
    Calls Try.prog 4 #[.int .u8 (a : Int), .int .i64 n, .int .i64 m] w fun e w' => e = .returned (.bool true) ∧ Below w.heap.size w w' := by
  by_cases h : 0 ≤ n ∧ n ≤ 300 ∧ 0 ≤ m ∧ m ≤ 300
  · obtain ⟨N, rfl⟩ := Int.eq_ofNat_of_zero_le h.1
    obtain ⟨M, rfl⟩ := Int.eq_ofNat_of_zero_le h.2.2.1
    exact powers_in a ha N M (by omega) (by omega) w
  · exact powers_out a n m w (by omega)
end Go.Proofs.Ytibfihjcjohadaa
