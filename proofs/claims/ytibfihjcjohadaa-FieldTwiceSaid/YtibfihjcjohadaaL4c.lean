/-
  The walks of two laws on bytes that multiply: twice, and the inverse: each returns true, whatever the input, and writes nothing that was there.
-/
import Derived.Test.YtibfihjcjohadaaL4b
namespace Go.Proofs.Ytibfihjcjohadaa
open Go.RowKit Go.Op
open Fld (tw mul mulL tw_lt xor_lt mul_lt pw powL npow inv inv_lt npow_lt)

set_option maxHeartbeats 1000000 in
theorem fieldInverse_walk (a : Nat) (ha : a < 256) (b : Nat) (hb : b < 256) (w : World) :
    Calls Try.prog 7 #[.int .u8 (a : Int), .int .u8 (b : Int)] w fun e w' => e = .returned (.bool true) ∧ Below w.heap.size w w' := by
  have hia := inv_lt ha
  have hib := inv_lt hb
  have c3 := fun w => inv_any (mul a b) (mul_lt ha) w
  rw [Fld.inv_mul ha hb] at c3
  have C3 := Lib.hid c3
  have c4 := fun w => power_any a (-1) ha w
  rw [powI_inv a] at c4
  have C4 := Lib.hid c4
  have c5 := fun w => power_any a 254 ha w
  rw [show powI a 254 = inv a from (powI_nat ha 254).trans (by unfold inv; rw [Fld.pw_eq ha (by decide)])] at c5
  have C5 := Lib.hid c5
  clear c3 c4 c5
  have hz : (((mul a b : Nat) : Int) == 0) = (((a : Int) == 0) || ((b : Int) == 0)) := by
    rw [nat_eq0, nat_eq0, nat_eq0, Bool.eq_iff_iff]
    simp [Fld.mul_eq_zero ha hb]
  have h3 : (((a : Int) == 0) = true ∧ (((mul a b : Nat) : Int) == 0) = true) ∨ (((a : Int) == 0) = false ∧ ((b : Int) == 0) = true ∧ (((mul a b : Nat) : Int) == 0) = true) ∨ (((a : Int) == 0) = false ∧ ((b : Int) == 0) = false ∧ (((mul a b : Nat) : Int) == 0) = false) := by
    rw [hz]
    cases (a : Int) == 0 <;> cases (b : Int) == 0 <;> simp
  clear hz
  rcases h3 with ⟨h1, h2⟩ | ⟨h1, h2, h3⟩ | ⟨h1, h2, h3⟩
  all_goals
    go_enter Try.func7, Try.ntmps7
    go_wp2_with fail
    refine (mul_any a b ha hb _).mono ?_
    rintro e w' ⟨rfl, rfl⟩
    go_wp2_with fail
    refine (C3.out _).mono ?_
    rintro e w' ⟨rfl, rfl⟩
    go_wp2_with fail
    refine (inv_any a ha _).mono ?_
    rintro e w' ⟨rfl, rfl⟩
    go_wp2_with fail
    refine (inv_any b hb _).mono ?_
    rintro e w' ⟨rfl, rfl⟩
    go_wp2_with fail
    refine (mul_any (inv a) (inv b) hia hib _).mono ?_
    rintro e w' ⟨rfl, rfl⟩
    go_wp2_with fail
    refine (C4.out _).mono ?_
    rintro e w' ⟨rfl, rfl⟩
    go_wp2_with fail
    refine (inv_any a ha _).mono ?_
    rintro e w' ⟨rfl, rfl⟩
    go_wp2_with fail
    refine (C5.out _).mono ?_
    rintro e w' ⟨rfl, rfl⟩
    go_wp2_with fail
    refine (inv_any a ha _).mono ?_
    rintro e w' ⟨rfl, rfl⟩
    go_wp2_with fail
    refine (awake4 _).mono ?_
    rintro e w' ⟨rfl, hbel⟩
    go_wp2_with fail
    go_ret
    exact ⟨rfl, hbel⟩

/-- x so many times -/
def xpow : Nat → Nat
  | 0 => 1
  | k + 1 => tw (xpow k)
theorem xpow_lt (k : Nat) : xpow k < 256 := by
  induction k with
  | zero => show 1 < 256; decide
  | succ k ih => exact tw_lt ih
/-- the byte put together of its first k digits -/
def digs (a : Nat) : Nat → Nat
  | 0 => 0
  | k + 1 => if a / 2 ^ k % 2 = 1 then digs a k ^^^ mul (xpow k) 1 else digs a k
theorem digs_lt (a k : Nat) : digs a k < 256 := by
  induction k with
  | zero => show 0 < 256; decide
  | succ k ih =>
    unfold digs; split
    · exact xor_lt ih (mul_lt (xpow_lt k))
    · exact ih
theorem digs_8 {a : Nat} (ha : a < 256) : digs a 8 = a :=
  eq_of_beq (Fld.all256 (p := fun a => digs a 8 == a) (by decide +kernel) ha)
theorem xpow_8 : xpow 8 = 27 := by decide +kernel
theorem shr_bit {a : Nat} (k : Nat) (ha : a < 256) : (bits .and .u8 ((a : Int) / 2 ^ k) 1 == 1) = decide (a / 2 ^ k % 2 = 1) := by
  have hq : a / 2 ^ k < 256 := Nat.lt_of_le_of_lt (Nat.div_le_self _ _) ha
  have h := u8_and_nat (a / 2 ^ k) 1 hq (by decide)
  rw [show ((1 : Nat) : Int) = 1 from rfl, show (((a / 2 ^ k : Nat)) : Int) = (a : Int) / 2 ^ k by rw [Int.natCast_ediv, Int.natCast_pow]; rfl] at h
  rw [h, show (1 : Int) = ((1 : Nat) : Int) from rfl, eq_lit, show a / 2 ^ k &&& 1 = a / 2 ^ k % 2 from Nat.and_one_is_mod _, Bool.eq_iff_iff]
  simp
theorem twice_form {a : Nat} (ha : a < 256) : (if (128 : Int) ≤ (a : Int) then bits .xor .u8 ((a : Int) * 2 % 256) 27 else (a : Int) * 2 % 256) = ((tw a : Nat) : Int) := by
  unfold tw
  by_cases h : a < 128
  · rw [if_neg (by omega), if_pos h]; omega
  · rw [if_pos (by omega), if_neg h]
    have e := u8_xor_nat (a * 2 % 256) 27 (by omega) (by decide)
    rw [show ((27 : Nat) : Int) = 27 from rfl] at e
    have e2 : ((a * 2 % 256 : Nat) : Int) = (a : Int) * 2 % 256 := by omega
    rw [← e2, e, show a * 2 % 256 = 2 * a - 256 by omega]
set_option maxRecDepth 100000 in
set_option maxHeartbeats 1000000 in
theorem fieldTwice_walk (a : Nat) (ha : a < 256) (w : World) :
    Calls Try.prog 6 #[.int .u8 (a : Int)] w fun e w' => e = .returned (.bool true) ∧ Below w.heap.size w w' := by
  have hf := twice_form ha
  by_cases h : (128 : Int) ≤ (a : Int)
  all_goals
    first | rw [if_pos h] at hf | rw [if_neg h] at hf
    have HF := Lib.hid hf
    clear hf
    go_enter Try.func6, Try.ntmps6
    go_wp2_with fail
    go_loopw [4, 5, 6] (fun s x i wr => ∃ k : Nat, k ≤ 8 ∧ i = .int .i64 (k : Int) ∧ s = .int .u8 ((digs a k : Nat) : Int) ∧ x = .int .u8 ((xpow k : Nat) : Int) ∧ Below w.heap.size w wr) (fun _ _ i _ => 8 - (intOf i).toNat)
    case atStart => exact ⟨0, Nat.zero_le _, rfl, rfl, rfl, Below.refl _ _⟩
    case round =>
      obtain ⟨k, hk, rfl, rfl, rfl, hbel⟩ := hrel
      by_cases hlt : k < 8
      · have hmin : min k 8 = k := by omega
        have ht := shr_bit k ha
        have hx := xpow_lt k
        have hd := digs_lt a k
        have hm : mul (xpow k) 1 < 256 := mul_lt hx
        have hsz := hbel.size
        by_cases hb : a / 2 ^ k % 2 = 1
        · have hb2 : (bits .and .u8 ((a : Int) / 2 ^ k) 1 == 1) = true := by rw [ht]; simpa using hb
          have HD : Hid (digs a (k + 1) = digs a k ^^^ mul (xpow k) 1) := by show _ = _; rw [digs, if_pos hb]
          clear ht hb
          go_wp2_with fail
          refine (mul_any (xpow k) 1 hx (by decide) _).mono ?_
          rintro e w' ⟨rfl, rfl⟩
          go_wp2_with fail
          refine (sum_any _ 2 2 [digs a k, mul (xpow k) 1] _ (bytes_two _ _ (digs a k) (mul (xpow k) 1) 5 (by simp) hd hm)).mono ?_
          rw [xsum_two]
          rintro e w' ⟨rfl, rfl⟩
          go_wp2_with fail
          refine (twice_any (xpow k) hx _).mono ?_
          rintro e w' ⟨rfl, rfl⟩
          go_wp2_with fail
          go_roundw
          case rel => exact ⟨k + 1, by omega, by go_num, by rw [HD.out], rfl, hbel.alloc hsz _⟩
          case measure => simp [intOf]; omega
        · have hb2 : (bits .and .u8 ((a : Int) / 2 ^ k) 1 == 1) = false := by rw [ht]; simpa using hb
          have HD : Hid (digs a (k + 1) = digs a k) := by show _ = _; rw [digs, if_neg hb]
          clear ht hb
          go_wp2_with fail
          refine (twice_any (xpow k) hx _).mono ?_
          rintro e w' ⟨rfl, rfl⟩
          go_wp2_with fail
          go_roundw
          case rel => exact ⟨k + 1, by omega, by go_num, by rw [HD.out], rfl, hbel⟩
          case measure => simp [intOf]; omega
      · have e : k = 8 := by omega
        subst e
        have hd := digs_8 ha
        have hx := xpow_8
        have hfo := HF.out
        go_wp2_with fail
        refine (twice_any a ha _).mono ?_
        rintro e w' ⟨rfl, rfl⟩
        go_wp2_with fail
        refine (awake4 _).mono ?_
        rintro e w' ⟨rfl, hbel2⟩
        go_wp2_with fail
        go_ret
        exact ⟨rfl, hbel.trans (hbel2.mono hbel.size)⟩
end Go.Proofs.Ytibfihjcjohadaa
