/-
  Plain mathematics: blocks as numbers below 2^128: doubling, halving, so often. No condition; imports nothing.
-/
namespace Go.Proofs.Ytibfihjcjohadaa.Twk
def dbl (n : Nat) : Nat := if n < 2 ^ 127 then 2 * n else (2 * n - 2 ^ 128) ^^^ 135
def hlv (n : Nat) : Nat := if n % 2 = 0 then n / 2 else (n ^^^ 135) / 2 + 2 ^ 127
theorem xor_lt128 {a b : Nat} (ha : a < 2 ^ 128) (hb : b < 2 ^ 128) : a ^^^ b < 2 ^ 128 := Nat.xor_lt_two_pow ha hb
theorem add_xor {k x : Nat} (h : x < 2 ^ k) : 2 ^ k + x = 2 ^ k ^^^ x := by
  apply Nat.eq_of_testBit_eq
  intro j
  rw [Nat.testBit_xor, Nat.testBit_two_pow]
  rcases Nat.lt_trichotomy j k with hj | hj | hj
  · rw [Nat.testBit_two_pow_add_gt hj]; simp [Nat.ne_of_gt hj]
  · subst hj
    rw [Nat.testBit_two_pow_add_eq, Nat.testBit_lt_two_pow h]; simp
  · have h1 : x < 2 ^ j := Nat.lt_trans h (Nat.pow_lt_pow_right (by decide) hj)
    have h2 : 2 ^ k + x < 2 ^ j := by
      have : 2 ^ (k + 1) ≤ 2 ^ j := Nat.pow_le_pow_right (by decide) hj
      rw [Nat.pow_succ] at this; omega
    rw [Nat.testBit_lt_two_pow h1, Nat.testBit_lt_two_pow h2]; simp [Nat.ne_of_lt hj]
theorem dbl_lt {n : Nat} (h : n < 2 ^ 128) : dbl n < 2 ^ 128 := by
  unfold dbl; split
  · omega
  · exact xor_lt128 (by omega) (by decide)
theorem mod_xor2 (b c : Nat) : (b ^^^ c) % 2 = b % 2 ^^^ c % 2 := by
  have := Nat.xor_mod_two_pow (a := b) (b := c) (n := 1)
  simpa using this
theorem hlv_lt {n : Nat} (h : n < 2 ^ 128) : hlv n < 2 ^ 128 := by
  unfold hlv; split
  · omega
  · have : n ^^^ 135 < 2 ^ 128 := xor_lt128 h (by decide)
    omega
theorem xor_xor (a b : Nat) : a ^^^ b ^^^ b = a := by rw [Nat.xor_assoc]; simp
theorem hlv_dbl {n : Nat} (h : n < 2 ^ 128) : hlv (dbl n) = n := by
  unfold dbl; split
  · unfold hlv; rw [if_pos (by omega)]; omega
  · have e : ((2 * n - 2 ^ 128) ^^^ 135) % 2 = 1 := by
      rw [mod_xor2, show (2 * n - 2 ^ 128) % 2 = 0 by omega]; rfl
    unfold hlv; rw [if_neg (by omega), xor_xor]; omega
theorem dbl_hlv {n : Nat} (h : n < 2 ^ 128) : dbl (hlv n) = n := by
  unfold hlv; split
  · unfold dbl; rw [if_pos (by omega)]; omega
  · have e : (n ^^^ 135) % 2 = 0 := by
      rw [mod_xor2, show n % 2 = 1 by omega]; rfl
    unfold dbl; rw [if_neg (by omega)]
    have : 2 * ((n ^^^ 135) / 2 + 2 ^ 127) - 2 ^ 128 = n ^^^ 135 := by omega
    rw [this, xor_xor]
theorem two_xor (a b : Nat) : 2 * (a ^^^ b) = (2 * a) ^^^ (2 * b) := by
  have := Nat.shiftLeft_xor_distrib (a := a) (b := b) (i := 1)
  simp only [Nat.shiftLeft_eq, Nat.pow_one, Nat.mul_comm _ 2] at this
  exact this
theorem div_xor (a b k : Nat) : (a ^^^ b) / 2 ^ k = a / 2 ^ k ^^^ b / 2 ^ k := by
  simp only [← Nat.shiftRight_eq_div_pow, Nat.shiftRight_xor_distrib]
theorem dbl_form {a : Nat} (h : a < 2 ^ 128) : dbl a = (2 * a) ^^^ ((a / 2 ^ 127) * (2 ^ 128 + 135)) := by
  unfold dbl; split
  · rw [show a / 2 ^ 127 = 0 by omega]; simp
  · rw [show a / 2 ^ 127 = 1 by omega, Nat.one_mul]
    have e1 : 2 * a = 2 ^ 128 ^^^ (2 * a - 2 ^ 128) := by rw [← add_xor (by omega)]; omega
    have e2 : 2 ^ 128 + 135 = 2 ^ 128 ^^^ 135 := add_xor (by decide)
    generalize hm : 2 * a - 2 ^ 128 = m at e1 ⊢
    rw [e2, e1]
    generalize (2 : Nat) ^ 128 = P
    have : P ^^^ m ^^^ (P ^^^ 135) = (P ^^^ P) ^^^ (m ^^^ 135) := by ac_rfl
    rw [this, Nat.xor_self, Nat.zero_xor]
theorem dbl_xor {a b : Nat} (ha : a < 2 ^ 128) (hb : b < 2 ^ 128) : dbl (a ^^^ b) = dbl a ^^^ dbl b := by
  rw [dbl_form ha, dbl_form hb, dbl_form (xor_lt128 ha hb), two_xor, div_xor]
  generalize 2 ^ 128 + 135 = P
  have h1 : a / 2 ^ 127 = 0 ∨ a / 2 ^ 127 = 1 := by omega
  have h2 : b / 2 ^ 127 = 0 ∨ b / 2 ^ 127 = 1 := by omega
  have e : (1 : Nat) ^^^ 1 = 0 := rfl
  have e1 : (0 : Nat) ^^^ 1 = 1 := rfl
  have e2 : (1 : Nat) ^^^ 0 = 1 := rfl
  rcases h1 with h1 | h1 <;> rcases h2 with h2 | h2 <;> rw [h1, h2]
  · simp
  · rw [e1]; simp [Nat.xor_assoc]
  · rw [e2]; simp only [Nat.one_mul, Nat.zero_mul, Nat.xor_zero]; ac_rfl
  · rw [e]; simp only [Nat.one_mul, Nat.zero_mul, Nat.xor_zero]
    have : 2 * a ^^^ P ^^^ (2 * b ^^^ P) = 2 * a ^^^ 2 * b ^^^ (P ^^^ P) := by ac_rfl
    rw [this]; simp
def up (b : Nat) : Nat → Nat
  | 0 => b
  | n + 1 => dbl (up b n)
def down (b : Nat) : Nat → Nat
  | 0 => b
  | n + 1 => hlv (down b n)
def tm (b : Nat) (n : Int) : Nat := if 0 ≤ n then up b n.toNat else down b (-n).toNat
theorem up_lt {b : Nat} (h : b < 2 ^ 128) : ∀ n, up b n < 2 ^ 128 := by
  intro n; induction n with
  | zero => exact h
  | succ n ih => exact dbl_lt ih
theorem down_lt {b : Nat} (h : b < 2 ^ 128) : ∀ n, down b n < 2 ^ 128 := by
  intro n; induction n with
  | zero => exact h
  | succ n ih => exact hlv_lt ih
theorem tm_lt {b : Nat} (h : b < 2 ^ 128) (n : Int) : tm b n < 2 ^ 128 := by
  unfold tm; split
  · exact up_lt h _
  · exact down_lt h _
theorem tm_zero (b : Nat) : tm b 0 = b := rfl
theorem tm_succ {b : Nat} (h : b < 2 ^ 128) (n : Int) : tm b (n + 1) = dbl (tm b n) := by
  unfold tm
  by_cases h0 : 0 ≤ n
  · rw [if_pos h0, if_pos (by omega), show (n + 1).toNat = n.toNat + 1 by omega]; rfl
  · rw [if_neg h0]
    obtain ⟨k, hk⟩ : ∃ k : Nat, (-n).toNat = k + 1 := ⟨(-n).toNat - 1, by omega⟩
    rw [hk, down, dbl_hlv (down_lt h k)]
    by_cases h1 : 0 ≤ n + 1
    · rw [if_pos h1, show (n + 1).toNat = 0 by omega, show k = 0 by omega]; rfl
    · rw [if_neg h1, show (-(n + 1)).toNat = k by omega]
theorem tm_pred {b : Nat} (h : b < 2 ^ 128) (n : Int) : tm b (n - 1) = hlv (tm b n) := by
  have := tm_succ h (n - 1)
  rw [show n - 1 + 1 = n by omega] at this
  rw [this, hlv_dbl (tm_lt h _)]
theorem tm_add {b : Nat} (h : b < 2 ^ 128) (n m : Int) : tm (tm b n) m = tm b (n + m) := by
  have hp : ∀ k : Nat, tm (tm b n) k = tm b (n + k) := by
    intro k; induction k with
    | zero => simp [tm_zero]
    | succ k ih => rw [show ((k + 1 : Nat) : Int) = (k : Int) + 1 by omega, tm_succ (tm_lt h n), ih, ← tm_succ h, Int.add_assoc]
  have hn : ∀ k : Nat, tm (tm b n) (-(k : Int)) = tm b (n + -(k : Int)) := by
    intro k; induction k with
    | zero => simp [tm_zero]
    | succ k ih => rw [show (-((k + 1 : Nat) : Int)) = -(k : Int) - 1 by omega, tm_pred (tm_lt h n), ih, ← tm_pred h]; congr 1; omega
  rcases Int.le_total 0 m with hm | hm
  · have := hp m.toNat; rwa [Int.toNat_of_nonneg hm] at this
  · have := hn (-m).toNat
    rwa [show (-((-m).toNat : Int)) = m by omega] at this
theorem up_small {b : Nat} : ∀ n, b * 2 ^ n < 2 ^ 128 → up b n = b * 2 ^ n := by
  intro n; induction n with
  | zero => intro _; simp [up]
  | succ n ih =>
    intro hl
    rw [Nat.pow_succ, ← Nat.mul_assoc] at hl ⊢
    rw [up, ih (by omega)]; unfold dbl; rw [if_pos (by omega)]; omega
/-- byte i of a block's number -/
def byt (n i : Nat) : Nat := n / 256 ^ i % 256
theorem byt_lt (n i : Nat) : byt n i < 256 := Nat.mod_lt _ (by decide)
theorem byt_xor (a b i : Nat) : byt (a ^^^ b) i = byt a i ^^^ byt b i := by
  unfold byt
  rw [show (256 : Nat) ^ i = 2 ^ (8 * i) by rw [Nat.pow_mul], div_xor]
  exact Nat.xor_mod_two_pow (n := 8)
end Go.Proofs.Ytibfihjcjohadaa.Twk
