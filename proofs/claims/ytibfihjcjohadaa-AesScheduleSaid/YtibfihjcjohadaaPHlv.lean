/-
  Plain mathematics: the bytes of a block's half. No condition but that blocks lie below 2^128.
-/
import Derived.Test.YtibfihjcjohadaaPByt
namespace Go.Proofs.Ytibfihjcjohadaa.Twk
open Fld (all256)
theorem or_half {a c : Nat} (ha : a < 128) (hc : c = 0 ∨ c = 128) : a ||| c = a + c := by
  have h := all256 (p := fun a => decide (128 ≤ a) || ((a ||| 0) == a && (a ||| 128) == a + 128)) (by decide +kernel) (show a < 256 by omega)
  simp [show ¬ 128 ≤ a by omega] at h
  rcases hc with rfl | rfl
  · simp
  · exact h
/-- byte j of a block that is shifted down by one digit -/
def shr1 (f : Nat → Nat) (j : Nat) : Nat := f j / 2 ||| (if j = 15 then 0 else f (j + 1) * 128 % 256)
/-- the block of which half is taken: an odd one with the polynomial added -/
def evenF (f : Nat → Nat) (j : Nat) : Nat := if f 0 % 2 = 1 ∧ j = 0 then f 0 ^^^ 135 else f j
/-- byte j of a block's half -/
def hlvF (f : Nat → Nat) (j : Nat) : Nat := if f 0 % 2 = 1 ∧ j = 15 then shr1 (evenF f) 15 ||| 128 else shr1 (evenF f) j
theorem evenF_lt {f : Nat → Nat} (hf : ∀ i, f i < 256) (j : Nat) : evenF f j < 256 := by
  unfold evenF; split
  · exact Nat.xor_lt_two_pow (n := 8) (hf 0) (by decide)
  · exact hf j
theorem shr1_lt {f : Nat → Nat} (hf : ∀ i, f i < 256) (j : Nat) : shr1 f j < 256 := by
  unfold shr1
  have h1 := hf j
  refine Nat.or_lt_two_pow (n := 8) (by omega) ?_
  split <;> omega
theorem hlvF_lt {f : Nat → Nat} (hf : ∀ i, f i < 256) (j : Nat) : hlvF f j < 256 := by
  unfold hlvF; split
  · exact Nat.or_lt_two_pow (n := 8) (shr1_lt (evenF_lt hf) 15) (by decide)
  · exact shr1_lt (evenF_lt hf) j
theorem byt_high {N : Nat} (h : N < 2 ^ 128) : byt N 16 = 0 := by
  unfold byt
  rw [show (256 : Nat) ^ 16 = 2 ^ 128 from by decide, Nat.div_eq_of_lt h]
theorem shr1_byt {N i : Nat} (h : N < 2 ^ 128) (_hi : i < 16) : shr1 (byt N) i = byt (N / 2) i := by
  have e : (if i = 15 then 0 else byt N (i + 1) * 128 % 256) = byt N (i + 1) * 128 % 256 := by
    split
    · rename_i h15; rw [h15, byt_high h]
    · rfl
  have hb := byt_lt N i
  have hb1 := byt_lt N (i + 1)
  unfold shr1
  rw [e, or_half (by omega) (by omega)]
  unfold byt
  rw [Nat.pow_succ, ← Nat.div_div_eq_div_mul, Nat.div_div_eq_div_mul N 2, Nat.mul_comm 2, ← Nat.div_div_eq_div_mul]
  generalize N / 256 ^ i = q
  omega
theorem byt_135 {i : Nat} (hi : i < 16) : byt 135 i = if i = 0 then 135 else 0 :=
  eq_of_beq (all16 (p := fun i => byt 135 i == if i = 0 then 135 else 0) (by decide +kernel) hi)
theorem byt0_odd (N : Nat) : byt N 0 % 2 = N % 2 := by unfold byt; rw [Nat.pow_zero, Nat.div_one]; omega
theorem evenF_byt {N i : Nat} (hi : i < 16) : evenF (byt N) i = byt (if N % 2 = 0 then N else N ^^^ 135) i := by
  unfold evenF
  rw [byt0_odd]
  by_cases h : N % 2 = 0
  · rw [if_pos h, if_neg (fun h' => by omega)]
  · rw [if_neg h, byt_xor, byt_135 hi]
    by_cases h0 : i = 0
    · subst h0; rw [if_pos ⟨by omega, rfl⟩]; rfl
    · rw [if_neg (fun h' => h0 h'.2), if_neg h0]; simp
theorem byt_top {x i : Nat} (hx : x < 2 ^ 127) (hi : i < 16) : byt (x + 2 ^ 127) i = if i = 15 then byt x 15 ||| 128 else byt x i := by
  by_cases h : i = 15
  · subst h
    rw [if_pos rfl]
    have : byt x 15 < 128 := by
      unfold byt
      rw [show (256 : Nat) ^ 15 = 2 ^ 120 from by decide]
      omega
    rw [or_half this (.inr rfl)]
    unfold byt at this ⊢
    rw [show (256 : Nat) ^ 15 = 2 ^ 120 from by decide] at this ⊢
    omega
  · rw [if_neg h]
    unfold byt
    have e : 2 ^ 127 = 256 ^ i * (256 * 2 ^ (119 - 8 * i)) := by
      rw [show (256 : Nat) ^ i = 2 ^ (8 * i) by rw [Nat.pow_mul], show (256 : Nat) = 2 ^ 8 from rfl, ← Nat.pow_add, ← Nat.pow_add]
      congr 1; omega
    rw [e, Nat.add_mul_div_left _ _ (Nat.pow_pos (by decide)), Nat.add_mul_mod_self_left]
theorem shr1_congr {f g : Nat → Nat} (h : ∀ i, i < 16 → f i = g i) {j : Nat} (hj : j < 16) : shr1 f j = shr1 g j := by
  unfold shr1
  rw [h j hj]
  by_cases h15 : j = 15
  · rw [if_pos h15, if_pos h15]
  · rw [if_neg h15, if_neg h15, h (j + 1) (by omega)]
theorem hlvF_byt {N i : Nat} (h : N < 2 ^ 128) (hi : i < 16) : hlvF (byt N) i = byt (hlv N) i := by
  unfold hlvF
  rw [byt0_odd]
  have hx : N ^^^ 135 < 2 ^ 128 := xor_lt128 h (by decide)
  have hs : ∀ j, j < 16 → shr1 (evenF (byt N)) j = byt ((if N % 2 = 0 then N else N ^^^ 135) / 2) j := by
    intro j hj
    rw [shr1_congr (fun i hi => evenF_byt (N := N) hi) hj]
    exact shr1_byt (by split <;> assumption) hj
  rw [hs i hi, hs 15 (by decide)]
  unfold hlv
  by_cases h2 : N % 2 = 0
  · rw [if_pos h2, if_neg (fun h' => by omega), if_pos h2]
  · rw [if_neg h2, if_neg h2, byt_top (by omega) hi]
    by_cases h15 : i = 15
    · rw [if_pos ⟨by omega, h15⟩, if_pos h15]
    · rw [if_neg (fun h' => h15 h'.2), if_neg h15]
end Go.Proofs.Ytibfihjcjohadaa.Twk
