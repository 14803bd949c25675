/-
  Plain mathematics: the bytes of a block's number, doubled, halved, summed. No condition but that blocks lie below 2^128.
-/
import Derived.Test.YtibfihjcjohadaaPTwk
import Derived.Test.YtibfihjcjohadaaPFld
namespace Go.Proofs.Ytibfihjcjohadaa.Twk
open Fld (all256)
theorem all16 {p : Nat → Bool} (h : (List.range 16).all p = true) {a : Nat} (ha : a < 16) : p a = true :=
  List.all_eq_true.mp h a (List.mem_range.mpr ha)
theorem or_even {a c : Nat} (ha : a < 256) (h2 : a % 2 = 0) (hc : c < 2) : a ||| c = a + c := by
  have h := all256 (p := fun a => a % 2 != 0 || ((a ||| 0) == a && (a ||| 1) == a + 1)) (by decide +kernel) ha
  simp [h2] at h
  rcases (show c = 0 ∨ c = 1 by omega) with rfl | rfl
  · simp
  · exact h
/-- byte j of a block that is shifted up by one digit -/
def shl1 (f : Nat → Nat) (j : Nat) : Nat := (f j * 2 % 256) ||| (if j = 0 then 0 else f (j - 1) / 128)
/-- byte j of a block doubled -/
def dblF (f : Nat → Nat) (j : Nat) : Nat := if 128 ≤ f 15 ∧ j = 0 then shl1 f 0 ^^^ 135 else shl1 f j
theorem shl1_lt {f : Nat → Nat} (hf : ∀ i, f i < 256) (j : Nat) : shl1 f j < 256 := by
  unfold shl1
  refine Nat.or_lt_two_pow (n := 8) (Nat.mod_lt _ (by decide)) ?_
  have := hf (j - 1)
  split <;> omega
theorem dblF_lt {f : Nat → Nat} (hf : ∀ i, f i < 256) (j : Nat) : dblF f j < 256 := by
  unfold dblF
  split
  · exact Nat.xor_lt_two_pow (n := 8) (shl1_lt hf 0) (by decide)
  · exact shl1_lt hf j
theorem shl1_byt (N i : Nat) : shl1 (byt N) i = byt (2 * N) i := by
  unfold shl1
  have hlt := byt_lt N i
  rw [or_even (by omega) (by omega) (by split <;> (try have := byt_lt N (i - 1)) <;> omega)]
  rcases Nat.eq_zero_or_pos i with rfl | hi
  · simp only [byt, if_true, Nat.pow_zero, Nat.div_one]; omega
  · rw [if_neg (by omega)]
    obtain ⟨j, rfl⟩ : ∃ j, i = j + 1 := ⟨i - 1, by omega⟩
    rw [show j + 1 - 1 = j by omega]
    unfold byt
    rw [Nat.pow_succ, ← Nat.div_div_eq_div_mul, show 256 ^ j * 256 = 2 * (256 ^ j * 128) by omega, Nat.mul_div_mul_left _ _ (by decide), ← Nat.div_div_eq_div_mul]
    generalize N / 256 ^ j = q
    omega
theorem byt_poly {t i : Nat} (ht : t < 2) (hi : i < 16) : byt (t * (2 ^ 128 + 135)) i = if t = 1 ∧ i = 0 then 135 else 0 := by
  rcases (show t = 0 ∨ t = 1 by omega) with rfl | rfl
  · simp [byt]
  · have h := all16 (p := fun i => byt (1 * (2 ^ 128 + 135)) i == if i = 0 then 135 else 0) (by decide +kernel) hi
    simpa using h
theorem byt15 {N : Nat} (h : N < 2 ^ 128) : byt N 15 / 128 = N / 2 ^ 127 := by
  unfold byt
  rw [show (256 : Nat) ^ 15 = 2 ^ 120 from by decide]
  have : N / 2 ^ 120 < 256 := by omega
  rw [Nat.mod_eq_of_lt this, Nat.div_div_eq_div_mul]
theorem dblF_byt {N i : Nat} (h : N < 2 ^ 128) (hi : i < 16) : dblF (byt N) i = byt (dbl N) i := by
  rw [dbl_form h, byt_xor, byt_poly (by omega) hi, ← shl1_byt]
  have h15 := byt15 h
  have hb := byt_lt N 15
  unfold dblF
  by_cases hc : 128 ≤ byt N 15
  · have : N / 2 ^ 127 = 1 := by omega
    rw [this]
    by_cases h0 : i = 0
    · subst h0; rw [if_pos ⟨hc, rfl⟩, if_pos ⟨rfl, rfl⟩]
    · rw [if_neg (fun h => h0 h.2), if_neg (fun h => h0 h.2)]; simp
  · have : N / 2 ^ 127 = 0 := by omega
    rw [this, if_neg (fun h => hc h.1), if_neg (fun h => by omega)]; simp
end Go.Proofs.Ytibfihjcjohadaa.Twk
