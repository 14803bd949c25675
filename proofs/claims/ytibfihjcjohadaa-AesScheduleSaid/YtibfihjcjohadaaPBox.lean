/-
  Plain mathematics: the powers of 3 go through all bytes but 0. No condition beside the bounds.
-/
import Derived.Test.YtibfihjcjohadaaPSbx
namespace Go.Proofs.Ytibfihjcjohadaa.Sbx
open Fld
/-- which power of 3 a byte is -/
def lgT : List Nat := [
  0, 0, 25, 1, 50, 2, 26, 198, 75, 199, 27, 104, 51, 238, 223, 3, 100, 4, 224, 14, 52, 141, 129, 239, 76, 113, 8, 200, 248, 105, 28, 193,
  125, 194, 29, 181, 249, 185, 39, 106, 77, 228, 166, 114, 154, 201, 9, 120, 101, 47, 138, 5, 33, 15, 225, 36, 18, 240, 130, 69, 53, 147, 218, 142,
  150, 143, 219, 189, 54, 208, 206, 148, 19, 92, 210, 241, 64, 70, 131, 56, 102, 221, 253, 48, 191, 6, 139, 98, 179, 37, 226, 152, 34, 136, 145, 16,
  126, 110, 72, 195, 163, 182, 30, 66, 58, 107, 40, 84, 250, 133, 61, 186, 43, 121, 10, 21, 155, 159, 94, 202, 78, 212, 172, 229, 243, 115, 167, 87,
  175, 88, 168, 80, 244, 234, 214, 116, 79, 174, 233, 213, 231, 230, 173, 232, 44, 215, 117, 122, 235, 22, 11, 245, 89, 203, 95, 176, 156, 169, 81, 160,
  127, 12, 246, 111, 23, 196, 73, 236, 216, 67, 31, 45, 164, 118, 123, 183, 204, 187, 62, 90, 251, 96, 177, 134, 59, 82, 161, 108, 170, 85, 41, 157,
  151, 178, 135, 144, 97, 190, 220, 252, 188, 149, 207, 205, 55, 63, 91, 209, 83, 57, 132, 60, 65, 162, 109, 71, 20, 42, 158, 93, 86, 242, 211, 171,
  68, 17, 146, 217, 35, 32, 46, 137, 180, 124, 184, 38, 119, 153, 227, 165, 103, 74, 237, 222, 197, 49, 254, 24, 13, 99, 140, 128, 192, 247, 112, 7]
def lg (a : Nat) : Nat := lgT.getD a 0
theorem all255 {p : Nat → Bool} (h : (List.range 255).all p = true) {a : Nat} (ha : a < 255) : p a = true :=
  List.all_eq_true.mp h a (List.mem_range.mpr ha)
theorem lg_all {a : Nat} (ha : a < 256) : a = 0 ∨ (lg a < 255 ∧ pw 3 (lg a) = a ∧ pw 3 ((255 - lg a) % 255) = inv a) := by
  have h := all256 (p := fun a => a == 0 || (decide (lg a < 255) && pw 3 (lg a) == a && pw 3 ((255 - lg a) % 255) == inv a)) (by decide +kernel) ha
  simpa [and_assoc] using h
theorem lg_pw {j : Nat} (hj : j < 255) : lg (pw 3 j) = j :=
  eq_of_beq (all255 (p := fun j => lg (pw 3 j) == j) (by decide +kernel) hj)
theorem pw3 {j : Nat} (hj : j < 255) : pw 3 j = npow 3 j := pw_eq (by decide) (by omega)
theorem npow3_inj {i j : Nat} (hi : i < 255) (hj : j < 255) (h : npow 3 i = npow 3 j) : i = j := by
  rw [← lg_pw hi, ← lg_pw hj, pw3 hi, pw3 hj, h]
theorem npow3_lt (j : Nat) : npow 3 j < 256 := npow_lt (by decide) j
/-- what a table of logarithms holds at a byte but 0 -/
theorem table_lg {g : Nat → Nat} (h : ∀ j, j < 255 → g (npow 3 j) = j) {a : Nat} (ha : a < 256) (h0 : a ≠ 0) : g a = lg a ∧ lg a < 255 ∧ npow 3 ((255 - lg a) % 255) = inv a := by
  rcases lg_all ha with h1 | ⟨h1, h2, h3⟩
  · exact absurd h1 h0
  · refine ⟨?_, h1, by rw [← pw3 (Nat.mod_lt _ (by decide)), h3]⟩
    have := h (lg a) h1
    rwa [← pw3 h1, h2] at this
/-- the cells of a box: what each byte is turned into, and back -/
def boxN (i : Nat) : Nat := if i < 256 then sub i else back (i - 256)
end Go.Proofs.Ytibfihjcjohadaa.Sbx
