/-
  Plain mathematics: the byte that takes another one's place, and back; what a round adds. No condition beside the bounds.
-/
import Derived.Test.YtibfihjcjohadaaPFld
namespace Go.Proofs.Ytibfihjcjohadaa.Sbx
open Fld
/-- a byte's digits turned k places up -/
def rotl (b k : Nat) : Nat := b * 2 ^ k % 256 ||| b / 2 ^ (8 - k)
theorem rotl_lt {b k : Nat} (hb : b < 256) : rotl b k < 256 := by
  unfold rotl
  have h1 : b * 2 ^ k % 256 < 2 ^ 8 := Nat.mod_lt _ (by decide)
  have h2 : b / 2 ^ (8 - k) < 2 ^ 8 := Nat.lt_of_le_of_lt (Nat.div_le_self _ _) (by simpa using hb)
  exact Nat.or_lt_two_pow h1 h2
/-- the sum of a byte and of it, turned -/
def lin (b : Nat) : Nat := rotl b 0 ^^^ rotl b 1 ^^^ rotl b 2 ^^^ rotl b 3 ^^^ rotl b 4
/-- what is made of a byte's inverse -/
def turn (b : Nat) : Nat := 99 ^^^ rotl b 0 ^^^ rotl b 1 ^^^ rotl b 2 ^^^ rotl b 3 ^^^ rotl b 4
theorem turn_lin (b : Nat) : turn b = 99 ^^^ lin b := by unfold turn lin; ac_rfl
def sub (a : Nat) : Nat := turn (inv a)
def back (a : Nat) : Nat := inv (rotl (a ^^^ 99) 1 ^^^ rotl (a ^^^ 99) 3 ^^^ rotl (a ^^^ 99) 6)
theorem turn_lt {b : Nat} (hb : b < 256) : turn b < 256 := by
  unfold turn
  exact xor_lt (xor_lt (xor_lt (xor_lt (xor_lt (by decide) (rotl_lt hb)) (rotl_lt hb)) (rotl_lt hb)) (rotl_lt hb)) (rotl_lt hb)
theorem sub_lt {a : Nat} (ha : a < 256) : sub a < 256 := turn_lt (inv_lt ha)
theorem back_lt {a : Nat} (ha : a < 256) : back a < 256 := by
  unfold back
  have h : a ^^^ 99 < 256 := xor_lt ha (by decide)
  exact inv_lt (xor_lt (xor_lt (rotl_lt h) (rotl_lt h)) (rotl_lt h))
theorem back_sub {a : Nat} (ha : a < 256) : back (sub a) = a :=
  eq_of_beq (all256 (p := fun a => back (sub a) == a) (by decide +kernel) ha)
theorem sub_back {a : Nat} (ha : a < 256) : sub (back a) = a :=
  eq_of_beq (all256 (p := fun a => sub (back a) == a) (by decide +kernel) ha)
theorem sub_ne {a : Nat} (ha : a < 256) : sub a ≠ a ∧ sub a ≠ 255 - a := by
  have h := all256 (p := fun a => !(sub a == a) && !(sub a == 255 - a)) (by decide +kernel) ha
  simpa using h
theorem sub_inj {a b : Nat} (ha : a < 256) (hb : b < 256) (h : sub a = sub b) : a = b := by
  rw [← back_sub ha, h, back_sub hb]
theorem lin_xor {x y : Nat} (hx : x < 256) (hy : y < 256) : lin (x ^^^ y) = lin x ^^^ lin y := by
  have h := byDigits (p := fun x => ∀ y, y < 256 → lin (x ^^^ y) = lin x ^^^ lin y) ?_ ?_ ?_ hx
  · exact h y hy
  · intro y _; rw [Nat.zero_xor, show lin 0 = 0 from rfl, Nat.zero_xor]
  · intro a b ha hb h1 h2 y hy
    rw [Nat.xor_assoc, h1 _ (xor_lt hb hy), h2 y hy, h1 b hb, Nat.xor_assoc]
  · intro i hi y hy
    have h := all8 (p := fun i => (List.range 256).all fun y => lin (2 ^ i ^^^ y) == lin (2 ^ i) ^^^ lin y) (by decide +kernel) hi
    exact eq_of_beq (all256 h hy)
theorem shares {a b : Nat} (ha : a < 256) (hb : b < 256) : sub a ^^^ sub b ^^^ sub 0 = sub (inv (inv a ^^^ inv b)) := by
  unfold sub
  have hi := inv_lt ha
  have hj := inv_lt hb
  rw [inv_inv (xor_lt hi hj), show inv 0 = 0 from by decide +kernel, turn_lin, turn_lin, turn_lin, turn_lin, lin_xor hi hj, show lin 0 = 0 from rfl, Nat.xor_zero]
  have e : 99 ^^^ lin (inv a) ^^^ (99 ^^^ lin (inv b)) ^^^ 99 = (99 ^^^ 99) ^^^ (99 ^^^ (lin (inv a) ^^^ lin (inv b))) := by ac_rfl
  rw [e, Nat.xor_self, Nat.zero_xor]
/-- digit i of what takes a byte's place, as the document has it -/
def dig (b i : Nat) : Nat := (b / 2 ^ i ^^^ b / 2 ^ ((i + 4) % 8) ^^^ b / 2 ^ ((i + 5) % 8) ^^^ b / 2 ^ ((i + 6) % 8) ^^^ b / 2 ^ ((i + 7) % 8) ^^^ 99 / 2 ^ i) % 2
def digs (b : Nat) : Nat → Nat
  | 0 => 0
  | k + 1 => digs b k ||| dig b k * 2 ^ k
theorem digs_turn {b : Nat} (hb : b < 256) : digs b 8 = turn b :=
  eq_of_beq (all256 (p := fun b => digs b 8 == turn b) (by decide +kernel) hb)
/-- the powers of 3 -/
def up3 (i : Nat) : Nat := pw 3 (i % 255)
/-- each byte of a word -/
def word (w : Nat) : Nat := ((sub (w / 16777216 % 256) * 256 + sub (w / 65536 % 256)) * 256 + sub (w / 256 % 256)) * 256 + sub (w % 256)
theorem word_lt {w : Nat} : word w < 4294967296 := by
  unfold word
  have h1 := sub_lt (a := w / 16777216 % 256) (Nat.mod_lt _ (by decide))
  have h2 := sub_lt (a := w / 65536 % 256) (Nat.mod_lt _ (by decide))
  have h3 := sub_lt (a := w / 256 % 256) (Nat.mod_lt _ (by decide))
  have h4 := sub_lt (a := w % 256) (Nat.mod_lt _ (by decide))
  omega
end Go.Proofs.Ytibfihjcjohadaa.Sbx
