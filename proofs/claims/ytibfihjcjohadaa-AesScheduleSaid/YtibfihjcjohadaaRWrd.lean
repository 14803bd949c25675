/-
  The walk of the reference's Word: each byte of a word is turned, out of a box in memory; nothing is written.
-/
import Derived.Test.YtibfihjcjohadaaRBox
import Derived.Test.YtibfihjcjohadaaL5
namespace Go.Proofs.Ytibfihjcjohadaa
open Go.RowKit Go.Op
open Sbx (sub sub_lt back back_lt word boxN)
theorem BoxM.to {w : World} {B : Nat} (h : BoxM w B) {i : Nat} (hi : i < 256) : w.cell? ⟨B, i, none⟩ = some (.int .u8 ((sub i : Nat) : Int)) := by
  have h1 := World.rowIs.cell h (show i < 512 by omega)
  rw [h1]; unfold bCell boxN; rw [if_pos hi]
theorem BoxM.from_ {w : World} {B : Nat} (h : BoxM w B) {i : Nat} (hi : i < 256) : w.cell? ⟨B, 256 + i, none⟩ = some (.int .u8 ((back i : Nat) : Int)) := by
  have h1 := World.rowIs.cell h (show 256 + i < 512 by omega)
  rw [h1]; unfold bCell boxN; rw [if_neg (by omega), show 256 + i - 256 = i by omega]
theorem BoxM.drewN {w : World} {B : Nat} (h : BoxM w B) (n : Nat) : BoxM (w.drewN n) B := h
theorem BoxM.below {w w' : World} {B C : Nat} (h : BoxM w B) (hb : Below C w w') (hB : B < C) : BoxM w' B := rowIs_below h hb hB
theorem BoxM.lt {w : World} {B : Nat} (h : BoxM w B) : B < w.heap.size := World.rowIs.lt h
theorem and255 {x : Nat} (hx : x < 4294967296) : bits .and .u32 (x : Int) 255 = ((x % 256 : Nat) : Int) := by
  have h := u32_and_nat x 255 hx (by decide)
  rw [show ((255 : Nat) : Int) = 255 from rfl] at h
  rw [h, show (255 : Nat) = 2 ^ 8 - 1 from rfl, Nat.and_two_pow_sub_one_eq_mod]
theorem bytes_of_word (x : Nat) (hx : x < 4294967296) : ∃ b3 b2 b1 b0 : Nat, b3 < 256 ∧ b2 < 256 ∧ b1 < 256 ∧ b0 < 256 ∧ (x : Int) / 16777216 = (b3 : Int) ∧ bits .and .u32 ((x : Int) / 65536) 255 = (b2 : Int) ∧ bits .and .u32 ((x : Int) / 256) 255 = (b1 : Int) ∧ bits .and .u32 (x : Int) 255 = (b0 : Int) ∧ word x = word4 (sub b3) (sub b2) (sub b1) (sub b0) := by
  refine ⟨x / 16777216, x / 65536 % 256, x / 256 % 256, x % 256, by omega, by omega, by omega, by omega, by omega, ?_, ?_, and255 hx, ?_⟩
  · rw [show (x : Int) / 65536 = ((x / 65536 : Nat) : Int) by omega]; exact and255 (by omega)
  · rw [show (x : Int) / 256 = ((x / 256 : Nat) : Int) by omega]; exact and255 (by omega)
  · unfold word word4
    rw [show x / 16777216 % 256 = x / 16777216 by omega]
    omega
set_option maxRecDepth 100000 in
set_option maxHeartbeats 4000000 in
theorem rword_any (B x : Nat) (hx : x < 4294967296) (w : World) (hB : BoxM w B) :
    Calls Try.prog 55 #[.pointer (some ⟨B, 0, none⟩), .int .u32 (x : Int)] w fun e w' => e = .returned (.int .u32 ((word x : Nat) : Int)) ∧ ∃ n, w' = w.drewN n := by
  obtain ⟨b3, b2, b1, b0, h3, h2, h1, h0, e3, e2, e1, e0, hw⟩ := bytes_of_word x hx
  rw [hw]
  clear hw
  have c3 := hB.to h3
  have c2 := hB.to h2
  have c1 := hB.to h1
  have c0 := hB.to h0
  have s3 := sub_lt h3
  have s2 := sub_lt h2
  have s1 := sub_lt h1
  have s0 := sub_lt h0
  revert c3 c2 c1 c0 s3 s2 s1 s0
  generalize sub b3 = t3
  generalize sub b2 = t2
  generalize sub b1 = t1
  generalize sub b0 = t0
  intro c3 c2 c1 c0 s3 s2 s1 s0
  have o1 := or24 s3 s2
  have o2 := or16 s3 s2 s1
  have o3 := or8 s3 s2 s1 s0
  rw [word4_int] at o3
  go_enter Try.func55, Try.ntmps55
  go_wp2_with fail
  go_quiet (fail)
  go_wp2_with fail
  go_ret
  exact ⟨rfl, _, rfl⟩
end Go.Proofs.Ytibfihjcjohadaa
