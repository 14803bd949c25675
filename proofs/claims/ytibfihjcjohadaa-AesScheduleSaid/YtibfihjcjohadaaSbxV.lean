/-
  The walks of sbox.Word and of priorylaw5.awake: what they answer; nothing that was there is written.
-/
import Derived.Test.YtibfihjcjohadaaSbxW
namespace Go.Proofs.Ytibfihjcjohadaa
open Go.RowKit Go.Op
open Fld (tw mul tw_lt xor_lt mul_lt pw npow inv inv_lt)
open Sbx (rotl rotl_lt turn turn_lt sub sub_lt back back_lt word word_lt)
/-- the first k bytes of a word, turned -/
def wordP (w : Nat) : Nat → Nat
  | 0 => 0
  | k + 1 => wordP w k * 256 + sub (w / 2 ^ (24 - 8 * k) % 256)
theorem wordP_lt (w : Nat) : ∀ k, wordP w k < 256 ^ k
  | 0 => Nat.zero_lt_one
  | k + 1 => by
    have h1 := wordP_lt w k
    have h2 := sub_lt (a := w / 2 ^ (24 - 8 * k) % 256) (Nat.mod_lt _ (by decide))
    rw [wordP, Nat.pow_succ]
    omega
theorem wordP_four (w : Nat) : wordP w 4 = word w := by
  show (((0 * 256 + sub (w / 2 ^ 24 % 256)) * 256 + sub (w / 2 ^ 16 % 256)) * 256 + sub (w / 2 ^ 8 % 256)) * 256 + sub (w / 2 ^ 0 % 256) = _
  unfold word
  simp
theorem or_byte32 {x s : Nat} (hx : x < 16777216) (hs : s < 256) : bits .or .u32 ((x : Int) * 256) (s : Int) = ((x * 256 + s : Nat) : Int) := by
  have h := u32_or_nat (x * 256) s (by omega) (by omega)
  have e : x * 256 ||| s = x * 256 + s := by
    have h := Nat.two_pow_add_eq_or_of_lt (i := 8) (b := s) (by simpa using hs) x
    rw [Nat.mul_comm x 256, show (256 : Nat) = 2 ^ 8 from rfl]
    exact h.symm
  rw [show (x : Int) * 256 = ((x * 256 : Nat) : Int) by omega, h, e]
set_option maxRecDepth 100000 in
set_option maxHeartbeats 1000000 in
theorem sword_any (x : Nat) (_hx : x < 4294967296) (w : World) :
    Calls Try.prog 54 #[.int .u32 (x : Int)] w fun e w' => e = .returned (.int .u32 ((word x : Nat) : Int)) ∧ Below w.heap.size w w' := by
  go_enter Try.func54, Try.ntmps54
  go_wp2_with fail
  go_loopw [2, 3] (fun o i wr => ∃ (k p : Nat), k ≤ 4 ∧ i = .int .i64 (24 - 8 * (k : Int)) ∧ o = .int .u32 (p : Int) ∧ Hid (p = wordP x k) ∧ Below w.heap.size w wr) (fun _ i _ => (intOf i + 8).toNat)
  case atStart => exact ⟨0, 0, by omega, rfl, rfl, rfl, Below.refl _ _⟩
  case round =>
    obtain ⟨k, p, hk, rfl, rfl, H, hbel⟩ := hrel
    have h4 : k = 4 ∨ k < 4 := by omega
    rcases h4 with rfl | h4
    · have e : p = word x := by rw [H.out, wordP_four]
      subst e
      rw [show (24 - 8 * ((4 : Nat) : Int)) = -8 from rfl]
      go_wp2_with fail
      go_ret
      exact ⟨rfl, hbel⟩
    · have hb : x / 2 ^ (24 - 8 * k) % 256 < 256 := Nat.mod_lt _ (by decide)
      have hs := sub_lt hb
      have hp : p < 16777216 := by
        have h1 := H.out
        have h2 := wordP_lt x k
        have h3 : 256 ^ k ≤ 256 ^ 3 := Nat.pow_le_pow_right (by decide) (by omega)
        rw [← h1] at h2
        exact Nat.lt_of_lt_of_le h2 h3
      have hor := or_byte32 hp hs
      have HE : Hid (((x : Int) / 2 ^ (24 - 8 * k)) % 256 = ((x / 2 ^ (24 - 8 * k) % 256 : Nat) : Int)) := by
        show _ = _
        rw [Int.natCast_emod, Int.natCast_ediv, Int.natCast_pow]; rfl
      go_wp2_with fail
      rw [HE.out]
      refine (sub_any _ hb _).mono ?_
      rintro e w1 ⟨rfl, hb1⟩
      have hbel1 := hbel.trans (hb1.mono hbel.size)
      have HN : Hid (p * 256 + sub (x / 2 ^ (24 - 8 * k) % 256) = wordP x (k + 1)) := by show _ = wordP x k * 256 + _; rw [← H.out]
      clear hbel hb1 H
      revert hor HN
      generalize sub (x / 2 ^ (24 - 8 * k) % 256) = s at hs ⊢
      intro hor HN
      go_wp2_with fail
      go_roundw
      case rel => exact ⟨k + 1, p * 256 + s, by omega, val_int (by omega), by first | rfl | go_num, HN.out, hbel1⟩
      case measure => simp [intOf]; omega
theorem awake5_c : sub 0 = 99 ∧ sub 83 = 237 ∧ back 99 = 0 ∧ word 5439571 = 1676501997 ∧ roundN 1 = 1 ∧ roundN 9 = 27 ∧ roundN 0 = 0 := by decide +kernel
set_option maxRecDepth 100000 in
set_option maxHeartbeats 1000000 in
theorem awake5 (w : World) : Calls Try.prog 49 #[] w fun e w' => e = .returned (.bool true) ∧ Below w.heap.size w w' := by
  have H := Lib.hid awake5_c
  go_enter Try.func49, Try.ntmps49
  go_wp2_with fail
  refine (sub_any 0 (by decide) _).mono ?_
  rw [H.out.1]
  rintro e w1 ⟨rfl, hb1⟩
  go_wp2_with fail
  refine (sub_any 83 (by decide) _).mono ?_
  rw [H.out.2.1]
  rintro e w2 ⟨rfl, hb2⟩
  have hb := hb1.trans (hb2.mono hb1.size)
  clear hb1 hb2
  go_wp2_with fail
  refine (back_any 99 (by decide) _).mono ?_
  rw [H.out.2.2.1]
  rintro e w3 ⟨rfl, hb3⟩
  have hb' := hb.trans (hb3.mono hb.size)
  clear hb hb3
  go_wp2_with fail
  refine (sword_any 5439571 (by decide) _).mono ?_
  rw [H.out.2.2.2.1]
  rintro e w4 ⟨rfl, hb4⟩
  have hb := hb'.trans (hb4.mono hb'.size)
  clear hb' hb4
  go_wp2_with fail
  refine (sround_any 1 _ (by decide) (by decide)).mono ?_
  rw [H.out.2.2.2.2.1]
  rintro e w5 ⟨rfl, rfl⟩
  go_wp2_with fail
  refine (sround_any 9 _ (by decide) (by decide)).mono ?_
  rw [H.out.2.2.2.2.2.1]
  rintro e w5 ⟨rfl, rfl⟩
  go_wp2_with fail
  refine (sround_any 0 _ (by decide) (by decide)).mono ?_
  rw [H.out.2.2.2.2.2.2]
  rintro e w5 ⟨rfl, rfl⟩
  go_wp2_with fail
  go_ret
  exact ⟨rfl, hb⟩
end Go.Proofs.Ytibfihjcjohadaa
