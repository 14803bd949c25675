/-
  The walks of the reference's Mul, Inv, Power, Round: what each call answers; nothing is written.
-/
import Derived.Test.YtibfihjcjohadaaSbxV
import Derived.Test.YtibfihjcjohadaaBase
namespace Go.Proofs.Ytibfihjcjohadaa
open Go.RowKit Go.Op
open Fld (tw mul tw_lt xor_lt mul_lt pw npow inv inv_lt)
/-- a product digit by digit, the highest first -/
def rmP (a b : Nat) : Nat → Nat
  | 0 => 0
  | c + 1 => tw (rmP a b c) ^^^ (if b / 2 ^ (7 - c) % 2 = 1 then a else 0)
theorem rmP_lt {a b : Nat} (ha : a < 256) : ∀ c, rmP a b c < 256
  | 0 => by show 0 < 256; decide
  | c + 1 => by
    refine xor_lt (tw_lt (rmP_lt ha c)) ?_
    split <;> omega
theorem rmP_xor {a d b : Nat} (ha : a < 256) (hd : d < 256) : ∀ c, rmP (a ^^^ d) b c = rmP a b c ^^^ rmP d b c
  | 0 => by show 0 = 0 ^^^ 0; rfl
  | c + 1 => by
    show tw (rmP (a ^^^ d) b c) ^^^ _ = tw (rmP a b c) ^^^ _ ^^^ (tw (rmP d b c) ^^^ _)
    rw [rmP_xor ha hd c, Fld.tw_xor (rmP_lt ha c) (rmP_lt hd c)]
    split
    · ac_rfl
    · simp
theorem rmP_mul {a b : Nat} (ha : a < 256) (hb : b < 256) : rmP a b 8 = mul a b := by
  refine Fld.byDigits (p := fun a => rmP a b 8 = mul a b) ?_ (fun x y hx hy h1 h2 => ?_) (fun i hi => ?_) ha
  · rw [Fld.zero_mul hb]
    exact eq_of_beq (Fld.all256 (p := fun b => rmP 0 b 8 == 0) (by decide +kernel) hb)
  · show rmP (x ^^^ y) b 8 = _
    rw [rmP_xor hx hy, h1, h2, Fld.mul_xor_left b hx hy]
  · exact eq_of_beq (Fld.all256 (p := fun b => rmP (2 ^ i) b 8 == mul (2 ^ i) b) (Fld.all8 (p := fun i => (List.range 256).all fun b => rmP (2 ^ i) b 8 == mul (2 ^ i) b) (by decide +kernel) hi) hb)
theorem tw_high {r : Nat} (h : r < 256) (h2 : 128 ≤ r) : 2 * r ^^^ 283 = tw r := by
  rw [Fld.tw_form h, show r / 128 = 1 by omega, Nat.one_mul]
theorem tw_low {r : Nat} (h2 : r < 128) : tw r = 2 * r := by unfold tw; rw [if_pos h2]
theorem shr_and1 {b m : Nat} (hb : b < 256) : (bits .and .u8 ((b : Int) / 2 ^ m) 1 == 1) = decide (b / 2 ^ m % 2 = 1) := by
  have hx : b / 2 ^ m < 256 := Nat.lt_of_le_of_lt (Nat.div_le_self _ _) hb
  have h := u8_and_nat (b / 2 ^ m) 1 hx (by decide)
  rw [show ((1 : Nat) : Int) = 1 from rfl] at h
  rw [show (b : Int) / 2 ^ m = ((b / 2 ^ m : Nat) : Int) by rw [Int.natCast_ediv, Int.natCast_pow]; rfl, h, show (1 : Int) = ((1 : Nat) : Int) from rfl, eq_lit]
  exact eq_of_beq (Fld.all256 (p := fun a => ((a &&& 1 == 1) == decide (a % 2 = 1))) (by decide +kernel) hx)
set_option maxRecDepth 100000 in
set_option maxHeartbeats 1000000 in
theorem rmul_walk (a b : Nat) (ha : a < 256) (hb : b < 256) (w : World) :
    Calls Try.prog 76 #[.int .u8 (a : Int), .int .u8 (b : Int)] w fun e w' => e = .returned (.int .u8 ((rmP a b 8 : Nat) : Int)) ∧ w = w' := by
  go_enter Try.func76, Try.ntmps76
  go_wp2_with fail
  go_loop [5, 6] (fun r i => ∃ (k p : Nat), k ≤ 8 ∧ i = .int .i64 (7 - (k : Int)) ∧ r = .int .i64 (p : Int) ∧ p < 256 ∧ Box (p = rmP a b k)) (fun _ i => (intOf i + 1).toNat)
  case atStart => exact ⟨0, 0, by omega, rfl, rfl, by decide, ⟨rfl⟩⟩
  case round =>
    obtain ⟨k, p, hk, rfl, rfl, hp, H⟩ := hrel
    by_cases h8 : k = 8
    · subst h8
      have e := H.out
      subst e
      rw [show (7 - ((8 : Nat) : Int)) = -1 from rfl]
      go_wp2_with fail
      go_ret
      exact ⟨ret_int (by omega), rfl⟩
    · obtain ⟨m, hm⟩ : ∃ m, 7 - k = m := ⟨_, rfl⟩
      rw [show (7 - (k : Int)) = (m : Int) by omega]
      have hm7 : m ≤ 7 := by omega
      have hk7 : k ≤ 7 := by omega
      have HM := Box.mk hm
      clear hm h8
      have hbit := shr_and1 (m := m) hb
      by_cases h128 : p < 128
      · have HT := Box.mk (tw_low h128)
        by_cases hbt : b / 2 ^ m % 2 = 1
        · have ht : (bits .and .u8 ((b : Int) / 2 ^ m) 1 == 1) = true := by rw [hbit]; simpa using hbt
          have hx := i64_xor_nat (p * 2) a (by omega) (by omega)
          have hx' : bits .xor .i64 ((p : Int) * 2) (a : Int) = (((p * 2) ^^^ a : Nat) : Int) := by rw [show (p : Int) * 2 = ((p * 2 : Nat) : Int) by omega]; exact hx
          have HB := Box.mk hbt
          clear hbit hbt hx
          go_wp2_with fail
          go_round
          case rel =>
            refine ⟨k + 1, (p * 2) ^^^ a, by have := HM.out; omega, val_int (by have := HM.out; omega), rfl, xor_lt (by omega) ha, ⟨?_⟩⟩
            show _ = tw (rmP a b k) ^^^ _
            rw [← H.out, HT.out, HM.out, if_pos HB.out, Nat.mul_comm]
          case measure => simp [intOf]
        · have ht : (bits .and .u8 ((b : Int) / 2 ^ m) 1 == 1) = false := by rw [hbit]; simpa using hbt
          have HB := Box.mk hbt
          clear hbit hbt
          go_wp2_with fail
          go_round
          case rel =>
            refine ⟨k + 1, p * 2, by have := HM.out; omega, val_int (by have := HM.out; omega), by first | rfl | go_num, by omega, ⟨?_⟩⟩
            show _ = tw (rmP a b k) ^^^ _
            rw [← H.out, HT.out, HM.out, if_neg HB.out, Nat.mul_comm, Nat.xor_zero]
          case measure => simp [intOf]
      · have h128' : 128 ≤ p := by omega
        have HT := Box.mk (tw_high hp h128')
        have hx := i64_xor_nat (p * 2) 283 (by omega) (by omega)
        rw [show ((283 : Nat) : Int) = 283 from rfl] at hx
        have hx' : bits .xor .i64 ((p : Int) * 2) 283 = ((tw p : Nat) : Int) := by rw [show (p : Int) * 2 = ((p * 2 : Nat) : Int) by omega, hx, Nat.mul_comm, HT.out]
        have htl := tw_lt hp
        clear hx h128
        by_cases hbt : b / 2 ^ m % 2 = 1
        · have ht : (bits .and .u8 ((b : Int) / 2 ^ m) 1 == 1) = true := by rw [hbit]; simpa using hbt
          have hx2 := i64_xor_nat (tw p) a (by omega) (by omega)
          have HB := Box.mk hbt
          clear hbit hbt
          go_wp2_with fail
          go_round
          case rel =>
            refine ⟨k + 1, tw p ^^^ a, by have := HM.out; omega, val_int (by have := HM.out; omega), rfl, xor_lt htl ha, ⟨?_⟩⟩
            show _ = tw (rmP a b k) ^^^ _
            rw [← H.out, HM.out, if_pos HB.out]
          case measure => simp [intOf]
        · have ht : (bits .and .u8 ((b : Int) / 2 ^ m) 1 == 1) = false := by rw [hbit]; simpa using hbt
          have HB := Box.mk hbt
          clear hbit hbt
          go_wp2_with fail
          go_round
          case rel =>
            refine ⟨k + 1, tw p, by have := HM.out; omega, val_int (by have := HM.out; omega), rfl, htl, ⟨?_⟩⟩
            show _ = tw (rmP a b k) ^^^ _
            rw [← H.out, HM.out, if_neg HB.out, Nat.xor_zero]
          case measure => simp [intOf]
theorem rmul_any (a b : Nat) (ha : a < 256) (hb : b < 256) (w : World) :
    Calls Try.prog 76 #[.int .u8 (a : Int), .int .u8 (b : Int)] w fun e w' => e = .returned (.int .u8 ((mul a b : Nat) : Int)) ∧ w = w' := by
  rw [← rmP_mul ha hb]
  exact rmul_walk a b ha hb w
theorem inv_unique {a k : Nat} (ha : a < 256) (hk : k < 256) (h : mul a k = 1) : k = inv a := by
  have h0 : a ≠ 0 := by
    rintro rfl
    rw [Fld.zero_mul hk] at h; omega
  have e : mul (inv a) (mul a k) = k := by rw [← Fld.mul_assoc (inv_lt ha) ha hk, Fld.mul_comm (inv_lt ha) ha, Fld.mul_inv ha h0, Fld.one_mul hk]
  rw [h, Fld.mul_one] at e
  exact e.symm
theorem inv_zero : inv 0 = 0 := by decide +kernel
theorem inv_none {a : Nat} (ha : a < 256) (h : ∀ j, 1 ≤ j → j < 256 → mul a j ≠ 1) : 0 = inv a := by
  by_cases h0 : a = 0
  · rw [h0, inv_zero]
  · exfalso
    have h1 := Fld.mul_inv ha h0
    have hi := inv_lt ha
    refine h (inv a) ?_ hi h1
    rcases Nat.eq_zero_or_pos (inv a) with e | e
    · rw [e, Fld.mul_zero] at h1; omega
    · exact e
set_option maxRecDepth 100000 in
set_option maxHeartbeats 1000000 in
theorem rinv_any (a : Nat) (ha : a < 256) (w : World) :
    Calls Try.prog 78 #[.int .u8 (a : Int)] w fun e w' => e = .returned (.int .u8 ((inv a : Nat) : Int)) ∧ w = w' := by
  go_enter Try.func78, Try.ntmps78
  go_wp2_with fail
  go_loop [3] (fun i => ∃ (k : Nat), 1 ≤ k ∧ k ≤ 256 ∧ i = .int .i64 (k : Int) ∧ Box (∀ j, 1 ≤ j → j < k → mul a j ≠ 1)) (fun i => 256 - (intOf i).toNat)
  case atStart => exact ⟨1, by omega, by omega, rfl, ⟨fun j h1 h2 => by omega⟩⟩
  case round =>
    obtain ⟨k, h1, hk, rfl, H⟩ := hrel
    by_cases h256 : k = 256
    · subst h256
      have HN := Box.mk (inv_none ha H.out)
      go_wp2_with fail
      go_ret
      exact ⟨ret_int (by rw [← HN.out]; rfl), rfl⟩
    · have hk2 : k < 256 := by omega
      clear h256
      by_cases hm : mul a k = 1
      · have HU := Box.mk (inv_unique ha hk2 hm)
        have ht : (((mul a k : Nat) : Int) == 1) = true := by rw [hm]; rfl
        have hl := mul_lt (b := k) ha
        clear hm
        go_wp2_with fail
        refine (rmul_any a k ha hk2 _).mono ?_
        rintro e w' ⟨rfl, rfl⟩
        go_wp2_with fail
        go_ret
        exact ⟨ret_int (by rw [← HU.out]), rfl⟩
      · have ht : (((mul a k : Nat) : Int) == 1) = false := by rw [show (1 : Int) = ((1 : Nat) : Int) from rfl, eq_lit]; simpa using hm
        have HM := Box.mk hm
        clear hm
        go_wp2_with fail
        refine (rmul_any a k ha hk2 _).mono ?_
        rintro e w' ⟨rfl, rfl⟩
        go_wp2_with fail
        go_round
        case rel =>
          refine ⟨k + 1, by omega, by omega, by go_num, ⟨fun j j1 j2 => ?_⟩⟩
          by_cases e : j = k
          · subst e; exact HM.out
          · exact H.out j j1 (by omega)
        case measure => simp [intOf]; omega
end Go.Proofs.Ytibfihjcjohadaa
