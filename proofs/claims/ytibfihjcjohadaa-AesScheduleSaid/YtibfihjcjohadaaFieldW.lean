/-
  The walks of package field: Twice, Mul, Power, Inv, Sum: what each call answers, of whatever bytes; nothing is written.
-/
import Derived.Test.YtibfihjcjohadaaProg
import Derived.Test.YtibfihjcjohadaaByt
import Derived.WalkKit
import Derived.WalkSpells
import Derived.WalkLawsBesides
import Derived.Lib.Hide
namespace Go.Proofs.Ytibfihjcjohadaa
open Go.RowKit Go.Op
open Fld (tw mul mulL tw_lt xor_lt mul_lt pw powL npow inv)

set_option maxHeartbeats 400000 in
theorem twice_any (a : Nat) (ha : a < 256) (w : World) :
    Calls Try.prog 32 #[.int .u8 (a : Int)] w fun e w' => e = .returned (.int .u8 ((tw a : Nat) : Int)) ∧ w = w' := by
  have ht := and128 ha
  by_cases h : 128 ≤ a
  · have hb : (bits .and .u8 (a : Int) 128 != 0) = true := by rw [ht]; simpa using h
    clear ht
    go_enter Try.func32, Try.ntmps32
    go_wp2
    go_ret
    refine ⟨ret_int ?_, rfl⟩
    have e := u8_xor_nat (a * 2 % 256) 27 (by omega) (by decide)
    rw [show ((27 : Nat) : Int) = 27 from rfl] at e
    have e2 : ((a * 2 % 256 : Nat) : Int) = (a : Int) * 2 % 256 := by omega
    rw [← e2, e, tw, if_neg (by omega), show a * 2 % 256 = 2 * a - 256 by omega]
  · have hb : (bits .and .u8 (a : Int) 128 != 0) = false := by rw [ht]; simpa using h
    clear ht
    go_enter Try.func32, Try.ntmps32
    go_wp2
    go_ret
    refine ⟨ret_int ?_, rfl⟩
    rw [tw, if_pos (by omega)]
    omega

theorem mulL_done (k a o : Nat) : mulL k a 0 o = o := by cases k <;> simp [mulL]
set_option maxHeartbeats 400000 in
theorem mul_any (a b : Nat) (ha : a < 256) (hb : b < 256) (w : World) :
    Calls Try.prog 30 #[.int .u8 (a : Int), .int .u8 (b : Int)] w fun e w' => e = .returned (.int .u8 ((mul a b : Nat) : Int)) ∧ w = w' := by
  go_enter Try.func30, Try.ntmps30
  go_wp2
  go_loop [0, 1, 4] (fun x y z => ∃ k p q r : Nat, x = .int .u8 (p : Int) ∧ y = .int .u8 (q : Int) ∧ z = .int .u8 (r : Int) ∧ p < 256 ∧ q < 256 ∧ r < 256 ∧ q < 2 ^ k ∧ Hid (mulL k p q r = mul a b)) (fun _ y _ => (intOf y).toNat)
  case atStart => exact ⟨8, a, b, 0, rfl, rfl, rfl, ha, hb, by decide, by omega, rfl⟩
  case round =>
    obtain ⟨k, p, q, r, rfl, rfl, rfl, hp, hq, hr, hk, H⟩ := hrel
    by_cases h0 : q = 0
    · subst h0
      go_wp2
      go_ret
      exact ⟨ret_int (by rw [← H.out, mulL_done]), rfl⟩
    · have ht := and1 hq
      have hne : ((q : Int) != 0) = true := by rw [ne0]; simpa using h0
      have hk' : ∃ k', k = k' + 1 ∧ q / 2 < 2 ^ k' := by
        cases k with
        | zero => simp at hk; omega
        | succ k => exact ⟨k, rfl, by rw [Nat.pow_succ] at hk; omega⟩
      obtain ⟨k', rfl, hk2⟩ := hk'
      clear hk
      by_cases h2 : q % 2 = 0
      · have hb2 : (bits .and .u8 (q : Int) 1 != 0) = false := by rw [ht]; simp [h2]
        have HM : Hid (mulL k' (tw p) (q / 2) r = mul a b) := by rw [← H.out]; show _ = mulL (k' + 1) p q r; rw [mulL, if_neg h0, if_pos h2]
        clear ht
        go_wp2_with (go_at_call 32; refine (twice_any p hp _).mono ?_; rintro e w' ⟨rfl, rfl⟩)
        go_round
        case rel => exact ⟨k', tw p, q / 2, r, rfl, val_int (by omega), rfl, tw_lt hp, by omega, hr, hk2, HM⟩
        case measure => simp [intOf]; omega
      · have hb2 : (bits .and .u8 (q : Int) 1 != 0) = true := by rw [ht]; simp; omega
        have HM : Hid (mulL k' (tw p) (q / 2) (r ^^^ p) = mul a b) := by rw [← H.out]; show _ = mulL (k' + 1) p q r; rw [mulL, if_neg h0, if_neg h2]
        have hx := u8_xor_nat r p hr hp
        clear ht
        go_wp2_with (go_at_call 32; refine (twice_any p hp _).mono ?_; rintro e w' ⟨rfl, rfl⟩)
        go_round
        case rel => exact ⟨k', tw p, q / 2, r ^^^ p, rfl, val_int (by omega), rfl, tw_lt hp, by omega, xor_lt hr hp, hk2, HM⟩
        case measure => simp [intOf]; omega

/-- a power, of whatever number -/
def powI (a : Nat) (n : Int) : Nat := if a = 0 ∧ n ≠ 0 then 0 else pw a (n % 255).toNat
theorem powL_done (k a o : Nat) : powL k a 0 o = o := by cases k <;> simp [powL]
theorem tmod_twice (n : Int) : (n.tmod 255 + 255).tmod 255 = n % 255 := by
  rw [Int.tmod_eq_emod, Int.tmod_eq_emod]; split <;> split <;> omega
theorem tmod_range (n : Int) : -254 ≤ n.tmod 255 ∧ n.tmod 255 ≤ 254 := by
  rw [Int.tmod_eq_emod]; split <;> omega
set_option maxHeartbeats 400000 in
theorem power_walk (a m : Nat) (n : Int) (ha : a < 256) (hm : m < 255) (w : World) (hn : n % 255 = (m : Int)) (h0 : ((a : Int) == 0) = false ∨ (((a : Int) == 0) = true ∧ (n != 0) = false)) :
    Calls Try.prog 35 #[.int .u8 (a : Int), .int .i64 n] w fun e w' => e = .returned (.int .u8 ((pw a m : Nat) : Int)) ∧ w = w' := by
  have e1 := tmod_twice n
  have hr := tmod_range n
  have e2 : IntKind.i64.wrap (n.tmod 255) = n.tmod 255 := IntWalk.i64_in _ (by omega)
  have e3 : IntKind.i64.wrap (n.tmod 255 + 255) = n.tmod 255 + 255 := IntWalk.i64_in _ (by omega)
  rw [hn] at e1
  have HN := Lib.hid hn
  clear hn
  rcases h0 with h0 | ⟨h0, h1⟩
  all_goals
    go_enter Try.func35, Try.ntmps35
    go_wp2
    go_loop [0, 1, 5] (fun x y z => ∃ k p q r : Nat, x = .int .u8 (p : Int) ∧ y = .int .i64 (q : Int) ∧ z = .int .u8 (r : Int) ∧ p < 256 ∧ q < 255 ∧ r < 256 ∧ q < 2 ^ k ∧ Hid (powL k p q r = pw a m)) (fun _ y _ => (intOf y).toNat)
    case atStart => exact ⟨8, a, m, 1, rfl, rfl, rfl, ha, hm, by decide, by omega, rfl⟩
    case round =>
      obtain ⟨k, p, q, r, rfl, rfl, rfl, hp, hq, hr, hk, H⟩ := hrel
      by_cases hq0 : q = 0
      · subst hq0
        go_wp2
        go_ret
        exact ⟨ret_int (by rw [← H.out, powL_done]), rfl⟩
      · have ht := i64_and1 (a := q) (by omega)
        have hpos : 0 < (q : Int) := by omega
        have hk' : ∃ k', k = k' + 1 ∧ q / 2 < 2 ^ k' := by
          cases k with
          | zero => simp at hk; omega
          | succ k => exact ⟨k, rfl, by rw [Nat.pow_succ] at hk; omega⟩
        obtain ⟨k', rfl, hk2⟩ := hk'
        clear hk
        by_cases h2 : q % 2 = 0
        · have hb2 : (bits .and .i64 (q : Int) 1 != 0) = false := by rw [ht]; simp [h2]
          have HM : Hid (powL k' (mul p p) (q / 2) r = pw a m) := by rw [← H.out]; show _ = powL (k' + 1) p q r; rw [powL, if_neg hq0, if_pos h2]
          clear ht
          go_wp2_with (go_at_call 30; refine (mul_any p p hp hp _).mono ?_; rintro e w' ⟨rfl, rfl⟩)
          go_round
          case rel => exact ⟨k', mul p p, q / 2, r, rfl, val_int (by omega), rfl, mul_lt hp, by omega, hr, hk2, HM⟩
          case measure => simp [intOf]; omega
        · have hb2 : (bits .and .i64 (q : Int) 1 != 0) = true := by rw [ht]; simp; omega
          have HM : Hid (powL k' (mul p p) (q / 2) (mul r p) = pw a m) := by rw [← H.out]; show _ = powL (k' + 1) p q r; rw [powL, if_neg hq0, if_neg h2]
          clear ht
          go_wp2_with fail
          refine (mul_any r p hr hp _).mono ?_
          rintro e w' ⟨rfl, rfl⟩
          go_wp2_with fail
          refine (mul_any p p hp hp _).mono ?_
          rintro e w' ⟨rfl, rfl⟩
          go_wp2_with fail
          go_round
          case rel => exact ⟨k', mul p p, q / 2, mul r p, rfl, val_int (by omega), rfl, mul_lt hp, by omega, mul_lt hr, hk2, HM⟩
          case measure => simp [intOf]; omega
set_option maxHeartbeats 400000 in
theorem power_zero (n : Int) (w : World) (h1 : (n != 0) = true) :
    Calls Try.prog 35 #[.int .u8 0, .int .i64 n] w fun e w' => e = .returned (.int .u8 0) ∧ w = w' := by
  go_enter Try.func35, Try.ntmps35
  go_wp2
  go_ret
  exact ⟨rfl, rfl⟩
theorem power_any (a : Nat) (n : Int) (ha : a < 256) (w : World) :
    Calls Try.prog 35 #[.int .u8 (a : Int), .int .i64 n] w fun e w' => e = .returned (.int .u8 ((powI a n : Nat) : Int)) ∧ w = w' := by
  by_cases h0 : a = 0 ∧ n ≠ 0
  · obtain ⟨rfl, hn⟩ := h0
    have e : powI 0 n = 0 := by unfold powI; rw [if_pos ⟨rfl, hn⟩]
    rw [e]
    exact power_zero n w (by simpa using hn)
  · have e : powI a n = pw a (n % 255).toNat := by unfold powI; rw [if_neg h0]
    rw [e]
    refine power_walk a _ n ha (by omega) w (by omega) ?_
    by_cases ha0 : a = 0
    · right
      subst ha0
      have : n = 0 := by
        rcases Classical.em (n = 0) with h | h
        · exact h
        · exact absurd ⟨rfl, h⟩ h0
      subst this
      exact ⟨rfl, rfl⟩
    · left
      rw [show ((0 : Int)) = ((0 : Nat) : Int) from rfl, eq_lit]
      simpa using ha0
theorem powI_lt {a : Nat} (ha : a < 256) (n : Int) : powI a n < 256 := by
  unfold powI; split
  · decide
  · rw [Fld.pw_eq ha (by omega)]; exact Fld.npow_lt ha _
theorem powI_inv (a : Nat) : powI a (-1) = inv a := by
  unfold powI
  split
  · rename_i h; rw [h.1]; exact (by decide +kernel : 0 = inv 0)
  · rfl
set_option maxHeartbeats 400000 in
theorem inv_any (a : Nat) (ha : a < 256) (w : World) :
    Calls Try.prog 33 #[.int .u8 (a : Int)] w fun e w' => e = .returned (.int .u8 ((inv a : Nat) : Int)) ∧ w = w' := by
  have c := fun w => power_any a (-1) ha w
  rw [powI_inv a] at c
  have C := Lib.hid c
  clear c
  go_enter Try.func33, Try.ntmps33
  go_wp2_with (go_at_call 35; refine (C.out _).mono ?_; rintro e w' ⟨rfl, rfl⟩)
  go_ret
  exact ⟨rfl, rfl⟩
set_option maxHeartbeats 400000 in
theorem sum_any (A : Option Addr) (n c : Nat) (l : List Nat) (w : World) (hl : Bytes w A n l) :
    Calls Try.prog 31 #[.slice A n c] w fun e w' => e = .returned (.int .u8 ((xsum l : Nat) : Int)) ∧ w = w' := by
  have hlen := hl.len
  have hll : Hid (l.length = n) := hl.1
  go_enter Try.func31, Try.ntmps31
  go_wp2
  go_loop [2, 7] (fun s i => ∃ k : Nat, k ≤ n ∧ i = .int .i64 (k : Int) ∧ s = .int .u8 ((xsum (l.take k) : Nat) : Int)) (fun _ i => n - (intOf i).toNat)
  case atStart => exact ⟨0, Nat.zero_le _, rfl, rfl⟩
  case round =>
    obtain ⟨k, hk, rfl, rfl⟩ := hrel
    by_cases hlt : k < n
    · obtain ⟨ad, x, rfl, _, hx, hx2, hc⟩ := hl.at_ hlt
      have hs : xsum (l.take k) < 256 := xsum_lt _ (fun y hy => hl.2.2.1 y (List.mem_of_mem_take hy))
      have he := u8_xor_nat (xsum (l.take k)) x hs hx
      have HS : Hid (xsum (l.take (k + 1)) = xsum (l.take k) ^^^ x) := by
        show _ = _
        rw [List.take_add_one, hx2]; exact xsum_snoc _ _
      clear hx2
      go_wp2
      go_round
      case rel => exact ⟨k + 1, by omega, by go_num, by rw [HS.out]⟩
      case measure => simp [intOf]; omega
    · have e : k = n := by omega
      subst e
      go_wp2
      go_ret
      exact ⟨ret_int (by rw [List.take_of_length_le (by rw [hll.out]; omega)]), rfl⟩
end Go.Proofs.Ytibfihjcjohadaa
