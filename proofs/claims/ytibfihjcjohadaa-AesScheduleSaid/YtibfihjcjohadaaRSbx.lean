/-
  The walks of the reference's Power, Round and Sub: what each call answers; nothing is written.
-/
import Derived.Test.YtibfihjcjohadaaRFld
import Derived.Deep.QuietTactic
import Derived.BigQuiet
namespace Go.Proofs.Ytibfihjcjohadaa
open Go.RowKit Go.Op
open Fld (tw mul tw_lt xor_lt mul_lt pw npow inv inv_lt)
open Sbx (sub sub_lt turn turn_lt dig digs digs_turn)
theorem digs_lt (b : Nat) : ∀ k, k ≤ 8 → digs b k < 256 := by
  have h : ∀ k, digs b k < 2 ^ k := by
    intro k
    induction k with
    | zero => show 0 < 1; decide
    | succ k ih =>
      show digs b k ||| dig b k * 2 ^ k < 2 ^ (k + 1)
      refine Nat.or_lt_two_pow (Nat.lt_trans ih (Nat.pow_lt_pow_right (by decide) (by omega))) ?_
      have hd : dig b k < 2 := Nat.mod_lt _ (by decide)
      rw [Nat.pow_succ, Nat.mul_comm]
      exact Nat.mul_lt_mul_of_pos_left hd (Nat.pow_pos (by decide))
  intro k hk
  exact Nat.lt_of_lt_of_le (h k) ((Nat.pow_le_pow_right (by decide) hk : 2 ^ k ≤ 2 ^ 8))
theorem xor_cast {x y : Int} {X Y : Nat} (hx : x = (X : Int)) (hy : y = (Y : Int)) (hX : X < 256) (hY : Y < 256) : bits .xor .u8 x y = ((X ^^^ Y : Nat) : Int) := by
  subst hx hy
  exact u8_xor_nat X Y hX hY
theorem and1_cast {x : Int} {X : Nat} (hx : x = (X : Int)) (hX : X < 256) : bits .and .u8 x 1 = ((X % 2 : Nat) : Int) := by
  subst hx
  have h := u8_and_nat X 1 hX (by decide)
  rw [show ((1 : Nat) : Int) = 1 from rfl] at h
  rw [h, Nat.and_one_is_mod]
theorem dig_step {D X0 X1 X2 X3 X4 X5 P : Nat} {y0 y1 y2 y3 y4 y5 : Int} (h0 : y0 = (X0 : Int)) (h1 : y1 = (X1 : Int)) (h2 : y2 = (X2 : Int)) (h3 : y3 = (X3 : Int)) (h4 : y4 = (X4 : Int)) (h5 : y5 = (X5 : Int))
    (hD : D < 256) (b0 : X0 < 256) (b1 : X1 < 256) (b2 : X2 < 256) (b3 : X3 < 256) (b4 : X4 < 256) (b5 : X5 < 256) (hP : P ≤ 128) :
    bits .or .u8 (D : Int) (bits .and .u8 (bits .xor .u8 (bits .xor .u8 (bits .xor .u8 (bits .xor .u8 (bits .xor .u8 y0 y1) y2) y3) y4) y5) 1 * (P : Int) % 256) = ((D ||| (X0 ^^^ X1 ^^^ X2 ^^^ X3 ^^^ X4 ^^^ X5) % 2 * P : Nat) : Int) := by
  have e1 := xor_cast h0 h1 b0 b1
  have c1 := xor_lt b0 b1
  have e2 := xor_cast e1 h2 c1 b2
  have c2 := xor_lt c1 b2
  have e3 := xor_cast e2 h3 c2 b3
  have c3 := xor_lt c2 b3
  have e4 := xor_cast e3 h4 c3 b4
  have c4 := xor_lt c3 b4
  have e5 := xor_cast e4 h5 c4 b5
  have c5 := xor_lt c4 b5
  rw [and1_cast e5 c5]
  generalize X0 ^^^ X1 ^^^ X2 ^^^ X3 ^^^ X4 ^^^ X5 = Z
  have hz : Z % 2 = 0 ∨ Z % 2 = 1 := by omega
  rcases hz with hz | hz
  · rw [hz]; simpa using u8_or_nat D 0 hD (by decide)
  · rw [hz, Nat.one_mul]
    have := u8_or_nat D P hD (by omega)
    rw [show ((1 : Nat) : Int) * (P : Int) % 256 = (P : Int) by omega]
    exact this
theorem dig_at0 {b : Nat} (hb : b < 256) : bits .or .u8 ((digs b 0 : Nat) : Int) (bits .and .u8 (bits .xor .u8 (bits .xor .u8 (bits .xor .u8 (bits .xor .u8 (bits .xor .u8 (b : Int) ((b : Int) / 16)) ((b : Int) / 32)) ((b : Int) / 64)) ((b : Int) / 128)) 99) 1 % 256) = ((digs b 1 : Nat) : Int) := by
  have d : ∀ m, b / m < 256 := fun m => Nat.lt_of_le_of_lt (Nat.div_le_self _ _) hb
  have h := dig_step (D := digs b 0) (X0 := b / 1) (X1 := b / 16) (X2 := b / 32) (X3 := b / 64) (X4 := b / 128) (X5 := 99) (P := 1) (y0 := (b : Int)) (y1 := ((b : Int) / 16)) (y2 := ((b : Int) / 32)) (y3 := ((b : Int) / 64)) (y4 := ((b : Int) / 128)) (y5 := 99) (by omega) (by omega) (by omega) (by omega) (by omega) rfl (digs_lt b _ (by decide)) (d _) (d _) (d _) (d _) (d _) (by decide) (by decide)
  rw [show ((1 : Nat) : Int) = 1 from rfl, Int.mul_one] at h
  exact h
theorem dig_at1 {b : Nat} (hb : b < 256) : bits .or .u8 ((digs b 1 : Nat) : Int) (bits .and .u8 (bits .xor .u8 (bits .xor .u8 (bits .xor .u8 (bits .xor .u8 (bits .xor .u8 ((b : Int) / 2) ((b : Int) / 32)) ((b : Int) / 64)) ((b : Int) / 128)) (b : Int)) 49) 1 * 2 % 256) = ((digs b 2 : Nat) : Int) := by
  have d : ∀ m, b / m < 256 := fun m => Nat.lt_of_le_of_lt (Nat.div_le_self _ _) hb
  have h := dig_step (D := digs b 1) (X0 := b / 2) (X1 := b / 32) (X2 := b / 64) (X3 := b / 128) (X4 := b / 1) (X5 := 49) (P := 2) (y0 := ((b : Int) / 2)) (y1 := ((b : Int) / 32)) (y2 := ((b : Int) / 64)) (y3 := ((b : Int) / 128)) (y4 := (b : Int)) (y5 := 49) (by omega) (by omega) (by omega) (by omega) (by omega) rfl (digs_lt b _ (by decide)) (d _) (d _) (d _) (d _) (d _) (by decide) (by decide)
  exact h
theorem dig_at2 {b : Nat} (hb : b < 256) : bits .or .u8 ((digs b 2 : Nat) : Int) (bits .and .u8 (bits .xor .u8 (bits .xor .u8 (bits .xor .u8 (bits .xor .u8 (bits .xor .u8 ((b : Int) / 4) ((b : Int) / 64)) ((b : Int) / 128)) (b : Int)) ((b : Int) / 2)) 24) 1 * 4 % 256) = ((digs b 3 : Nat) : Int) := by
  have d : ∀ m, b / m < 256 := fun m => Nat.lt_of_le_of_lt (Nat.div_le_self _ _) hb
  have h := dig_step (D := digs b 2) (X0 := b / 4) (X1 := b / 64) (X2 := b / 128) (X3 := b / 1) (X4 := b / 2) (X5 := 24) (P := 4) (y0 := ((b : Int) / 4)) (y1 := ((b : Int) / 64)) (y2 := ((b : Int) / 128)) (y3 := (b : Int)) (y4 := ((b : Int) / 2)) (y5 := 24) (by omega) (by omega) (by omega) (by omega) (by omega) rfl (digs_lt b _ (by decide)) (d _) (d _) (d _) (d _) (d _) (by decide) (by decide)
  exact h
theorem dig_at3 {b : Nat} (hb : b < 256) : bits .or .u8 ((digs b 3 : Nat) : Int) (bits .and .u8 (bits .xor .u8 (bits .xor .u8 (bits .xor .u8 (bits .xor .u8 (bits .xor .u8 ((b : Int) / 8) ((b : Int) / 128)) (b : Int)) ((b : Int) / 2)) ((b : Int) / 4)) 12) 1 * 8 % 256) = ((digs b 4 : Nat) : Int) := by
  have d : ∀ m, b / m < 256 := fun m => Nat.lt_of_le_of_lt (Nat.div_le_self _ _) hb
  have h := dig_step (D := digs b 3) (X0 := b / 8) (X1 := b / 128) (X2 := b / 1) (X3 := b / 2) (X4 := b / 4) (X5 := 12) (P := 8) (y0 := ((b : Int) / 8)) (y1 := ((b : Int) / 128)) (y2 := (b : Int)) (y3 := ((b : Int) / 2)) (y4 := ((b : Int) / 4)) (y5 := 12) (by omega) (by omega) (by omega) (by omega) (by omega) rfl (digs_lt b _ (by decide)) (d _) (d _) (d _) (d _) (d _) (by decide) (by decide)
  exact h
theorem dig_at4 {b : Nat} (hb : b < 256) : bits .or .u8 ((digs b 4 : Nat) : Int) (bits .and .u8 (bits .xor .u8 (bits .xor .u8 (bits .xor .u8 (bits .xor .u8 (bits .xor .u8 ((b : Int) / 16) (b : Int)) ((b : Int) / 2)) ((b : Int) / 4)) ((b : Int) / 8)) 6) 1 * 16 % 256) = ((digs b 5 : Nat) : Int) := by
  have d : ∀ m, b / m < 256 := fun m => Nat.lt_of_le_of_lt (Nat.div_le_self _ _) hb
  have h := dig_step (D := digs b 4) (X0 := b / 16) (X1 := b / 1) (X2 := b / 2) (X3 := b / 4) (X4 := b / 8) (X5 := 6) (P := 16) (y0 := ((b : Int) / 16)) (y1 := (b : Int)) (y2 := ((b : Int) / 2)) (y3 := ((b : Int) / 4)) (y4 := ((b : Int) / 8)) (y5 := 6) (by omega) (by omega) (by omega) (by omega) (by omega) rfl (digs_lt b _ (by decide)) (d _) (d _) (d _) (d _) (d _) (by decide) (by decide)
  exact h
theorem dig_at5 {b : Nat} (hb : b < 256) : bits .or .u8 ((digs b 5 : Nat) : Int) (bits .and .u8 (bits .xor .u8 (bits .xor .u8 (bits .xor .u8 (bits .xor .u8 (bits .xor .u8 ((b : Int) / 32) ((b : Int) / 2)) ((b : Int) / 4)) ((b : Int) / 8)) ((b : Int) / 16)) 3) 1 * 32 % 256) = ((digs b 6 : Nat) : Int) := by
  have d : ∀ m, b / m < 256 := fun m => Nat.lt_of_le_of_lt (Nat.div_le_self _ _) hb
  have h := dig_step (D := digs b 5) (X0 := b / 32) (X1 := b / 2) (X2 := b / 4) (X3 := b / 8) (X4 := b / 16) (X5 := 3) (P := 32) (y0 := ((b : Int) / 32)) (y1 := ((b : Int) / 2)) (y2 := ((b : Int) / 4)) (y3 := ((b : Int) / 8)) (y4 := ((b : Int) / 16)) (y5 := 3) (by omega) (by omega) (by omega) (by omega) (by omega) rfl (digs_lt b _ (by decide)) (d _) (d _) (d _) (d _) (d _) (by decide) (by decide)
  exact h
theorem dig_at6 {b : Nat} (hb : b < 256) : bits .or .u8 ((digs b 6 : Nat) : Int) (bits .and .u8 (bits .xor .u8 (bits .xor .u8 (bits .xor .u8 (bits .xor .u8 (bits .xor .u8 ((b : Int) / 64) ((b : Int) / 4)) ((b : Int) / 8)) ((b : Int) / 16)) ((b : Int) / 32)) 1) 1 * 64 % 256) = ((digs b 7 : Nat) : Int) := by
  have d : ∀ m, b / m < 256 := fun m => Nat.lt_of_le_of_lt (Nat.div_le_self _ _) hb
  have h := dig_step (D := digs b 6) (X0 := b / 64) (X1 := b / 4) (X2 := b / 8) (X3 := b / 16) (X4 := b / 32) (X5 := 1) (P := 64) (y0 := ((b : Int) / 64)) (y1 := ((b : Int) / 4)) (y2 := ((b : Int) / 8)) (y3 := ((b : Int) / 16)) (y4 := ((b : Int) / 32)) (y5 := 1) (by omega) (by omega) (by omega) (by omega) (by omega) rfl (digs_lt b _ (by decide)) (d _) (d _) (d _) (d _) (d _) (by decide) (by decide)
  exact h
theorem dig_at7 {b : Nat} (hb : b < 256) : bits .or .u8 ((digs b 7 : Nat) : Int) (bits .and .u8 (bits .xor .u8 (bits .xor .u8 (bits .xor .u8 (bits .xor .u8 (bits .xor .u8 ((b : Int) / 128) ((b : Int) / 8)) ((b : Int) / 16)) ((b : Int) / 32)) ((b : Int) / 64)) 0) 1 * 128 % 256) = ((digs b 8 : Nat) : Int) := by
  have d : ∀ m, b / m < 256 := fun m => Nat.lt_of_le_of_lt (Nat.div_le_self _ _) hb
  have h := dig_step (D := digs b 7) (X0 := b / 128) (X1 := b / 8) (X2 := b / 16) (X3 := b / 32) (X4 := b / 64) (X5 := 0) (P := 128) (y0 := ((b : Int) / 128)) (y1 := ((b : Int) / 8)) (y2 := ((b : Int) / 16)) (y3 := ((b : Int) / 32)) (y4 := ((b : Int) / 64)) (y5 := 0) (by omega) (by omega) (by omega) (by omega) (by omega) rfl (digs_lt b _ (by decide)) (d _) (d _) (d _) (d _) (d _) (by decide) (by decide)
  exact h
set_option maxRecDepth 100000 in
set_option maxHeartbeats 1000000 in
theorem rpower_any (a N : Nat) (ha : a < 256) (h0 : ((a : Int) == 0) = false) (hN : N < 255) (w : World) :
    Calls Try.prog 80 #[.int .u8 (a : Int), .int .i64 (N : Int)] w fun e w' => e = .returned (.int .u8 ((npow a N : Nat) : Int)) ∧ w = w' := by
  have hm : (N : Int) % 255 = (N : Int) := by omega
  go_enter Try.func80, Try.ntmps80
  go_wp2_with fail
  go_loop [5, 6] (fun r i => ∃ (k : Nat), k ≤ N ∧ i = .int .i64 (k : Int) ∧ r = .int .u8 ((npow a k : Nat) : Int)) (fun _ i => N - (intOf i).toNat)
  case atStart => exact ⟨0, by omega, rfl, rfl⟩
  case round =>
    obtain ⟨k, hk, rfl, rfl⟩ := hrel
    have hp := Fld.npow_lt ha k
    have HS : Box (npow a (k + 1) = mul (npow a k) a) := ⟨rfl⟩
    by_cases hlt : k < N
    · go_wp2_with fail
      refine (rmul_any (npow a k) a hp ha _).mono ?_
      rw [← HS.out]
      rintro e w' ⟨rfl, rfl⟩
      go_wp2_with fail
      go_round
      case rel => exact ⟨k + 1, by omega, by go_num, rfl⟩
      case measure => simp [intOf]; omega
    · obtain rfl : k = N := by omega
      go_wp2_with fail
      go_ret
      exact ⟨rfl, rfl⟩
set_option maxRecDepth 100000 in
set_option maxHeartbeats 400000 in
theorem rround_any (n : Int) (w : World) (hn : -9223372036854775808 ≤ n) (hn2 : n ≤ 9223372036854775807) :
    Calls Try.prog 57 #[.int .i64 n] w fun e w' => e = .returned (.int .u8 ((roundN n : Nat) : Int)) ∧ w = w' := by
  by_cases h : n < 1
  · have e : roundN n = 0 := by unfold roundN; rw [if_pos h]
    rw [e]
    clear e
    go_enter Try.func57, Try.ntmps57
    go_wp2_with fail
    go_ret
    exact ⟨rfl, rfl⟩
  · obtain ⟨m, hm⟩ := Int.eq_ofNat_of_zero_le (show 0 ≤ n - 1 by omega)
    have e1 : n = (m : Int) + 1 := by omega
    subst e1
    have e : npow 2 (m % 255) = roundN ((m : Int) + 1) := by
      unfold roundN
      rw [if_neg h]
      unfold powI
      rw [if_neg (by omega), show ((m : Int) + 1 - 1) = (m : Int) by omega, show ((m : Int) % 255).toNat = m % 255 by omega, Fld.pw_eq (by decide) (by omega)]
    have E := Box.mk e
    have hm9 : (m : Int) ≤ 9223372036854775806 := by omega
    clear e hm h hn hn2
    go_enter Try.func57, Try.ntmps57
    go_wp2_with fail
    rw [show (m : Int) % 255 = ((m % 255 : Nat) : Int) by omega]
    refine (rpower_any 2 (m % 255) (by decide) (by decide) (Nat.mod_lt _ (by decide)) _).mono ?_
    rw [E.out]
    rintro e w' ⟨rfl, rfl⟩
    go_wp2_with fail
    go_ret
    exact ⟨rfl, rfl⟩
set_option maxRecDepth 100000 in
set_option maxHeartbeats 4000000 in
theorem rsub_any (a : Nat) (ha : a < 256) (w : World) :
    Calls Try.prog 52 #[.int .u8 (a : Int)] w fun e w' => e = .returned (.int .u8 ((sub a : Nat) : Int)) ∧ ∃ n, w' = w.drewN n := by
  have hb := inv_lt ha
  have HI : Box (∀ w, Calls Try.prog 78 #[.int .u8 (a : Int)] w fun e w' => e = .returned (.int .u8 ((inv a : Nat) : Int)) ∧ w = w') := ⟨rinv_any a ha⟩
  have HS : Box (sub a = turn (inv a)) := ⟨rfl⟩
  rw [HS.out]
  clear HS
  revert HI hb
  generalize inv a = b
  intro hb HI
  go_enter Try.func52, Try.ntmps52
  go_wp2_with fail
  refine (HI.out _).mono ?_
  rintro e w' ⟨rfl, rfl⟩
  go_wp2_with fail
  go_loopw [4, 5] (fun r i wr => ∃ (k n : Nat), k ≤ 8 ∧ i = .int .i64 (k : Int) ∧ r = .int .u8 ((digs b k : Nat) : Int) ∧ wr = w.drewN n) (fun _ i _ => 8 - (intOf i).toNat)
  case atStart => exact ⟨0, 0, by omega, rfl, rfl, rfl⟩
  case round =>
    obtain ⟨k, n, hk, rfl, rfl, rfl⟩ := hrel
    have h8 : k = 0 ∨ k = 1 ∨ k = 2 ∨ k = 3 ∨ k = 4 ∨ k = 5 ∨ k = 6 ∨ k = 7 ∨ k = 8 := by omega
    clear hk HI
    rcases h8 with rfl | rfl | rfl | rfl | rfl | rfl | rfl | rfl | rfl
    · go_wp2_with fail
      go_quiet (fail)
      go_wp2_with fail
      go_roundw
      case rel => exact ⟨1, _, by omega, rfl, val_int (dig_at0 hb), rfl⟩
      case measure => simp [intOf]
    · go_wp2_with fail
      go_quiet (fail)
      go_wp2_with fail
      go_roundw
      case rel => exact ⟨2, _, by omega, rfl, val_int (dig_at1 hb), rfl⟩
      case measure => simp [intOf]
    · go_wp2_with fail
      go_quiet (fail)
      go_wp2_with fail
      go_roundw
      case rel => exact ⟨3, _, by omega, rfl, val_int (dig_at2 hb), rfl⟩
      case measure => simp [intOf]
    · go_wp2_with fail
      go_quiet (fail)
      go_wp2_with fail
      go_roundw
      case rel => exact ⟨4, _, by omega, rfl, val_int (dig_at3 hb), rfl⟩
      case measure => simp [intOf]
    · go_wp2_with fail
      go_quiet (fail)
      go_wp2_with fail
      go_roundw
      case rel => exact ⟨5, _, by omega, rfl, val_int (dig_at4 hb), rfl⟩
      case measure => simp [intOf]
    · go_wp2_with fail
      go_quiet (fail)
      go_wp2_with fail
      go_roundw
      case rel => exact ⟨6, _, by omega, rfl, val_int (dig_at5 hb), rfl⟩
      case measure => simp [intOf]
    · go_wp2_with fail
      go_quiet (fail)
      go_wp2_with fail
      go_roundw
      case rel => exact ⟨7, _, by omega, rfl, val_int (dig_at6 hb), rfl⟩
      case measure => simp [intOf]
    · go_wp2_with fail
      go_quiet (fail)
      go_wp2_with fail
      go_roundw
      case rel => exact ⟨8, _, by omega, rfl, val_int (dig_at7 hb), rfl⟩
      case measure => simp [intOf]
    · go_wp2_with fail
      go_ret
      exact ⟨ret_int (by rw [digs_turn hb]), n, rfl⟩
end Go.Proofs.Ytibfihjcjohadaa
