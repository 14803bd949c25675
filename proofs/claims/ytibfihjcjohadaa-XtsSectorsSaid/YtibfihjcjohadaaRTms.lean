/-
  The walks of prioryref4.Double, Halve, Times and Number by a block's number: of any block below 2^128. Nothing that was there is written.
-/
import Derived.Test.YtibfihjcjohadaaRHlv
import Derived.Test.YtibfihjcjohadaaRDbl
namespace Go.Proofs.Ytibfihjcjohadaa
open Go.RowKit Go.Op
open Twk (byt dbl hlv tm byt_lt dbl_lt hlv_lt tm_lt up down)
theorem rdouble_any (n : Nat) (hn : n < 2 ^ 128) (w : World) :
    Calls Try.prog 40 #[.agg (blk n)] w fun e w' => e = .returned (.agg (blk (dbl n))) ∧ Below w.heap.size w w' := by
  have h := rdouble_walk (byt n) (byt_lt n) w
  rw [bv_congr (fun i hi => Twk.dblF_byt hn hi)] at h
  exact h
theorem rhalve_any (n : Nat) (hn : n < 2 ^ 128) (w : World) :
    Calls Try.prog 42 #[.agg (blk n)] w fun e w' => e = .returned (.agg (blk (hlv n))) ∧ Below w.heap.size w w' := by
  have h := rhalve_walk (byt n) (byt_lt n) w
  rw [bv_congr (fun i hi => Twk.hlvF_byt hn hi)] at h
  exact h
abbrev two16 (w : World) (b : Nat) : World := (w.alloc (.cells (blk b) 36)).alloc zero16
theorem two_here (w : World) (b : Nat) : Arr (two16 w b) w.heap.size (byt b) := (Arr.new _ _ _ rfl).alloc _
theorem two_zero (w : World) (b : Nat) : Arr (two16 w b) (w.heap.size + 1) (fun _ => 0) := Arr.zero _ _ (by simp)
theorem two_below (w : World) (b : Nat) : Below w.heap.size w (two16 w b) := ((Below.refl _ _).alloc (Nat.le_refl _) _).alloc (by simp) _
set_option maxRecDepth 100000 in
set_option maxHeartbeats 400000 in
theorem rtimes_far (b : Nat) (n : Int) (h : n < -1000 ∨ 1000 < n) (w : World) :
    Calls Try.prog 44 #[.agg (blk b), .int .i64 n] w fun e w' => e = .returned (.agg (blk b)) ∧ Below w.heap.size w w' := by
  have ha := two_here w b
  have hz := two_zero w b
  have hb := two_below w b
  unfold two16 at ha hz hb
  rcases h with h | h
  all_goals
    try (have h' : -1000 ≤ n := by omega)
    go_enter Try.func44, Try.ntmps44
    go_wp2_with (first
      | ((with_reducible show wpList _ _ _ _ _ _); refine wp_load_arr rfl (.tmp 2) rfl w.heap.size (byt b) rfl ha ?_)
      | ((with_reducible show wpList _ _ _ _ _ _); refine wp_store_arr rfl (.tmp 4) (.tmp 13) rfl (w.heap.size + 1) (fun _ => 0) (byt b) rfl rfl hz ?_))
    exact bodyPost_ret (results_arr rfl _ _ (w.heap.size + 1) (byt b) rfl hz.setRow) rfl ⟨rfl, below_setRow hb (by omega) _⟩
set_option maxRecDepth 100000 in
set_option maxHeartbeats 1000000 in
theorem rtimes_up (b : Nat) (N : Nat) (hb : b < 2 ^ 128) (hN : N ≤ 1000) (w : World) :
    Calls Try.prog 44 #[.agg (blk b), .int .i64 (N : Int)] w fun e w' => e = .returned (.agg (blk (up b N))) ∧ Below w.heap.size w w' := by
  go_enter Try.func44, Try.ntmps44
  go_wp2_with fail
  go_loopw [5] (fun i wr => ∃ (k c : Nat), k ≤ N ∧ i = .int .i64 (k : Int) ∧ c < 2 ^ 128 ∧ Hid (c = up b k) ∧ Arr wr w.heap.size (byt c) ∧ Arr wr (w.heap.size + 1) (fun _ => 0) ∧ Below w.heap.size w wr ∧ w.heap.size + 2 ≤ wr.heap.size) (fun i _ => (N - (intOf i).toNat))
  case atStart => exact ⟨0, b, by omega, rfl, hb, rfl, (Arr.new _ _ _ rfl).alloc _, Arr.zero _ _ (by simp), ((Below.refl _ _).alloc (Nat.le_refl _) _).alloc (by simp) _, by simp⟩
  case round =>
    obtain ⟨k, c, hk, rfl, hc, H, ha, hz, hbel, hsz⟩ := hrel
    by_cases h0 : k = N
    · subst h0
      have e : c = up b k := H.out
      rw [e] at ha
      clear e H
      go_wp2_with fail
      go_loopw [6] (fun i wr2 => i = .int .i64 0 ∧ wr2 = wr) (fun _ _ => 0)
      case atStart => exact ⟨rfl, rfl⟩
      case round =>
        obtain ⟨rfl, rfl⟩ := hrel
        go_wp2_with (first
          | ((with_reducible show wpList _ _ _ _ _ _); refine wp_load_arr rfl (.tmp 2) rfl w.heap.size (byt (up b k)) rfl ha ?_)
          | ((with_reducible show wpList _ _ _ _ _ _); refine wp_store_arr rfl (.tmp 4) (.tmp 28) rfl (w.heap.size + 1) (fun _ => 0) (byt (up b k)) rfl rfl hz ?_))
        exact bodyPost_ret (results_arr rfl _ _ (w.heap.size + 1) (byt (up b k)) rfl hz.setRow) rfl ⟨rfl, below_setRow hbel (by omega) _⟩
    · have hlt : k < N := by omega
      clear h0
      have H2 : Hid (dbl c = up b (k + 1)) := by show _ = dbl (up b k); rw [← H.out]
      clear H
      go_wp2_with ((with_reducible show wpList _ _ _ _ _ _); refine wp_load_arr rfl (.tmp 2) rfl w.heap.size (byt c) rfl ha ?_)
      refine (rdouble_any c hc _).mono ?_
      rintro e w1 ⟨rfl, hb1⟩
      have ha1 := ha.below hb1 (by omega)
      have hz1 := hz.below hb1 (by omega)
      have hbel1 := hbel.trans (hb1.mono (by omega))
      have hs1 := hb1.size
      clear ha hz hbel
      go_wp2_with ((with_reducible show wpList _ _ _ _ _ _); refine wp_store_arr rfl (.tmp 2) (.tmp 20) rfl w.heap.size (byt c) (byt (dbl c)) rfl rfl ha1 ?_)
      go_roundw
      case rel => exact ⟨k + 1, dbl c, by omega, by go_num, dbl_lt hc, H2, ha1.setRow, hz1.setRow_far (by omega), below_setRow hbel1 (by omega) _, by simp [World.setRow]; omega⟩
      case measure => simp [intOf]; omega
set_option maxRecDepth 100000 in
set_option maxHeartbeats 1000000 in
theorem rtimes_down (b : Nat) (N : Nat) (hb : b < 2 ^ 128) (hN : N ≤ 1000) (h0 : 0 < N) (w : World) :
    Calls Try.prog 44 #[.agg (blk b), .int .i64 (-(N : Int))] w fun e w' => e = .returned (.agg (blk (down b N))) ∧ Below w.heap.size w w' := by
  go_enter Try.func44, Try.ntmps44
  go_wp2_with fail
  go_loopw [5] (fun i wr => i = .int .i64 0 ∧ Arr wr w.heap.size (byt b) ∧ Arr wr (w.heap.size + 1) (fun _ => 0) ∧ Below w.heap.size w wr ∧ w.heap.size + 2 ≤ wr.heap.size) (fun _ _ => 0)
  case atStart => exact ⟨rfl, (Arr.new _ _ _ rfl).alloc _, Arr.zero _ _ (by simp), ((Below.refl _ _).alloc (Nat.le_refl _) _).alloc (by simp) _, by simp⟩
  case round =>
    obtain ⟨rfl, ha0, hz0, hbel0, hsz0⟩ := hrel
    go_wp2_with fail
    go_loopw [6] (fun i wr => ∃ (k c : Nat), k ≤ N ∧ i = .int .i64 (-(k : Int)) ∧ c < 2 ^ 128 ∧ Hid (c = down b k) ∧ Arr wr w.heap.size (byt c) ∧ Arr wr (w.heap.size + 1) (fun _ => 0) ∧ Below w.heap.size w wr ∧ w.heap.size + 2 ≤ wr.heap.size) (fun i _ => (intOf i + N).toNat)
    case atStart => exact ⟨0, b, by omega, rfl, hb, rfl, ha0, hz0, hbel0, hsz0⟩
    case round =>
      obtain ⟨k, c, hk, rfl, hc, H, ha, hz, hbel, hsz⟩ := hrel
      clear ha0 hz0 hbel0 hsz0
      by_cases h0 : k = N
      · subst h0
        have e : c = down b k := H.out
        rw [e] at ha
        clear e H
        go_wp2_with (first
          | ((with_reducible show wpList _ _ _ _ _ _); refine wp_load_arr rfl (.tmp 2) rfl w.heap.size (byt (down b k)) rfl ha ?_)
          | ((with_reducible show wpList _ _ _ _ _ _); refine wp_store_arr rfl (.tmp 4) (.tmp 28) rfl (w.heap.size + 1) (fun _ => 0) (byt (down b k)) rfl rfl hz ?_))
        exact bodyPost_ret (results_arr rfl _ _ (w.heap.size + 1) (byt (down b k)) rfl hz.setRow) rfl ⟨rfl, below_setRow hbel (by omega) _⟩
      · have hlt : -(N : Int) < -(k : Int) := by omega
        have H2 : Hid (hlv c = down b (k + 1)) := by show _ = hlv (down b k); rw [← H.out]
        clear H
        go_wp2_with ((with_reducible show wpList _ _ _ _ _ _); refine wp_load_arr rfl (.tmp 2) rfl w.heap.size (byt c) rfl ha ?_)
        refine (rhalve_any c hc _).mono ?_
        rintro e w1 ⟨rfl, hb1⟩
        have ha1 := ha.below hb1 (by omega)
        have hz1 := hz.below hb1 (by omega)
        have hbel1 := hbel.trans (hb1.mono (by omega))
        have hs1 := hb1.size
        clear ha hz hbel
        go_wp2_with ((with_reducible show wpList _ _ _ _ _ _); refine wp_store_arr rfl (.tmp 2) (.tmp 27) rfl w.heap.size (byt c) (byt (hlv c)) rfl rfl ha1 ?_)
        go_roundw
        case rel => exact ⟨k + 1, hlv c, by omega, val_int (by omega), hlv_lt hc, H2, ha1.setRow, hz1.setRow_far (by omega), below_setRow hbel1 (by omega) _, by simp [World.setRow]; omega⟩
        case measure => simp [intOf]; omega
theorem rtimes_any (b : Nat) (n : Int) (hb : b < 2 ^ 128) (w : World) :
    Calls Try.prog 44 #[.agg (blk b), .int .i64 n] w fun e w' => e = .returned (.agg (blk (timesB b n))) ∧ Below w.heap.size w w' := by
  unfold timesB
  by_cases h : n < -1000 ∨ 1000 < n
  · rw [if_pos h]; exact rtimes_far b n h w
  · rw [if_neg h]
    unfold tm
    by_cases h0 : 0 ≤ n
    · rw [if_pos h0]
      obtain ⟨N, rfl⟩ := Int.eq_ofNat_of_zero_le h0
      exact rtimes_up b N hb (by omega) w
    · rw [if_neg h0]
      obtain ⟨N, hN⟩ := Int.eq_ofNat_of_zero_le (show 0 ≤ -n by omega)
      have e : n = -(N : Int) := by omega
      subst e
      rw [show (-(-(N : Int))).toNat = N by omega]
      exact rtimes_down b N hb (by omega) (by omega) w
theorem byt_up {N k : Nat} (hN : N < 9223372036854775808) (hk : 8 ≤ k) : byt N k = 0 := by
  unfold byt
  have : N / 256 ^ k = 0 := by
    apply Nat.div_eq_of_lt
    have : 256 ^ 8 ≤ 256 ^ k := Nat.pow_le_pow_right (by decide) hk
    have h8 : (256 : Nat) ^ 8 = 18446744073709551616 := by decide
    omega
  rw [this]
theorem shift_byt (N k : Nat) : (((N : Int) / 2 ^ (8 * k)) % 256) = ((byt N k : Nat) : Int) := by
  unfold byt
  rw [show (256 : Nat) ^ k = 2 ^ (8 * k) by rw [Nat.pow_mul], Int.natCast_emod, Int.natCast_ediv, Int.natCast_pow]
  rfl
set_option maxRecDepth 100000 in
set_option maxHeartbeats 1000000 in
theorem rnumber_nat (N : Nat) (hN : N < 9223372036854775808) (w : World) :
    Calls Try.prog 46 #[.int .i64 (N : Int)] w fun e w' => e = .returned (.agg (blk N)) ∧ Below w.heap.size w w' := by
  have HNN := Lib.hid hN
  clear hN
  go_enter Try.func46, Try.ntmps46
  go_wp2_with fail
  go_loopw [4] (fun i wr => ∃ (k : Nat) (h : Nat → Nat), i = .int .i64 (k : Int) ∧ k ≤ 8 ∧ Hid (∀ j, h j = if j < k then byt N j else 0) ∧ Arr wr w.heap.size (fun _ => 0) ∧ Arr wr (w.heap.size + 1) h ∧ Below w.heap.size w wr) (fun i _ => 8 - (intOf i).toNat)
  case atStart => exact ⟨0, _, rfl, by omega, Lib.hid (fun j => rfl), (Arr.zero _ _ (by simp)).alloc _, Arr.zero _ _ (by simp), ((Below.refl _ _).alloc (Nat.le_refl _) _).alloc (by simp) _⟩
  case round =>
    obtain ⟨k, h, rfl, hk, H, hz, ha, hbel⟩ := hrel
    by_cases h0 : k = 8
    · subst h0
      have he : Arr wr (w.heap.size + 1) (byt N) := ha.congr (fun j hj => by
        rw [H.out j]
        by_cases hjk : j < 8
        · rw [if_pos hjk]
        · rw [if_neg hjk, byt_up HNN.out (by omega)])
      clear ha H h
      go_wp2_with (first
        | ((with_reducible show wpList _ _ _ _ _ _); refine wp_load_arr rfl (.tmp 3) rfl (w.heap.size + 1) (byt N) rfl he ?_)
        | ((with_reducible show wpList _ _ _ _ _ _); refine wp_store_arr rfl (.tmp 2) (.tmp 20) rfl w.heap.size (fun _ => 0) (byt N) rfl rfl hz ?_))
      exact bodyPost_ret (results_arr rfl _ _ w.heap.size (byt N) rfl hz.setRow) rfl ⟨rfl, below_setRow hbel (by omega) _⟩
    · have hk8 : k < 8 := by omega
      clear h0
      have hcell := ha.cell (show k < 16 by omega)
      have hfree := ha.free k
      have hn0 : 0 ≤ (N : Int) := by omega
      go_wp2_with fail
      go_roundw
      case rel =>
        refine ⟨k + 1, upd h k (byt N k), by go_num, by omega, Lib.hid (fun j => ?_), hz.far (show w.heap.size ≠ w.heap.size + 1 by omega) _, Arr.set_val ha (val_int (shift_byt N k)), hbel.setCell (show w.heap.size ≤ w.heap.size + 1 by omega) _⟩
        unfold upd
        by_cases e : j = k
        · subst e; rw [if_pos rfl, if_pos (by omega)]
        · rw [if_neg e, H.out j]
          by_cases hjk : j < k
          · rw [if_pos hjk, if_pos (by omega)]
          · rw [if_neg hjk, if_neg (by omega)]
      case measure => simp [intOf]; omega
set_option maxRecDepth 100000 in
set_option maxHeartbeats 400000 in
theorem rnumber_neg (n : Int) (hn : n < 0) (w : World) :
    Calls Try.prog 46 #[.int .i64 n] w fun e w' => e = .returned (.agg (blk 0)) ∧ Below w.heap.size w w' := by
  go_enter Try.func46, Try.ntmps46
  go_wp2_with fail
  go_loopw [4] (fun i wr => i = .int .i64 0 ∧ Arr wr w.heap.size (fun _ => 0) ∧ Arr wr (w.heap.size + 1) (fun _ => 0) ∧ Below w.heap.size w wr) (fun _ _ => 0)
  case atStart => exact ⟨rfl, (Arr.zero _ _ (by simp)).alloc _, Arr.zero _ _ (by simp), ((Below.refl _ _).alloc (Nat.le_refl _) _).alloc (by simp) _⟩
  case round =>
    obtain ⟨rfl, hz, he0, hbel⟩ := hrel
    have he : Arr wr (w.heap.size + 1) (byt 0) := he0.congr (fun i _ => by simp [byt])
    clear he0
    go_wp2_with (first
      | ((with_reducible show wpList _ _ _ _ _ _); refine wp_load_arr rfl (.tmp 3) rfl (w.heap.size + 1) (byt 0) rfl he ?_)
      | ((with_reducible show wpList _ _ _ _ _ _); refine wp_store_arr rfl (.tmp 2) (.tmp 20) rfl w.heap.size (fun _ => 0) (byt 0) rfl rfl hz ?_))
    exact bodyPost_ret (results_arr rfl _ _ w.heap.size (byt 0) rfl hz.setRow) rfl ⟨rfl, below_setRow hbel (by omega) _⟩
theorem rnumber_any (n : Int) (hn : n ≤ 9223372036854775807) (w : World) :
    Calls Try.prog 46 #[.int .i64 n] w fun e w' => e = .returned (.agg (blk n.toNat)) ∧ Below w.heap.size w w' := by
  by_cases h : n < 0
  · rw [show n.toNat = 0 by omega]; exact rnumber_neg n h w
  · obtain ⟨N, rfl⟩ := Int.eq_ofNat_of_zero_le (show 0 ≤ n by omega)
    exact rnumber_nat N (by omega) w
end Go.Proofs.Ytibfihjcjohadaa
