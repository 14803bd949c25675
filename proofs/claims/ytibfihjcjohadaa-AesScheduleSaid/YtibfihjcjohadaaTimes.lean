/-
  The walks of tweak.Times and of Double and Halve by a block's number: of any block below 2^128. Nothing that was there is written.
-/
import Derived.Test.YtibfihjcjohadaaHlv
namespace Go.Proofs.Ytibfihjcjohadaa
open Go.RowKit Go.Op
open Twk (byt dbl hlv tm byt_lt dbl_lt hlv_lt tm_lt up down)
/-- a block's value, by its number -/
def blk (n : Nat) : Array Value := bv (byt n)
theorem double_any (n : Nat) (hn : n < 2 ^ 128) (w : World) :
    Calls Try.prog 39 #[.agg (blk n)] w fun e w' => e = .returned (.agg (blk (dbl n))) ∧ Below w.heap.size w w' := by
  have h := double_walk (byt n) (byt_lt n) w
  rw [bv_congr (fun i hi => Twk.dblF_byt hn hi)] at h
  exact h
theorem halve_any (n : Nat) (hn : n < 2 ^ 128) (w : World) :
    Calls Try.prog 41 #[.agg (blk n)] w fun e w' => e = .returned (.agg (blk (hlv n))) ∧ Below w.heap.size w w' := by
  have h := halve_walk (byt n) (byt_lt n) w
  rw [bv_congr (fun i hi => Twk.hlvF_byt hn hi)] at h
  exact h
/-- what Times answers -/
def timesB (b : Nat) (n : Int) : Nat := if n < -1000 ∨ 1000 < n then b else tm b n
theorem up_succ' (b n : Nat) : up (dbl b) n = up b (n + 1) := by
  induction n with
  | zero => rfl
  | succ n ih => show dbl (up (dbl b) n) = dbl (up b (n + 1)); rw [ih]
theorem down_succ' (b n : Nat) : down (hlv b) n = down b (n + 1) := by
  induction n with
  | zero => rfl
  | succ n ih => show hlv (down (hlv b) n) = hlv (down b (n + 1)); rw [ih]
set_option maxRecDepth 100000 in
set_option maxHeartbeats 400000 in
theorem times_far (b : Nat) (n : Int) (h : n < -1000 ∨ 1000 < n) (w : World) :
    Calls Try.prog 43 #[.agg (blk b), .int .i64 n] w fun e w' => e = .returned (.agg (blk b)) ∧ Below w.heap.size w w' := by
  have ha : Arr ((w.alloc (.cells (blk b) 36)).alloc (.cells #[.int .u8 0, .int .u8 0, .int .u8 0, .int .u8 0, .int .u8 0, .int .u8 0, .int .u8 0, .int .u8 0, .int .u8 0, .int .u8 0, .int .u8 0, .int .u8 0, .int .u8 0, .int .u8 0, .int .u8 0, .int .u8 0] 36)) w.heap.size (byt b) := (Arr.new _ _ _ rfl).alloc _
  have hz : Arr ((w.alloc (.cells (blk b) 36)).alloc (.cells #[.int .u8 0, .int .u8 0, .int .u8 0, .int .u8 0, .int .u8 0, .int .u8 0, .int .u8 0, .int .u8 0, .int .u8 0, .int .u8 0, .int .u8 0, .int .u8 0, .int .u8 0, .int .u8 0, .int .u8 0, .int .u8 0] 36)) (w.heap.size + 1) (fun _ => 0) := Arr.zero _ _ (by simp)
  have hb : Below w.heap.size w ((w.alloc (.cells (blk b) 36)).alloc (.cells #[.int .u8 0, .int .u8 0, .int .u8 0, .int .u8 0, .int .u8 0, .int .u8 0, .int .u8 0, .int .u8 0, .int .u8 0, .int .u8 0, .int .u8 0, .int .u8 0, .int .u8 0, .int .u8 0, .int .u8 0, .int .u8 0] 36)) := ((Below.refl _ _).alloc (Nat.le_refl _) _).alloc (by simp) _
  rcases h with h | h
  all_goals
    try (have h' : -1000 ≤ n := by omega)
    go_enter Try.func43, Try.ntmps43
    go_wp2_with (first
      | ((with_reducible show wpList _ _ _ _ _ _); refine wp_load_arr rfl (.tmp 2) rfl w.heap.size (byt b) rfl ha ?_)
      | ((with_reducible show wpList _ _ _ _ _ _); refine wp_store_arr rfl (.tmp 4) (.tmp 11) rfl (w.heap.size + 1) (fun _ => 0) (byt b) rfl rfl hz ?_))
    exact bodyPost_ret (results_arr rfl _ _ (w.heap.size + 1) (byt b) rfl hz.setRow) rfl ⟨rfl, below_setRow hb (by omega) _⟩
set_option maxRecDepth 100000 in
set_option maxHeartbeats 1000000 in
theorem times_up (b : Nat) (N : Nat) (hb : b < 2 ^ 128) (hN : N ≤ 1000) (w : World) :
    Calls Try.prog 43 #[.agg (blk b), .int .i64 (N : Int)] w fun e w' => e = .returned (.agg (blk (up b N))) ∧ Below w.heap.size w w' := by
  go_enter Try.func43, Try.ntmps43
  go_wp2_with fail
  go_loopw [1] (fun i wr => ∃ (k c : Nat), k ≤ N ∧ i = .int .i64 (k : Int) ∧ c < 2 ^ 128 ∧ Hid (up c k = up b N) ∧ Arr wr w.heap.size (byt c) ∧ Arr wr (w.heap.size + 1) (fun _ => 0) ∧ Below w.heap.size w wr ∧ w.heap.size + 2 ≤ wr.heap.size) (fun i _ => (intOf i).toNat)
  case atStart => exact ⟨N, b, Nat.le_refl _, rfl, hb, rfl, (Arr.new _ _ _ rfl).alloc _, Arr.zero _ _ (by simp), ((Below.refl _ _).alloc (Nat.le_refl _) _).alloc (by simp) _, by simp⟩
  case round =>
    obtain ⟨k, c, hk, rfl, hc, H, ha, hz, hbel, hsz⟩ := hrel
    by_cases h0 : k = 0
    · subst h0
      have e : c = up b N := H.out
      have hz2 := hz
      rw [e] at ha
      clear e H
      go_wp2_with fail
      go_loopw [1] (fun i wr2 => i = .int .i64 0 ∧ wr2 = wr) (fun _ _ => 0)
      case atStart => exact ⟨rfl, rfl⟩
      case round =>
        obtain ⟨rfl, rfl⟩ := hrel
        go_wp2_with (first
          | ((with_reducible show wpList _ _ _ _ _ _); refine wp_load_arr rfl (.tmp 2) rfl w.heap.size (byt (up b N)) rfl ha ?_)
          | ((with_reducible show wpList _ _ _ _ _ _); refine wp_store_arr rfl (.tmp 4) (.tmp 24) rfl (w.heap.size + 1) (fun _ => 0) (byt (up b N)) rfl rfl hz ?_))
        exact bodyPost_ret (results_arr rfl _ _ (w.heap.size + 1) (byt (up b N)) rfl hz.setRow) rfl ⟨rfl, below_setRow hbel (by omega) _⟩
    · obtain ⟨m, rfl⟩ : ∃ m, k = m + 1 := ⟨k - 1, by omega⟩
      have H2 : Hid (up (dbl c) m = up b N) := (up_succ' c m).trans H.out
      clear H
      go_wp2_with ((with_reducible show wpList _ _ _ _ _ _); refine wp_load_arr rfl (.tmp 2) rfl w.heap.size (byt c) rfl ha ?_)
      refine (double_any c hc _).mono ?_
      rintro e w1 ⟨rfl, hb1⟩
      have ha1 := ha.below hb1 (by omega)
      have hz1 := hz.below hb1 (by omega)
      have hbel1 := hbel.trans (hb1.mono (by omega))
      have hs1 := hb1.size
      clear ha hz hbel
      go_wp2_with ((with_reducible show wpList _ _ _ _ _ _); refine wp_store_arr rfl (.tmp 2) (.tmp 17) rfl w.heap.size (byt c) (byt (dbl c)) rfl rfl ha1 ?_)
      go_roundw
      case rel => exact ⟨m, dbl c, by omega, by go_num, dbl_lt hc, H2, ha1.setRow, hz1.setRow_far (by omega), below_setRow hbel1 (by omega) _, by simp [World.setRow]; omega⟩
      case measure => simp [intOf]
set_option maxRecDepth 100000 in
set_option maxHeartbeats 1000000 in
theorem times_down (b : Nat) (N : Nat) (hb : b < 2 ^ 128) (hN : N ≤ 1000) (h0 : 0 < N) (w : World) :
    Calls Try.prog 43 #[.agg (blk b), .int .i64 (-(N : Int))] w fun e w' => e = .returned (.agg (blk (down b N))) ∧ Below w.heap.size w w' := by
  go_enter Try.func43, Try.ntmps43
  go_wp2_with fail
  go_loopw [1] (fun i wr => i = .int .i64 (-(N : Int)) ∧ Arr wr w.heap.size (byt b) ∧ Arr wr (w.heap.size + 1) (fun _ => 0) ∧ Below w.heap.size w wr ∧ w.heap.size + 2 ≤ wr.heap.size) (fun _ _ => 0)
  case atStart => exact ⟨rfl, (Arr.new _ _ _ rfl).alloc _, Arr.zero _ _ (by simp), ((Below.refl _ _).alloc (Nat.le_refl _) _).alloc (by simp) _, by simp⟩
  case round =>
    obtain ⟨rfl, ha0, hz0, hbel0, hsz0⟩ := hrel
    go_wp2_with fail
    go_loopw [1] (fun i wr => ∃ (k c : Nat), k ≤ N ∧ i = .int .i64 (-(k : Int)) ∧ c < 2 ^ 128 ∧ Hid (down c k = down b N) ∧ Arr wr w.heap.size (byt c) ∧ Arr wr (w.heap.size + 1) (fun _ => 0) ∧ Below w.heap.size w wr ∧ w.heap.size + 2 ≤ wr.heap.size) (fun i _ => (-(intOf i)).toNat)
    case atStart => exact ⟨N, b, Nat.le_refl _, rfl, hb, rfl, ha0, hz0, hbel0, hsz0⟩
    case round =>
      obtain ⟨k, c, hk, rfl, hc, H, ha, hz, hbel, hsz⟩ := hrel
      clear ha0 hz0 hbel0 hsz0
      by_cases h0 : k = 0
      · subst h0
        have e : c = down b N := H.out
        rw [e] at ha
        clear e H
        rw [show (-((0 : Nat) : Int)) = 0 from rfl]
        go_wp2_with (first
          | ((with_reducible show wpList _ _ _ _ _ _); refine wp_load_arr rfl (.tmp 2) rfl w.heap.size (byt (down b N)) rfl ha ?_)
          | ((with_reducible show wpList _ _ _ _ _ _); refine wp_store_arr rfl (.tmp 4) (.tmp 24) rfl (w.heap.size + 1) (fun _ => 0) (byt (down b N)) rfl rfl hz ?_))
        exact bodyPost_ret (results_arr rfl _ _ (w.heap.size + 1) (byt (down b N)) rfl hz.setRow) rfl ⟨rfl, below_setRow hbel (by omega) _⟩
      · obtain ⟨m, rfl⟩ : ∃ m, k = m + 1 := ⟨k - 1, by omega⟩
        have H2 : Hid (down (hlv c) m = down b N) := (down_succ' c m).trans H.out
        clear H
        rw [show (-((m + 1 : Nat) : Int)) = -(m : Int) - 1 by omega]
        go_wp2_with ((with_reducible show wpList _ _ _ _ _ _); refine wp_load_arr rfl (.tmp 2) rfl w.heap.size (byt c) rfl ha ?_)
        refine (halve_any c hc _).mono ?_
        rintro e w1 ⟨rfl, hb1⟩
        have ha1 := ha.below hb1 (by omega)
        have hz1 := hz.below hb1 (by omega)
        have hbel1 := hbel.trans (hb1.mono (by omega))
        have hs1 := hb1.size
        clear ha hz hbel
        go_wp2_with ((with_reducible show wpList _ _ _ _ _ _); refine wp_store_arr rfl (.tmp 2) (.tmp 23) rfl w.heap.size (byt c) (byt (hlv c)) rfl rfl ha1 ?_)
        go_roundw
        case rel => exact ⟨m, hlv c, by omega, val_int (by omega), hlv_lt hc, H2, ha1.setRow, hz1.setRow_far (by omega), below_setRow hbel1 (by omega) _, by simp [World.setRow]; omega⟩
        case measure => simp [intOf]; omega
theorem times_any (b : Nat) (n : Int) (hb : b < 2 ^ 128) (w : World) :
    Calls Try.prog 43 #[.agg (blk b), .int .i64 n] w fun e w' => e = .returned (.agg (blk (timesB b n))) ∧ Below w.heap.size w w' := by
  unfold timesB
  by_cases h : n < -1000 ∨ 1000 < n
  · rw [if_pos h]; exact times_far b n h w
  · rw [if_neg h]
    unfold tm
    by_cases h0 : 0 ≤ n
    · rw [if_pos h0]
      obtain ⟨N, rfl⟩ := Int.eq_ofNat_of_zero_le h0
      exact times_up b N hb (by omega) w
    · rw [if_neg h0]
      obtain ⟨N, hN⟩ := Int.eq_ofNat_of_zero_le (show 0 ≤ -n by omega)
      have e : n = -(N : Int) := by omega
      subst e
      rw [show (-(-(N : Int))).toNat = N by omega]
      exact times_down b N hb (by omega) (by omega) w
theorem timesB_lt {b : Nat} (hb : b < 2 ^ 128) (n : Int) : timesB b n < 2 ^ 128 := by
  unfold timesB; split
  · exact hb
  · exact tm_lt hb n
end Go.Proofs.Ytibfihjcjohadaa
