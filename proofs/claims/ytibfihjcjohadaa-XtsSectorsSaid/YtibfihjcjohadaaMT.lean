/-
  The walks of the tweak's functions and of rows of blocks. Conditions: blocks below 2^128.
-/
import Derived.Test.YtibfihjcjohadaaMB
import Derived.Test.YtibfihjcjohadaaPA
import Derived.Deep.MidRow
import Derived.Deep.RegionHeld3
import Derived.Great.BuildSlice
import Derived.Maps.AppendAt
import Derived.Deep.Matrix
import Derived.ProofKit
import Derived.OpenShut
/- The walk of tweak.Double: of any block the bytes of its double; nothing that was there is written. -/
namespace Go.Proofs.Ytibfihjcjohadaa
open Go.RowKit Go.Op
open Twk (shl1 dblF shl1_lt dblF_lt)
theorem nat_ne0 {a : Nat} : ((a : Int) != 0) = (a != 0) := ne0 a
theorem or_shl {x c : Nat} (hc : c < 256) : bits .or .u8 ((x : Int) * 2 % 256) (c : Int) = (((x * 2 % 256) ||| c : Nat) : Int) := by
  have e := u8_or_nat (x * 2 % 256) c (by omega) hc
  have e2 : ((x * 2 % 256 : Nat) : Int) = (x : Int) * 2 % 256 := by omega
  rw [← e2, e]
theorem xor135 {x : Nat} (hx : x < 256) : bits .xor .u8 (x : Int) 135 = ((x ^^^ 135 : Nat) : Int) := by
  have e := u8_xor_nat x 135 hx (by decide)
  rwa [show ((135 : Nat) : Int) = 135 from rfl] at e
set_option maxRecDepth 100000 in
set_option maxHeartbeats 1000000 in
theorem double_walk (f : Nat → Nat) (hf : ∀ i, f i < 256) (w : World) :
    Calls Try.prog 39 #[.agg (bv f)] w fun e w' => e = .returned (.agg (bv (dblF f))) ∧ Below w.heap.size w w' := by
  have HF := Lib.hid hf
  clear hf
  go_enter Try.func39, Try.ntmps39
  go_wp2_with ((with_reducible show wpList _ _ _ _ _ _); refine wp_load_arr rfl (.tmp 1) rfl w.heap.size f rfl ((Arr.new _ f _ rfl).alloc _) ?_)
  go_loopw [3, 7] (fun c i wr => ∃ (k : Nat) (h : Nat → Nat), k ≤ 16 ∧ i = .int .i64 (k : Int) ∧ c = .int .u8 (((if k = 0 then 0 else f (k - 1) / 128 : Nat)) : Int) ∧ Hid (∀ j, j < k → h j = shl1 f j) ∧ Arr wr (w.heap.size + 1) h ∧ Below w.heap.size w wr) (fun _ i _ => 16 - (intOf i).toNat)
  case atStart => exact ⟨0, _, Nat.zero_le _, rfl, rfl, Lib.hid (fun j hj => absurd hj (by omega)), Arr.zero _ _ (by simp), ((Below.refl _ _).alloc (Nat.le_refl _) _).alloc (by simp) _⟩
  case round =>
    obtain ⟨k, h, hk, rfl, rfl, H, ha, hbel⟩ := hrel
    by_cases hlt : k < 16
    · have hix := run_index (f := f) hlt
      have hfk := HF.out k
      have hfk1 := HF.out (k - 1)
      obtain ⟨c, hc⟩ : ∃ c : Nat, c = (if k = 0 then 0 else f (k - 1) / 128) := ⟨_, rfl⟩
      have hc2 : c < 256 := by rw [hc]; split <;> omega
      have hor := or_shl (x := f k) hc2
      have HS : Hid (shl1 f k = (f k * 2 % 256) ||| c) := by show _ = _; rw [hc]; rfl
      rw [← hc]
      have HC := Lib.hid hc
      clear hc
      have hcell := ha.cell hlt
      have hfree := ha.free k
      clear hfk1
      go_wp2_with fail
      go_roundw
      case rel =>
        refine ⟨k + 1, upd h k ((f k * 2 % 256) ||| c), by omega, by go_num, val_int ?_, Lib.hid ?_, ha.set, hbel.setCell (by simp) _⟩
        · rw [if_neg (by omega), show k + 1 - 1 = k by omega]; omega
        · intro j hj
          unfold upd
          split
          · rename_i e; rw [e, HS.out]
          · exact H.out j (by omega)
      case measure => simp [intOf]; omega
    · have e : k = 16 := by omega
      subst e
      have hf15 := HF.out 15
      rw [if_neg (by decide), show 16 - 1 = 15 from rfl]
      have ha2 : Arr wr (w.heap.size + 1) (shl1 f) := ha.congr H.out
      have h0lt := shl1_lt HF.out 0
      clear ha H h
      have hcell := ha2.cell (show 0 < 16 by decide)
      have hfree := ha2.free 0
      have hx := xor135 h0lt
      by_cases hc : 128 ≤ f 15
      · have ht : (((f 15 / 128 : Nat) : Int) != 0) = true := by rw [ne0]; simp; omega
        have ha3 : Arr (wr.setCell ⟨w.heap.size + 1, 0, none⟩ (.int .u8 ((shl1 f 0 ^^^ 135 : Nat) : Int))) (w.heap.size + 1) (dblF f) := by
          refine (Arr.set ha2).congr (fun i hi => ?_)
          unfold upd dblF
          by_cases h0 : i = 0
          · rw [if_pos h0, if_pos ⟨hc, h0⟩]
          · rw [if_neg h0, if_neg (fun h => h0 h.2)]
        have hb3 := hbel.setCell (p := ⟨w.heap.size + 1, 0, none⟩) (by simp) (.int .u8 ((shl1 f 0 ^^^ 135 : Nat) : Int))
        clear hc
        go_wp2_with (first
          | ((with_reducible show wpList _ _ _ _ _ _); refine wp_load_arr rfl (.tmp 2) rfl (w.heap.size + 1) (dblF f) rfl ha3 ?_)
          | ((with_reducible show wpList _ _ _ _ _ _); refine wp_store_arr rfl (.tmp 2) (.tmp 26) rfl (w.heap.size + 1) (dblF f) (dblF f) rfl rfl ha3 ?_))
        refine bodyPost_ret (results_arr rfl _ _ (w.heap.size + 1) (dblF f) rfl ha3.setRow) rfl ⟨rfl, below_setRow hb3 (by omega) _⟩
      · have ht : (((f 15 / 128 : Nat) : Int) != 0) = false := by rw [ne0]; simp; omega
        have ha3 : Arr wr (w.heap.size + 1) (dblF f) := by
          refine ha2.congr (fun i hi => ?_)
          unfold dblF
          rw [if_neg (fun h => hc h.1)]
        clear hc ha2
        go_wp2_with (first
          | ((with_reducible show wpList _ _ _ _ _ _); refine wp_load_arr rfl (.tmp 2) rfl (w.heap.size + 1) (dblF f) rfl ha3 ?_)
          | ((with_reducible show wpList _ _ _ _ _ _); refine wp_store_arr rfl (.tmp 2) (.tmp 26) rfl (w.heap.size + 1) (dblF f) (dblF f) rfl rfl ha3 ?_))
        refine bodyPost_ret (results_arr rfl _ _ (w.heap.size + 1) (dblF f) rfl ha3.setRow) rfl ⟨rfl, below_setRow hbel (by omega) _⟩
end Go.Proofs.Ytibfihjcjohadaa
/- The walk of tweak.Halve: of any block the bytes of its half; nothing that was there is written. -/
namespace Go.Proofs.Ytibfihjcjohadaa
open Go.RowKit Go.Op
open Twk (shr1 hlvF evenF shr1_lt hlvF_lt evenF_lt)
theorem and1_odd {x : Nat} (hx : x < 256) : (bits .and .u8 (x : Int) 1 != 0) = decide (x % 2 = 1) := and1 hx
theorem or_shr {x c : Nat} (hx : x < 256) (hc : c < 256) : bits .or .u8 ((x : Int) / 2) (c : Int) = (((x / 2) ||| c : Nat) : Int) := by
  have e := u8_or_nat (x / 2) c (by omega) hc
  have e2 : ((x / 2 : Nat) : Int) = (x : Int) / 2 := by omega
  rw [← e2, e]
theorem or128 {x : Nat} (hx : x < 256) : bits .or .u8 (x : Int) 128 = ((x ||| 128 : Nat) : Int) := by
  have e := u8_or_nat x 128 hx (by decide)
  rwa [show ((128 : Nat) : Int) = 128 from rfl] at e
set_option maxRecDepth 100000 in
set_option maxHeartbeats 1000000 in
theorem halve_walk (f : Nat → Nat) (hf : ∀ i, f i < 256) (w : World) :
    Calls Try.prog 41 #[.agg (bv f)] w fun e w' => e = .returned (.agg (bv (hlvF f))) ∧ Below w.heap.size w w' := by
  have hg := evenF_lt hf
  have HG := Lib.hid hg
  have h0 := hf 0
  have hx := xor135 h0
  have ht := and1 h0
  clear hf hg
  by_cases hodd : f 0 % 2 = 1
  all_goals
    have hcell0 : ((w.alloc (.cells (bv f) 36)).alloc (.cells #[.int .u8 0, .int .u8 0, .int .u8 0, .int .u8 0, .int .u8 0, .int .u8 0, .int .u8 0, .int .u8 0, .int .u8 0, .int .u8 0, .int .u8 0, .int .u8 0, .int .u8 0, .int .u8 0, .int .u8 0, .int .u8 0] 36)).cell? ⟨w.heap.size, 0, none⟩ = some (.int .u8 ((f 0 : Nat) : Int)) := ((Arr.new _ f _ rfl).alloc _).cell (by decide)
    have hfree0 : ((w.alloc (.cells (bv f) 36)).alloc (.cells #[.int .u8 0, .int .u8 0, .int .u8 0, .int .u8 0, .int .u8 0, .int .u8 0, .int .u8 0, .int .u8 0, .int .u8 0, .int .u8 0, .int .u8 0, .int .u8 0, .int .u8 0, .int .u8 0, .int .u8 0, .int .u8 0] 36)).frozen? ⟨w.heap.size, 0, none⟩ = false := ((Arr.new _ f _ rfl).alloc _).free 0
    first
      | (have htt : (bits .and .u8 ((f 0 : Nat) : Int) 1 != 0) = true := by rw [ht]; simpa using hodd)
      | (have htt : (bits .and .u8 ((f 0 : Nat) : Int) 1 != 0) = false := by rw [ht]; simpa using hodd)
    clear ht
    have HO := Lib.hid hodd
    clear hodd
    go_enter Try.func41, Try.ntmps41
    go_wp2_with fail
    clear hcell0 hfree0 hx htt
    go_loopw [4, 5] (fun c i wr => ∃ (k : Nat) (h : Nat → Nat), k ≤ 16 ∧ i = .int .i64 ((k : Int) - 1) ∧ c = .int .u8 (((if k = 16 then 0 else evenF f k * 128 % 256 : Nat)) : Int) ∧ Hid (∀ j, k ≤ j → j < 16 → h j = shr1 (evenF f) j) ∧ Arr wr w.heap.size (evenF f) ∧ Arr wr (w.heap.size + 1) h ∧ Below w.heap.size w wr) (fun _ i _ => (intOf i + 1).toNat)
    case atStart =>
      refine ⟨16, _, Nat.le_refl _, rfl, rfl, Lib.hid (fun j h1 h2 => absurd h1 (by omega)), ?_, Arr.zero _ _ (by simp), ((Below.refl _ _).alloc (Nat.le_refl _) _).alloc (by simp) _⟩
      first
        | (rw [bv_upd]
           refine ((Arr.new _ _ _ rfl).alloc _).congr (fun i _ => ?_)
           unfold upd evenF
           by_cases h0 : i = 0
           · rw [if_pos h0, if_pos ⟨HO.out, h0⟩]
           · rw [if_neg h0, if_neg (fun h => h0 h.2)])
        | (refine ((Arr.new _ f _ rfl).alloc _).congr (fun i _ => ?_)
           unfold evenF
           rw [if_neg (fun h => HO.out h.1)])
    case round =>
      obtain ⟨k, h, hk, rfl, rfl, H, hg, ha, hbel⟩ := hrel
      by_cases hk0 : k = 0
      · subst hk0
        rw [show ((0 : Nat) : Int) - 1 = -1 from rfl]
        have hs : Arr wr (w.heap.size + 1) (shr1 (evenF f)) := ha.congr (fun i hi => H.out i (Nat.zero_le _) hi)
        have h15lt := shr1_lt HG.out 15
        clear H ha
        have hcell := hs.cell (show 15 < 16 by decide)
        have hfree := hs.free 15
        have hx := or128 h15lt
        first
          | (have hodd : f 0 % 2 = 1 := HO.out
             have ha3 : Arr (wr.setCell ⟨w.heap.size + 1, 15, none⟩ (.int .u8 ((shr1 (evenF f) 15 ||| 128 : Nat) : Int))) (w.heap.size + 1) (hlvF f) := by
               refine (Arr.set hs).congr (fun i hi => ?_)
               unfold upd hlvF
               by_cases h0 : i = 15
               · rw [if_pos h0, if_pos ⟨hodd, h0⟩]
               · rw [if_neg h0, if_neg (fun h => h0 h.2)]
             have hb3 := hbel.setCell (p := ⟨w.heap.size + 1, 15, none⟩) (by simp) (.int .u8 ((shr1 (evenF f) 15 ||| 128 : Nat) : Int))
             clear hodd
             go_wp2_with (first
               | ((with_reducible show wpList _ _ _ _ _ _); refine wp_load_arr rfl (.tmp 2) rfl (w.heap.size + 1) (hlvF f) rfl ha3 ?_)
               | ((with_reducible show wpList _ _ _ _ _ _); refine wp_store_arr rfl (.tmp 2) (.tmp 36) rfl (w.heap.size + 1) (hlvF f) (hlvF f) rfl rfl ha3 ?_))
             exact bodyPost_ret (results_arr rfl _ _ (w.heap.size + 1) (hlvF f) rfl ha3.setRow) rfl ⟨rfl, below_setRow hb3 (by omega) _⟩)
          | (have hodd : ¬ f 0 % 2 = 1 := HO.out
             have ha3 : Arr wr (w.heap.size + 1) (hlvF f) := by
               refine hs.congr (fun i hi => ?_)
               unfold hlvF
               rw [if_neg (fun h => hodd h.1)]
             clear hodd hs hcell hfree hx
             go_wp2_with (first
               | ((with_reducible show wpList _ _ _ _ _ _); refine wp_load_arr rfl (.tmp 2) rfl (w.heap.size + 1) (hlvF f) rfl ha3 ?_)
               | ((with_reducible show wpList _ _ _ _ _ _); refine wp_store_arr rfl (.tmp 2) (.tmp 36) rfl (w.heap.size + 1) (hlvF f) (hlvF f) rfl rfl ha3 ?_))
             exact bodyPost_ret (results_arr rfl _ _ (w.heap.size + 1) (hlvF f) rfl ha3.setRow) rfl ⟨rfl, below_setRow hbel (by omega) _⟩)
      · obtain ⟨m, rfl⟩ : ∃ m, k = m + 1 := ⟨k - 1, by omega⟩
        rw [show ((m + 1 : Nat) : Int) - 1 = (m : Int) by omega]
        have hm : m < 16 := by omega
        obtain ⟨c, hc⟩ : ∃ c : Nat, c = (if m + 1 = 16 then 0 else evenF f (m + 1) * 128 % 256) := ⟨_, rfl⟩
        have hc2 : c < 256 := by rw [hc]; split <;> omega
        have hgm := HG.out m
        have hor := or_shr hgm hc2
        have HS : Hid (shr1 (evenF f) m = (evenF f m / 2) ||| c) := by
          show _ = _
          rw [hc]; unfold shr1
          by_cases h15 : m = 15
          · rw [if_pos h15, if_pos (by omega)]
          · rw [if_neg h15, if_neg (by omega)]
        rw [← hc]
        clear hc
        have hcellg := hg.cell hm
        have hcell := ha.cell hm
        have hfree := ha.free m
        have hcellg2 : ∀ u, (wr.setCell ⟨w.heap.size + 1, m, none⟩ u).cell? ⟨w.heap.size, m, none⟩ = some (.int .u8 ((evenF f m : Nat) : Int)) := fun u => (hg.far (p := ⟨w.heap.size + 1, m, none⟩) (by simp) u).cell hm
        go_wp2_with fail
        go_roundw
        case rel =>
          refine ⟨m, upd h m ((evenF f m / 2) ||| c), by omega, rfl, val_int ?_, Lib.hid ?_, hg.far (by simp) _, ha.set, hbel.setCell (by simp) _⟩
          · rw [if_neg (by omega)]; omega
          · intro j hj hj2
            unfold upd
            split
            · rename_i e; rw [e, HS.out]
            · exact H.out j (by omega) hj2
        case measure => simp [intOf]
end Go.Proofs.Ytibfihjcjohadaa
/- The walks of tweak.Times and of Double and Halve by a block's number: of any block below 2^128. Nothing that was there is written. -/
namespace Go.Proofs.Ytibfihjcjohadaa
open Go.RowKit Go.Op
open Twk (byt dbl hlv tm byt_lt dbl_lt hlv_lt tm_lt up down)
/-- a block's value, by its number -/
def blk (n : Nat) : Array Value := bv (byt n)
theorem double_any (n : Nat) (hn : n < 2 ^ 128) (w : World) :
    Calls Try.prog 39 #[.agg (blk n)] w fun e w' => e = .returned (.agg (blk (dbl n))) ∧ Below w.heap.size w w' := by
  have h := double_walk (byt n) (byt_lt n) w
  rw [bv_congr (fun i hi => Twk.dblF_byt hn hi)] at h
  exact h
theorem halve_any (n : Nat) (hn : n < 2 ^ 128) (w : World) :
    Calls Try.prog 41 #[.agg (blk n)] w fun e w' => e = .returned (.agg (blk (hlv n))) ∧ Below w.heap.size w w' := by
  have h := halve_walk (byt n) (byt_lt n) w
  rw [bv_congr (fun i hi => Twk.hlvF_byt hn hi)] at h
  exact h
/-- what Times answers -/
def timesB (b : Nat) (n : Int) : Nat := if n < -1000 ∨ 1000 < n then b else tm b n
theorem up_succ' (b n : Nat) : up (dbl b) n = up b (n + 1) := by
  induction n with
  | zero => rfl
  | succ n ih => show dbl (up (dbl b) n) = dbl (up b (n + 1)); rw [ih]
theorem down_succ' (b n : Nat) : down (hlv b) n = down b (n + 1) := by
  induction n with
  | zero => rfl
  | succ n ih => show hlv (down (hlv b) n) = hlv (down b (n + 1)); rw [ih]
set_option maxRecDepth 100000 in
set_option maxHeartbeats 400000 in
theorem times_far (b : Nat) (n : Int) (h : n < -1000 ∨ 1000 < n) (w : World) :
    Calls Try.prog 43 #[.agg (blk b), .int .i64 n] w fun e w' => e = .returned (.agg (blk b)) ∧ Below w.heap.size w w' := by
  have ha : Arr ((w.alloc (.cells (blk b) 36)).alloc (.cells #[.int .u8 0, .int .u8 0, .int .u8 0, .int .u8 0, .int .u8 0, .int .u8 0, .int .u8 0, .int .u8 0, .int .u8 0, .int .u8 0, .int .u8 0, .int .u8 0, .int .u8 0, .int .u8 0, .int .u8 0, .int .u8 0] 36)) w.heap.size (byt b) := (Arr.new _ _ _ rfl).alloc _
  have hz : Arr ((w.alloc (.cells (blk b) 36)).alloc (.cells #[.int .u8 0, .int .u8 0, .int .u8 0, .int .u8 0, .int .u8 0, .int .u8 0, .int .u8 0, .int .u8 0, .int .u8 0, .int .u8 0, .int .u8 0, .int .u8 0, .int .u8 0, .int .u8 0, .int .u8 0, .int .u8 0] 36)) (w.heap.size + 1) (fun _ => 0) := Arr.zero _ _ (by simp)
  have hb : Below w.heap.size w ((w.alloc (.cells (blk b) 36)).alloc (.cells #[.int .u8 0, .int .u8 0, .int .u8 0, .int .u8 0, .int .u8 0, .int .u8 0, .int .u8 0, .int .u8 0, .int .u8 0, .int .u8 0, .int .u8 0, .int .u8 0, .int .u8 0, .int .u8 0, .int .u8 0, .int .u8 0] 36)) := ((Below.refl _ _).alloc (Nat.le_refl _) _).alloc (by simp) _
  rcases h with h | h
  all_goals
    try (have h' : -1000 ≤ n := by omega)
    go_enter Try.func43, Try.ntmps43
    go_wp2_with (first
      | ((with_reducible show wpList _ _ _ _ _ _); refine wp_load_arr rfl (.tmp 2) rfl w.heap.size (byt b) rfl ha ?_)
      | ((with_reducible show wpList _ _ _ _ _ _); refine wp_store_arr rfl (.tmp 4) (.tmp 11) rfl (w.heap.size + 1) (fun _ => 0) (byt b) rfl rfl hz ?_))
    exact bodyPost_ret (results_arr rfl _ _ (w.heap.size + 1) (byt b) rfl hz.setRow) rfl ⟨rfl, below_setRow hb (by omega) _⟩
set_option maxRecDepth 100000 in
set_option maxHeartbeats 1000000 in
theorem times_up (b : Nat) (N : Nat) (hb : b < 2 ^ 128) (hN : N ≤ 1000) (w : World) :
    Calls Try.prog 43 #[.agg (blk b), .int .i64 (N : Int)] w fun e w' => e = .returned (.agg (blk (up b N))) ∧ Below w.heap.size w w' := by
  go_enter Try.func43, Try.ntmps43
  go_wp2_with fail
  go_loopw [1] (fun i wr => ∃ (k c : Nat), k ≤ N ∧ i = .int .i64 (k : Int) ∧ c < 2 ^ 128 ∧ Hid (up c k = up b N) ∧ Arr wr w.heap.size (byt c) ∧ Arr wr (w.heap.size + 1) (fun _ => 0) ∧ Below w.heap.size w wr ∧ w.heap.size + 2 ≤ wr.heap.size) (fun i _ => (intOf i).toNat)
  case atStart => exact ⟨N, b, Nat.le_refl _, rfl, hb, rfl, (Arr.new _ _ _ rfl).alloc _, Arr.zero _ _ (by simp), ((Below.refl _ _).alloc (Nat.le_refl _) _).alloc (by simp) _, by simp⟩
  case round =>
    obtain ⟨k, c, hk, rfl, hc, H, ha, hz, hbel, hsz⟩ := hrel
    by_cases h0 : k = 0
    · subst h0
      have e : c = up b N := H.out
      have hz2 := hz
      rw [e] at ha
      clear e H
      go_wp2_with fail
      go_loopw [1] (fun i wr2 => i = .int .i64 0 ∧ wr2 = wr) (fun _ _ => 0)
      case atStart => exact ⟨rfl, rfl⟩
      case round =>
        obtain ⟨rfl, rfl⟩ := hrel
        go_wp2_with (first
          | ((with_reducible show wpList _ _ _ _ _ _); refine wp_load_arr rfl (.tmp 2) rfl w.heap.size (byt (up b N)) rfl ha ?_)
          | ((with_reducible show wpList _ _ _ _ _ _); refine wp_store_arr rfl (.tmp 4) (.tmp 24) rfl (w.heap.size + 1) (fun _ => 0) (byt (up b N)) rfl rfl hz ?_))
        exact bodyPost_ret (results_arr rfl _ _ (w.heap.size + 1) (byt (up b N)) rfl hz.setRow) rfl ⟨rfl, below_setRow hbel (by omega) _⟩
    · obtain ⟨m, rfl⟩ : ∃ m, k = m + 1 := ⟨k - 1, by omega⟩
      have H2 : Hid (up (dbl c) m = up b N) := (up_succ' c m).trans H.out
      clear H
      go_wp2_with ((with_reducible show wpList _ _ _ _ _ _); refine wp_load_arr rfl (.tmp 2) rfl w.heap.size (byt c) rfl ha ?_)
      refine (double_any c hc _).mono ?_
      rintro e w1 ⟨rfl, hb1⟩
      have ha1 := ha.below hb1 (by omega)
      have hz1 := hz.below hb1 (by omega)
      have hbel1 := hbel.trans (hb1.mono (by omega))
      have hs1 := hb1.size
      clear ha hz hbel
      go_wp2_with ((with_reducible show wpList _ _ _ _ _ _); refine wp_store_arr rfl (.tmp 2) (.tmp 17) rfl w.heap.size (byt c) (byt (dbl c)) rfl rfl ha1 ?_)
      go_roundw
      case rel => exact ⟨m, dbl c, by omega, by go_num, dbl_lt hc, H2, ha1.setRow, hz1.setRow_far (by omega), below_setRow hbel1 (by omega) _, by simp [World.setRow]; omega⟩
      case measure => simp [intOf]
set_option maxRecDepth 100000 in
set_option maxHeartbeats 1000000 in
theorem times_down (b : Nat) (N : Nat) (hb : b < 2 ^ 128) (hN : N ≤ 1000) (h0 : 0 < N) (w : World) :
    Calls Try.prog 43 #[.agg (blk b), .int .i64 (-(N : Int))] w fun e w' => e = .returned (.agg (blk (down b N))) ∧ Below w.heap.size w w' := by
  go_enter Try.func43, Try.ntmps43
  go_wp2_with fail
  go_loopw [1] (fun i wr => i = .int .i64 (-(N : Int)) ∧ Arr wr w.heap.size (byt b) ∧ Arr wr (w.heap.size + 1) (fun _ => 0) ∧ Below w.heap.size w wr ∧ w.heap.size + 2 ≤ wr.heap.size) (fun _ _ => 0)
  case atStart => exact ⟨rfl, (Arr.new _ _ _ rfl).alloc _, Arr.zero _ _ (by simp), ((Below.refl _ _).alloc (Nat.le_refl _) _).alloc (by simp) _, by simp⟩
  case round =>
    obtain ⟨rfl, ha0, hz0, hbel0, hsz0⟩ := hrel
    go_wp2_with fail
    go_loopw [1] (fun i wr => ∃ (k c : Nat), k ≤ N ∧ i = .int .i64 (-(k : Int)) ∧ c < 2 ^ 128 ∧ Hid (down c k = down b N) ∧ Arr wr w.heap.size (byt c) ∧ Arr wr (w.heap.size + 1) (fun _ => 0) ∧ Below w.heap.size w wr ∧ w.heap.size + 2 ≤ wr.heap.size) (fun i _ => (-(intOf i)).toNat)
    case atStart => exact ⟨N, b, Nat.le_refl _, rfl, hb, rfl, ha0, hz0, hbel0, hsz0⟩
    case round =>
      obtain ⟨k, c, hk, rfl, hc, H, ha, hz, hbel, hsz⟩ := hrel
      clear ha0 hz0 hbel0 hsz0
      by_cases h0 : k = 0
      · subst h0
        have e : c = down b N := H.out
        rw [e] at ha
        clear e H
        rw [show (-((0 : Nat) : Int)) = 0 from rfl]
        go_wp2_with (first
          | ((with_reducible show wpList _ _ _ _ _ _); refine wp_load_arr rfl (.tmp 2) rfl w.heap.size (byt (down b N)) rfl ha ?_)
          | ((with_reducible show wpList _ _ _ _ _ _); refine wp_store_arr rfl (.tmp 4) (.tmp 24) rfl (w.heap.size + 1) (fun _ => 0) (byt (down b N)) rfl rfl hz ?_))
        exact bodyPost_ret (results_arr rfl _ _ (w.heap.size + 1) (byt (down b N)) rfl hz.setRow) rfl ⟨rfl, below_setRow hbel (by omega) _⟩
      · obtain ⟨m, rfl⟩ : ∃ m, k = m + 1 := ⟨k - 1, by omega⟩
        have H2 : Hid (down (hlv c) m = down b N) := (down_succ' c m).trans H.out
        clear H
        rw [show (-((m + 1 : Nat) : Int)) = -(m : Int) - 1 by omega]
        go_wp2_with ((with_reducible show wpList _ _ _ _ _ _); refine wp_load_arr rfl (.tmp 2) rfl w.heap.size (byt c) rfl ha ?_)
        refine (halve_any c hc _).mono ?_
        rintro e w1 ⟨rfl, hb1⟩
        have ha1 := ha.below hb1 (by omega)
        have hz1 := hz.below hb1 (by omega)
        have hbel1 := hbel.trans (hb1.mono (by omega))
        have hs1 := hb1.size
        clear ha hz hbel
        go_wp2_with ((with_reducible show wpList _ _ _ _ _ _); refine wp_store_arr rfl (.tmp 2) (.tmp 23) rfl w.heap.size (byt c) (byt (hlv c)) rfl rfl ha1 ?_)
        go_roundw
        case rel => exact ⟨m, hlv c, by omega, val_int (by omega), hlv_lt hc, H2, ha1.setRow, hz1.setRow_far (by omega), below_setRow hbel1 (by omega) _, by simp [World.setRow]; omega⟩
        case measure => simp [intOf]; omega
theorem times_any (b : Nat) (n : Int) (hb : b < 2 ^ 128) (w : World) :
    Calls Try.prog 43 #[.agg (blk b), .int .i64 n] w fun e w' => e = .returned (.agg (blk (timesB b n))) ∧ Below w.heap.size w w' := by
  unfold timesB
  by_cases h : n < -1000 ∨ 1000 < n
  · rw [if_pos h]; exact times_far b n h w
  · rw [if_neg h]
    unfold tm
    by_cases h0 : 0 ≤ n
    · rw [if_pos h0]
      obtain ⟨N, rfl⟩ := Int.eq_ofNat_of_zero_le h0
      exact times_up b N hb (by omega) w
    · rw [if_neg h0]
      obtain ⟨N, hN⟩ := Int.eq_ofNat_of_zero_le (show 0 ≤ -n by omega)
      have e : n = -(N : Int) := by omega
      subst e
      rw [show (-(-(N : Int))).toNat = N by omega]
      exact times_down b N hb (by omega) (by omega) w
theorem timesB_lt {b : Nat} (hb : b < 2 ^ 128) (n : Int) : timesB b n < 2 ^ 128 := by
  unfold timesB; split
  · exact hb
  · exact tm_lt hb n
end Go.Proofs.Ytibfihjcjohadaa
/- The walks of tweak.Number and of prioryalike.Block; when two blocks are equal. Condition: bytes in memory read as bytes. -/
namespace Go.Proofs.Ytibfihjcjohadaa
open Go.RowKit Go.Op
open Twk (byt dbl hlv tm byt_lt dbl_lt hlv_lt tm_lt up down)
theorem run_part (f : Nat → Nat) {k : Nat} (hk : k < 16) (w : World) : (part 5 (bv f) k).run Try.prog w = .ok (.int .u8 ((f k : Nat) : Int)) w := by
  have hb := bv_get (f := f) hk
  unfold part
  simp [isAgg, run_underlying Try.underlying5, hb]
theorem run_all (f g : Nat → Nat) (w : World) (B : Nat → Option Bool × Unit → Sem (ForInStep (Option Bool × Unit))) :
    ∀ l : List Nat, (∀ i ∈ l, ∀ s, (B i s).run Try.prog w = .ok (if (f i == g i) = true then .yield (none, ()) else .done (some false, ())) w) →
      (forIn l (none, ()) B).run Try.prog w = .ok (if (l.all fun i => f i == g i) = true then (none, ()) else (some false, ())) w := by
  intro l
  induction l with
  | nil => intro _; simp
  | cons i l ih =>
    intro h
    rw [List.forIn_cons, Sem.run_bind, h i (by simp)]
    by_cases e : (f i == g i) = true
    · rw [if_pos e, Result.andThen_ok]
      simp only [List.all_cons, e, Bool.true_and]
      exact ih (fun j hj => h j (by simp [hj]))
    · rw [if_neg e, Result.andThen_ok]
      simp [e]
theorem run_eq16 (d : Nat) (f g : Nat → Nat) (w : World) : (Op.equalIn (d + 2) 36 (.agg (bv f)) (.agg (bv g))).run Try.prog w = .ok ((List.range 16).all fun i => f i == g i) w := by
  obtain ⟨i5, hi, hz0, hz1, hz2⟩ := info_parts try_info5
  unfold Op.equalIn
  simp only [Sem.run_bind, run_underlying Try.underlying36, Result.andThen_ok, sizeOf, typeInfo, run_program, hi, hz1, Sem.run_pure]
  rw [Std.Legacy.Range.forIn_eq_forIn_range']
  rw [run_all f g w _ _ ?_]
  · rw [show List.range' 0 (Std.Legacy.Range.size [:16]) 1 = List.range 16 from rfl]
    by_cases e : ((List.range 16).all fun i => f i == g i) = true
    · rw [if_pos e, e]; simp
    · have e' : ((List.range 16).all fun i => f i == g i) = false := by simpa using e
      rw [if_neg e, e']; simp
  · intro i hi s
    have h16 : i < 16 := by
      have := List.mem_range'_1.mp hi
      simp [Std.Legacy.Range.size] at this; omega
    have hb : ((((f i : Nat) : Int)) == ((g i : Nat) : Int)) = (f i == g i) := eq_lit _ _
    simp only [Nat.mul_one, Sem.run_bind, run_part f h16, run_part g h16, Result.andThen_ok, run_equalIn_int _ d 5 .u8 .u8 _ _ Try.underlying5, hb]
    cases f i == g i <;> simp
theorem all_self (f : Nat → Nat) : ((List.range 16).all fun i => f i == f i) = true := by simp
theorem run_same (f : Nat → Nat) (w : World) : (Op.equalIn 10000 36 (.agg (bv f)) (.agg (bv f))).run Try.prog w = .ok true w := by
  rw [run_eq16 9998 f f w, all_self]
theorem guard36 : Try.prog.eqGuardType Try.prog.depth 36 = false := by kernel_rfl
/-- a block's number, out of its bytes -/
def numF (f : Nat → Nat) : Nat → Nat
  | 0 => 0
  | k + 1 => numF f k + f k * 256 ^ k
theorem numF_lt {f : Nat → Nat} (hf : ∀ i, f i < 256) (k : Nat) : numF f k < 256 ^ k := by
  induction k with
  | zero => simp [numF]
  | succ k ih =>
    have h1 : f k * 256 ^ k ≤ 255 * 256 ^ k := Nat.mul_le_mul_right _ (by have := hf k; omega)
    rw [numF, Nat.pow_succ]
    omega
theorem byt_numF {f : Nat → Nat} (hf : ∀ i, f i < 256) (k i : Nat) (hi : i < k) : byt (numF f k) i = f i := by
  induction k with
  | zero => omega
  | succ k ih =>
    rw [numF]
    unfold byt
    by_cases h : i = k
    · subst h
      rw [Nat.add_mul_div_right _ _ (Nat.pow_pos (by decide)), Nat.div_eq_of_lt (numF_lt hf i), Nat.zero_add, Nat.mod_eq_of_lt (hf i)]
    · have e : f k * 256 ^ k = 256 ^ i * (256 * (f k * 256 ^ (k - 1 - i))) := by
        have : (256 : Nat) ^ k = 256 ^ i * (256 * 256 ^ (k - 1 - i)) := by
          rw [← Nat.pow_succ', ← Nat.pow_add]; congr 1; omega
        rw [this]; ac_rfl
      rw [e, Nat.add_mul_div_left _ _ (Nat.pow_pos (by decide)), Nat.add_mul_mod_self_left]
      exact ih (by omega)
theorem byt_ext {a b : Nat} (ha : a < 2 ^ 128) (hb : b < 2 ^ 128) (h : ∀ i, i < 16 → byt a i = byt b i) : a = b := by
  have key : ∀ k, k ≤ 16 → a % 256 ^ k = b % 256 ^ k := by
    intro k
    induction k with
    | zero => intro _; simp [Nat.mod_one]
    | succ k ih =>
      intro hk
      have h1 := h k (by omega)
      unfold byt at h1
      rw [Nat.pow_succ, Nat.mod_mul, Nat.mod_mul, ih (by omega), h1]
  have := key 16 (Nat.le_refl _)
  rwa [show (256 : Nat) ^ 16 = 2 ^ 128 from by decide, Nat.mod_eq_of_lt ha, Nat.mod_eq_of_lt hb] at this
theorem blk_numF {f : Nat → Nat} (hf : ∀ i, f i < 256) : blk (numF f 16) = bv f := bv_congr (fun i hi => byt_numF hf 16 i hi)
theorem numF_lt16 {f : Nat → Nat} (hf : ∀ i, f i < 256) : numF f 16 < 2 ^ 128 := by
  have := numF_lt hf 16
  rwa [show (256 : Nat) ^ 16 = 2 ^ 128 from by decide] at this

theorem Arr.set_val {w : World} {g k x : Nat} {f : Nat → Nat} {u : Value} (h : Arr w g f) (hu : u = .int .u8 (x : Int)) : Arr (w.setCell ⟨g, k, none⟩ u) g (upd f k x) := by subst hu; exact h.set
set_option maxRecDepth 100000 in
set_option maxHeartbeats 1000000 in
theorem number_nat (N : Nat) (hN : N < 9223372036854775808) (w : World) :
    Calls Try.prog 45 #[.int .i64 (N : Int)] w fun e w' => e = .returned (.agg (blk N)) ∧ Below w.heap.size w w' := by
  have HNN := Lib.hid hN
  clear hN
  go_enter Try.func45, Try.ntmps45
  go_wp2_with fail
  go_loopw [0, 3] (fun n i wr => ∃ (k m : Nat) (h : Nat → Nat), i = .int .i64 (k : Int) ∧ n = .int .i64 (m : Int) ∧ k ≤ 8 ∧ m ≤ 9223372036854775807 ∧ Hid (m = N / 256 ^ k ∧ (∀ j, j < k → h j = byt N j) ∧ ∀ j, k ≤ j → h j = 0) ∧ Arr wr w.heap.size h ∧ Below w.heap.size w wr) (fun n _ _ => (intOf n).toNat)
  case atStart => exact ⟨0, N, _, rfl, rfl, by omega, by have := HNN.out; omega, Lib.hid ⟨by simp, fun j hj => absurd hj (by omega), fun _ _ => rfl⟩, Arr.zero _ _ rfl, (Below.refl _ _).alloc (Nat.le_refl _) _⟩
  case round =>
    obtain ⟨k, m, h, rfl, rfl, hk, hm, H, ha, hbel⟩ := hrel
    by_cases h0 : m = 0
    · subst h0
      have he : Arr wr w.heap.size (byt N) := by
        obtain ⟨h1, h2, h3⟩ := H.out
        refine ha.congr (fun j hj => ?_)
        by_cases hjk : j < k
        · exact h2 j hjk
        · rw [h3 j (by omega)]
          unfold byt
          have hd : N / 256 ^ j = 0 := by
            rw [show 256 ^ j = 256 ^ k * 256 ^ (j - k) by rw [← Nat.pow_add]; congr 1; omega, ← Nat.div_div_eq_div_mul, ← h1, Nat.zero_div]
          rw [hd]
      clear ha H h
      go_wp2_with (first
        | ((with_reducible show wpList _ _ _ _ _ _); refine wp_load_arr rfl (.tmp 2) rfl w.heap.size (byt N) rfl he ?_)
        | ((with_reducible show wpList _ _ _ _ _ _); refine wp_store_arr rfl (.tmp 2) (.tmp 14) rfl w.heap.size (byt N) (byt N) rfl rfl he ?_))
      exact bodyPost_ret (results_arr rfl _ _ w.heap.size (byt N) rfl he.setRow) rfl ⟨rfl, below_setRow hbel (by omega) _⟩
    · have hk8 : k < 8 := by
        rcases Nat.lt_or_ge k 8 with h | h
        · exact h
        · have hN := HNN.out
          have h1 := H.out.1
          have : k = 8 := by omega
          rw [this, Nat.div_eq_of_lt (by omega)] at h1
          omega
      have hcell := ha.cell (show k < 16 by omega)
      have hfree := ha.free k
      have hpos : 0 < (m : Int) := by omega
      go_wp2_with fail
      go_roundw
      case rel =>
        refine ⟨k + 1, m / 256, upd h k (m % 256), by go_num, val_int (by omega), by omega, by omega, Lib.hid ?_, Arr.set_val (x := m % 256) ha (by rw [Int.natCast_emod]; rfl), hbel.setCell (by simp) _⟩
        obtain ⟨h1, h2, h3⟩ := H.out
        refine ⟨by rw [h1, Nat.div_div_eq_div_mul, Nat.pow_succ], fun j hj => ?_, fun j hj => ?_⟩
        · unfold upd
          split
          · rename_i e; rw [e, h1]; rfl
          · exact h2 j (by omega)
        · unfold upd
          rw [if_neg (by omega)]; exact h3 j (by omega)
      case measure => simp [intOf]; omega
set_option maxRecDepth 100000 in
set_option maxHeartbeats 400000 in
theorem number_neg (n : Int) (hn : n < 0) (w : World) :
    Calls Try.prog 45 #[.int .i64 n] w fun e w' => e = .returned (.agg (blk 0)) ∧ Below w.heap.size w w' := by
  go_enter Try.func45, Try.ntmps45
  go_wp2_with fail
  go_loopw [0, 3] (fun m i wr => m = .int .i64 n ∧ i = .int .i64 0 ∧ Arr wr w.heap.size (fun _ => 0) ∧ Below w.heap.size w wr) (fun _ _ _ => 0)
  case atStart => exact ⟨rfl, rfl, Arr.zero _ _ rfl, (Below.refl _ _).alloc (Nat.le_refl _) _⟩
  case round =>
    obtain ⟨rfl, rfl, he0, hbel⟩ := hrel
    have he : Arr wr w.heap.size (byt 0) := he0.congr (fun i _ => by simp [byt])
    clear he0
    go_wp2_with (first
      | ((with_reducible show wpList _ _ _ _ _ _); refine wp_load_arr rfl (.tmp 2) rfl w.heap.size (byt 0) rfl he ?_)
      | ((with_reducible show wpList _ _ _ _ _ _); refine wp_store_arr rfl (.tmp 2) (.tmp 14) rfl w.heap.size (byt 0) (byt 0) rfl rfl he ?_))
    exact bodyPost_ret (results_arr rfl _ _ w.heap.size (byt 0) rfl he.setRow) rfl ⟨rfl, below_setRow hbel (by omega) _⟩
theorem number_any (n : Int) (hn : n ≤ 9223372036854775807) (w : World) :
    Calls Try.prog 45 #[.int .i64 n] w fun e w' => e = .returned (.agg (blk n.toNat)) ∧ Below w.heap.size w w' := by
  by_cases h : n < 0
  · rw [show n.toNat = 0 by omega]; exact number_neg n h w
  · obtain ⟨N, rfl⟩ := Int.eq_ofNat_of_zero_le (show 0 ≤ n by omega)
    exact number_nat N (by omega) w
/-- the bytes of a list, as far as they go, as a block -/
def ofL (l : List Nat) (i : Nat) : Nat := l.getD i 0
theorem ofL_lt {l : List Nat} (h : ∀ x ∈ l, x < 256) (i : Nat) : ofL l i < 256 := by
  unfold ofL
  by_cases hi : i < l.length
  · simp [List.getD, List.getElem?_eq_getElem hi]; exact h _ (List.getElem_mem hi)
  · simp [List.getD, List.getElem?_eq_none (show l.length ≤ i by omega)]
set_option maxRecDepth 100000 in
set_option maxHeartbeats 1000000 in
theorem block_walk (A : Option Addr) (n c : Nat) (l : List Nat) (w : World) (hl : Bytes w A n l) :
    Calls Try.prog 38 #[.slice A n c] w fun e w' => e = .returned (.agg (bv (ofL l))) ∧ Below w.heap.size w w' := by
  have hlen := hl.len
  go_enter Try.func38, Try.ntmps38
  go_wp2_with fail
  go_loopw [4] (fun i wr => ∃ (k : Nat) (h : Nat → Nat), i = .int .i64 (k : Int) ∧ k ≤ 16 ∧ k ≤ n ∧ Hid (∀ j, j < 16 → h j = if j < k then ofL l j else 0) ∧ Arr wr w.heap.size (fun _ => 0) ∧ Arr wr (w.heap.size + 1) h ∧ Below w.heap.size w wr) (fun i _ => 16 - (intOf i).toNat)
  case atStart => exact ⟨0, _, rfl, by omega, by omega, Lib.hid (fun j hj => rfl), (Arr.zero _ _ rfl).alloc _, Arr.zero _ _ (by simp), ((Below.refl _ _).alloc (Nat.le_refl _) _).alloc (by simp) _⟩
  case round =>
    obtain ⟨k, h, rfl, hk, hkn, H, hz, ha, hbel⟩ := hrel
    by_cases hlt : k < 16 ∧ k < n
    · obtain ⟨h16, hn⟩ := hlt
      obtain ⟨ad, x, rfl, hxd, hx, _, hc⟩ := (hl.below hbel).at_ hn
      have HX := Lib.hid hxd
      clear hxd
      have hcell := ha.cell h16
      have hfree := ha.free k
      go_wp2_with fail
      go_roundw
      case rel =>
        refine ⟨k + 1, upd h k x, by go_num, by omega, by omega, Lib.hid (fun j hj => ?_), hz.far (by simp) _, ha.set, hbel.setCell (by simp) _⟩
        unfold upd
        by_cases e : j = k
        · subst e; rw [if_pos rfl, if_pos (by omega)]; exact HX.out.symm
        · rw [if_neg e, H.out j hj]
          by_cases hjk : j < k
          · rw [if_pos hjk, if_pos (by omega)]
          · rw [if_neg hjk, if_neg (by omega)]
      case measure => simp [intOf]; omega
    · have he : Arr wr (w.heap.size + 1) (ofL l) := by
        refine ha.congr (fun j hj => ?_)
        rw [H.out j hj]
        by_cases hjk : j < k
        · rw [if_pos hjk]
        · rw [if_neg hjk]
          unfold ofL
          simp [List.getD, List.getElem?_eq_none (show l.length ≤ j by have := hl.1; omega)]
      clear ha H h
      have hor : k = 16 ∨ (k < 16 ∧ k = n) := by omega
      clear hlt
      rcases hor with hk16 | ⟨hk16, hkn⟩
      all_goals
        first
          | subst hk16
          | (have hge : n ≤ k := by omega
             clear hkn)
        go_wp2_with (first
          | ((with_reducible show wpList _ _ _ _ _ _); refine wp_load_arr rfl (.tmp 3) rfl (w.heap.size + 1) (ofL l) rfl he ?_)
          | ((with_reducible show wpList _ _ _ _ _ _); refine wp_store_arr rfl (.tmp 2) (.tmp 21) rfl w.heap.size (fun _ => 0) (ofL l) rfl rfl hz ?_))
        exact bodyPost_ret (results_arr rfl _ _ w.heap.size (ofL l) rfl hz.setRow) rfl ⟨rfl, below_setRow hbel (by omega) _⟩
end Go.Proofs.Ytibfihjcjohadaa
/- The walk of tweak.Xor: the sum of blocks in memory. Condition: at most 2^40 blocks. -/
namespace Go.Proofs.Ytibfihjcjohadaa
open Go.RowKit Go.Op
open Twk (byt dbl hlv tm byt_lt dbl_lt hlv_lt tm_lt up down xor_lt128 byt_xor)
/-- a block's cells as a list -/
def bl (f : Nat → Nat) : List Value := (List.range 16).map fun i => cellOf (f i)
theorem bl_bv (f : Nat → Nat) : (bl f).toArray = bv f := rfl
theorem bl_len (f : Nat → Nat) : (bl f).length = 16 := by simp [bl]
/-- blocks in a row in memory, nil let in -/
def Blocks (w : World) (A : Option Addr) (n : Nat) (l : List Nat) : Prop :=
  l.length = n ∧ n ≤ 1099511627776 ∧ (∀ x ∈ l, x < 2 ^ 128) ∧ (0 < n → ∃ b o, A = some ⟨b, o, none⟩ ∧ ∀ j, j < n → w.rangeAt b (o + j * 16) (bl (byt (l.getD j 0))))
theorem Blocks.at_ {w : World} {A : Option Addr} {n k : Nat} {l : List Nat} (h : Blocks w A n l) (hk : k < n) : ∃ b o x, A = some ⟨b, o, none⟩ ∧ l.getD k 0 = x ∧ x < 2 ^ 128 ∧ l[k]? = some x ∧ w.rangeAt b (o + k * 16) (bl (byt x)) := by
  obtain ⟨hl, _, hx, hc⟩ := h
  obtain ⟨b, o, hA, hc⟩ := hc (by omega)
  have hkl : k < l.length := by omega
  have e : l.getD k 0 = l[k] := by simp [List.getD, List.getElem?_eq_getElem hkl]
  refine ⟨b, o, l.getD k 0, hA, rfl, ?_, ?_, hc k hk⟩
  · rw [e]; exact hx _ (List.getElem_mem hkl)
  · rw [e]; exact List.getElem?_eq_getElem hkl
theorem rangeAt_keep {w w' : World} {b o : Nat} {cs : List Value} (h : w.rangeAt b o cs) (hk : ∀ p : Addr, p.block < w.heap.size → w'.cell? p = w.cell? p) : w'.rangeAt b o cs := fun j v hv => by
  have h1 := h j v hv
  exact (hk _ (World.block_lt_of_cell? w _ h1)).trans h1
theorem Blocks.keep {w w' : World} {A : Option Addr} {n : Nat} {l : List Nat} (h : Blocks w A n l) (hk : ∀ p : Addr, p.block < w.heap.size → w'.cell? p = w.cell? p) : Blocks w' A n l :=
  ⟨h.1, h.2.1, h.2.2.1, fun hn => by
    obtain ⟨b, o, hA, hc⟩ := h.2.2.2 hn
    exact ⟨b, o, hA, fun j hj => rangeAt_keep (hc j hj) hk⟩⟩
theorem Blocks.below {w w' : World} {A : Option Addr} {n : Nat} {l : List Nat} (h : Blocks w A n l) (hb : Below w.heap.size w w') : Blocks w' A n l := h.keep fun _ hp => hb.cell hp
theorem Blocks.alloc {w : World} {A : Option Addr} {n : Nat} {l : List Nat} (h : Blocks w A n l) (o : Obj) : Blocks (w.alloc o) A n l := h.keep fun p hp => World.cell?_alloc_lt w o p hp
/-- a whole block is read out of the middle of a row -/
theorem wp_load_blk {ops : Array Oper} {rest : List Oper} {o : Oper} {a : Act} {w : World} {Q : Exit → Act → World → Prop} (hgd : o.guard = none) (x : Operand) (ho : o.op = .load 36 x)
    (b off : Nat) (f : Nat → Nat) (hx : a.eval x = .pointer (some ⟨b, off, none⟩)) (ha : w.rangeAt b off (bl f))
    (h : wpList Try.prog ops Q rest (a.put o.dst (.agg (bv f))) w) : wpList Try.prog ops Q (o :: rest) a w :=
  wpList_load_mid hgd 36 x ho b off hx (bl f) _ ha Try.underlying36 rfl (by rw [bl_len]; exact size36) h
/-- the sum of blocks -/
def nsum (l : List Nat) : Nat := l.foldl (· ^^^ ·) 0
theorem nsum_snoc (l : List Nat) (x : Nat) : nsum (l ++ [x]) = nsum l ^^^ x := by simp [nsum]
theorem nsum_lt (l : List Nat) (h : ∀ x ∈ l, x < 2 ^ 128) : nsum l < 2 ^ 128 := by
  have key : ∀ l : List Nat, (∀ x ∈ l, x < 2 ^ 128) → ∀ a, a < 2 ^ 128 → l.foldl (· ^^^ ·) a < 2 ^ 128 := by
    intro l
    induction l with
    | nil => intro _ a ha; exact ha
    | cons x l ih => intro h a ha; exact ih (fun y hy => h y (by simp [hy])) _ (xor_lt128 ha (h x (by simp)))
  exact key l h 0 (by decide)
set_option maxRecDepth 100000 in
set_option maxHeartbeats 1000000 in
theorem xor_any (A : Option Addr) (n c : Nat) (l : List Nat) (w : World) (hl : Blocks w A n l) :
    Calls Try.prog 47 #[.slice A n c] w fun e w' => e = .returned (.agg (blk (nsum l))) ∧ Below w.heap.size w w' := by
  have hn := hl.2.1
  have hll : Hid (l.length = n) := hl.1
  go_enter Try.func47, Try.ntmps47
  go_wp2_with fail
  go_loopw [9] (fun i wr => ∃ (k : Nat), i = .int .i64 (k : Int) ∧ k ≤ n ∧ Arr wr w.heap.size (byt (nsum (l.take k))) ∧ Below w.heap.size w wr ∧ w.heap.size + 1 ≤ wr.heap.size) (fun i _ => n - (intOf i).toNat)
  case atStart => exact ⟨0, rfl, by omega, (Arr.zero _ _ rfl).congr (fun i _ => by simp [nsum, byt]), (Below.refl _ _).alloc (Nat.le_refl _) _, by simp⟩
  case round =>
    obtain ⟨k, rfl, hk, ha, hbel, hsz⟩ := hrel
    by_cases hlt : k < n
    · obtain ⟨b, o, x, rfl, _, hx, hx2, hr⟩ := (hl.below hbel).at_ hlt
      have HS : Hid (nsum (l.take (k + 1)) = nsum (l.take k) ^^^ x) := by
        show _ = _
        rw [List.take_add_one, hx2]; exact nsum_snoc _ _
      clear hx2
      have ha1 : Arr ((wr.alloc (.cells #[.int .u8 0, .int .u8 0, .int .u8 0, .int .u8 0, .int .u8 0, .int .u8 0, .int .u8 0, .int .u8 0, .int .u8 0, .int .u8 0, .int .u8 0, .int .u8 0, .int .u8 0, .int .u8 0, .int .u8 0, .int .u8 0] 36)).setRow wr.heap.size (bv (byt x))) w.heap.size (byt (nsum (l.take k))) := (ha.alloc _).setRow_far (by omega)
      have hb1 : Below w.heap.size w ((wr.alloc (.cells #[.int .u8 0, .int .u8 0, .int .u8 0, .int .u8 0, .int .u8 0, .int .u8 0, .int .u8 0, .int .u8 0, .int .u8 0, .int .u8 0, .int .u8 0, .int .u8 0, .int .u8 0, .int .u8 0, .int .u8 0, .int .u8 0] 36)).setRow wr.heap.size (bv (byt x))) := below_setRow (hbel.alloc (by omega) _) (by omega) _
      obtain ⟨wo, rfl⟩ : ∃ wo : World, wo = wr := ⟨_, rfl⟩
      go_wp2_with (first
        | ((with_reducible show wpList _ _ _ _ _ _); refine wp_load_blk rfl (.tmp 11) rfl b (o + k * 16) (byt x) rfl hr ?_)
        | ((with_reducible show wpList _ _ _ _ _ _); refine wp_store_arr rfl (.tmp 4) (.tmp 12) rfl wo.heap.size (fun _ => 0) (byt x) rfl rfl (Arr.zero _ _ rfl) ?_)
        | ((with_reducible show wpList _ _ _ _ _ _); refine wp_load_arr rfl (.tmp 4) rfl wo.heap.size (byt x) rfl (Arr.zero _ _ rfl).setRow ?_))
      go_loopw [14] (fun i wr => ∃ (m : Nat) (h : Nat → Nat), i = .int .i64 (m : Int) ∧ m ≤ 16 ∧ Hid (∀ j, j < 16 → h j = if j < m then byt (nsum (l.take (k + 1))) j else byt (nsum (l.take k)) j) ∧ Arr wr w.heap.size h ∧ Below w.heap.size w wr ∧ w.heap.size + 1 ≤ wr.heap.size) (fun i _ => 16 - (intOf i).toNat)
      case atStart => exact ⟨0, _, rfl, by omega, Lib.hid (fun j _ => rfl), ha1, hb1, by simp [World.setRow]; omega⟩
      case round =>
        obtain ⟨m, h, rfl, hm, H, ha2, hb2, hs2⟩ := hrel
        clear ha1 hb1 ha hbel hr
        by_cases hlt2 : m < 16
        · have hix := run_index (f := byt x) hlt2
          have hbx := byt_lt x m
          have hcell := ha2.cell hlt2
          have hfree := ha2.free m
          have HM : Hid (h m = byt (nsum (l.take k)) m) := by show _ = _; rw [H.out m hlt2, if_neg (by omega)]
          have hhm : h m < 256 := by rw [HM.out]; exact byt_lt _ _
          have hxr := u8_xor_nat (h m) (byt x m) hhm hbx
          go_wp2_with fail
          go_roundw
          case rel =>
            refine ⟨m + 1, upd h m (h m ^^^ byt x m), by go_num, by omega, Lib.hid (fun j hj => ?_), ha2.set, hb2.setCell (by simp) _, by simpa [World.setCell] using hs2⟩
            unfold upd
            by_cases e : j = m
            · subst e; rw [if_pos rfl, if_pos (by omega), HS.out, byt_xor, HM.out]
            · rw [if_neg e, H.out j hj]
              by_cases hjm : j < m
              · rw [if_pos hjm, if_pos (by omega)]
              · rw [if_neg hjm, if_neg (by omega)]
          case measure => simp [intOf]; omega
        · have e16 : m = 16 := by omega
          subst e16
          have ha3 : Arr wr w.heap.size (byt (nsum (l.take (k + 1)))) := ha2.congr (fun j hj => by rw [H.out j hj, if_pos hj])
          clear ha2 H
          go_wp2_with fail
          go_roundw
          case rel => exact ⟨k + 1, by go_num, by omega, ha3, hb2, hs2⟩
          case measure => simp [intOf]; omega
    · have e : k = n := by omega
      subst e
      have et : l.take k = l := List.take_of_length_le (by rw [hll.out]; omega)
      rw [et] at ha
      clear et
      go_wp2_with (first
        | ((with_reducible show wpList _ _ _ _ _ _); refine wp_load_arr rfl (.tmp 2) rfl w.heap.size (byt (nsum l)) rfl ha ?_)
        | ((with_reducible show wpList _ _ _ _ _ _); refine wp_store_arr rfl (.tmp 2) (.tmp 26) rfl w.heap.size (byt (nsum l)) (byt (nsum l)) rfl rfl ha ?_))
      exact bodyPost_ret (results_arr rfl _ _ w.heap.size (byt (nsum l)) rfl ha.setRow) rfl ⟨rfl, below_setRow hbel (by omega) _⟩
end Go.Proofs.Ytibfihjcjohadaa
/- Two and three blocks put into a new row, in a plain region and in one that draws its order; what a region that draws reads of whole arrays. No condition but that blocks lie below 2^128. -/
namespace Go.Proofs.Ytibfihjcjohadaa
open Go.RowKit Go.Op
open Twk (byt dbl hlv tm byt_lt dbl_lt hlv_lt tm_lt up down xor_lt128 byt_xor)
theorem info36 : (Try.prog.info? 36).map (fun i => (i.zero, i.size, i.bytes)) = some (some (.agg (bv (fun _ => 0))), 16, 16) := by kernel_rfl
theorem fill_two (f g : Nat → Nat) : Instr.fill (fun i => some (i * 16, 16)) ((Array.range (2 * 16)).map ((Value.agg (bv (fun _ => 0))).cells[· % (Value.agg (bv (fun _ => 0))).cells.size]!)) [(0, .agg (bv f)), (1, .agg (bv g))] = some (bv f ++ bv g) := by kernel_rfl
theorem fill_three (f g h : Nat → Nat) : Instr.fill (fun i => some (i * 16, 16)) ((Array.range (3 * 16)).map ((Value.agg (bv (fun _ => 0))).cells[· % (Value.agg (bv (fun _ => 0))).cells.size]!)) [(0, .agg (bv f)), (1, .agg (bv g)), (2, .agg (bv h))] = some (bv f ++ bv g ++ bv h) := by kernel_rfl
theorem wp_two {o : Oper} {a : Act} {w : World} {K : Act → World → Prop} {Q : Exit → Act → World → Prop} (x y : Operand) (ho : o.op = .buildSlice 46 2 #[(0, x), (1, y)])
    (f g : Nat → Nat) (hx : a.eval x = .agg (bv f)) (hy : a.eval y = .agg (bv g))
    (h : K (a.put o.dst (.slice (some ⟨w.heap.size, 0, none⟩) 2 2)) (w.alloc (.cells (bv f ++ bv g) 36))) : o.wp Try.prog a w K Q := by
  obtain ⟨i, hi, hz0, hz1, hz2⟩ := info_parts info36
  refine wp_buildSlice 46 36 2 _ ho (bv f ++ bv g) i _ Try.underlying46 hi hz0 ?_ ?_ ?_ h
  · rw [hz1]; decide
  · rw [hz1]; decide
  · rw [hz1]
    simp only [List.map_toArray, List.map_cons, List.map_nil, hx, hy]
    exact fill_two f g
theorem wp_three {o : Oper} {a : Act} {w : World} {K : Act → World → Prop} {Q : Exit → Act → World → Prop} (x y z : Operand) (ho : o.op = .buildSlice 46 3 #[(0, x), (1, y), (2, z)])
    (f g k : Nat → Nat) (hx : a.eval x = .agg (bv f)) (hy : a.eval y = .agg (bv g)) (hz : a.eval z = .agg (bv k))
    (h : K (a.put o.dst (.slice (some ⟨w.heap.size, 0, none⟩) 3 3)) (w.alloc (.cells (bv f ++ bv g ++ bv k) 36))) : o.wp Try.prog a w K Q := by
  obtain ⟨i, hi, hz0, hz1, hz2⟩ := info_parts info36
  refine wp_buildSlice 46 36 3 _ ho (bv f ++ bv g ++ bv k) i _ Try.underlying46 hi hz0 ?_ ?_ ?_ h
  · rw [hz1]; decide
  · rw [hz1]; decide
  · rw [hz1]
    simp only [List.map_toArray, List.map_cons, List.map_nil, hx, hy, hz]
    exact fill_three f g k
theorem wpList_two {ops : Array Oper} {rest : List Oper} {o : Oper} {a : Act} {w : World} {Q : Exit → Act → World → Prop} (hg : o.guard = none) (x y : Operand) (ho : o.op = .buildSlice 46 2 #[(0, x), (1, y)])
    (f g : Nat → Nat) (hx : a.eval x = .agg (bv f)) (hy : a.eval y = .agg (bv g))
    (h : wpList Try.prog ops Q rest (a.put o.dst (.slice (some ⟨w.heap.size, 0, none⟩) 2 2)) (w.alloc (.cells (bv f ++ bv g) 36))) : wpList Try.prog ops Q (o :: rest) a w :=
  wpList_plain hg fun _ hK => wp_two x y ho f g hx hy (hK _ _ h)
theorem wpList_three {ops : Array Oper} {rest : List Oper} {o : Oper} {a : Act} {w : World} {Q : Exit → Act → World → Prop} (hg : o.guard = none) (x y z : Operand) (ho : o.op = .buildSlice 46 3 #[(0, x), (1, y), (2, z)])
    (f g k : Nat → Nat) (hx : a.eval x = .agg (bv f)) (hy : a.eval y = .agg (bv g)) (hz : a.eval z = .agg (bv k))
    (h : wpList Try.prog ops Q rest (a.put o.dst (.slice (some ⟨w.heap.size, 0, none⟩) 3 3)) (w.alloc (.cells (bv f ++ bv g ++ bv k) 36))) : wpList Try.prog ops Q (o :: rest) a w :=
  wpList_plain hg fun _ hK => wp_three x y z ho f g k hx hy hz (hK _ _ h)
theorem Blocks.block {W : World} {b : Nat} {t : TypeId} {l : List Nat} {cs : Array Value} {fz : Nat × Nat} (hb : W.heap[b]? = some (.cells cs t fz)) (hm : l.length ≤ 1099511627776) (hx : ∀ x ∈ l, x < 2 ^ 128)
    (hc : ∀ j, j < l.length → ∀ i, i < 16 → cs[j * 16 + i]? = some (cellOf (byt (l.getD j 0) i))) : Blocks W (some ⟨b, 0, none⟩) l.length l :=
  ⟨rfl, hm, hx, fun _ => ⟨b, 0, rfl, fun j hj i v hv => by
    have hi : i < 16 := by have := (List.getElem?_eq_some_iff.mp hv).1; rwa [bl_len] at this
    rw [cell_of_row W b _ cs t fz hb, Nat.zero_add, hc j hj i hi, ← hv]
    simp [bl, List.getElem?_map, List.getElem?_range hi]⟩⟩
theorem app_left {f g : Nat → Nat} {i : Nat} (hi : i < 16) : (bv f ++ bv g)[0 * 16 + i]? = some (cellOf (f i)) := by
  rw [Nat.zero_mul, Nat.zero_add, Array.getElem?_append_left (by rw [bv_size]; exact hi), bv_get hi]
theorem app_right {f g : Nat → Nat} {i : Nat} (hi : i < 16) : (bv f ++ bv g)[1 * 16 + i]? = some (cellOf (g i)) := by
  rw [Nat.one_mul, Array.getElem?_append_right (by rw [bv_size]; omega), bv_size, show 16 + i - 16 = i by omega, bv_get hi]
theorem blocks_two (W : World) (b m n : Nat) (hb : b = W.heap.size) (hm : m < 2 ^ 128) (hn : n < 2 ^ 128) :
    Blocks (W.alloc (.cells (bv (byt m) ++ bv (byt n)) 36)) (some ⟨b, 0, none⟩) 2 [m, n] := by
  subst hb
  refine Blocks.block (l := [m, n]) (heap_alloc_new W _) (by simp) (by simp [hm, hn]) (fun j hj i hi => ?_)
  match j, hj with
  | 0, _ => exact app_left hi
  | 1, _ => exact app_right hi
theorem blocks_three (W : World) (b m n k : Nat) (hb : b = W.heap.size) (hm : m < 2 ^ 128) (hn : n < 2 ^ 128) (hk : k < 2 ^ 128) :
    Blocks (W.alloc (.cells (bv (byt m) ++ bv (byt n) ++ bv (byt k)) 36)) (some ⟨b, 0, none⟩) 3 [m, n, k] := by
  subst hb
  have hs : (bv (byt m) ++ bv (byt n)).size = 32 := by rw [Array.size_append, bv_size, bv_size]
  refine Blocks.block (l := [m, n, k]) (heap_alloc_new W _) (by simp) (by simp [hm, hn, hk]) (fun j hj i hi => ?_)
  match j, hj with
  | 0, _ => rw [Array.getElem?_append_left (by rw [hs]; omega)]; exact app_left hi
  | 1, _ => rw [Array.getElem?_append_left (by rw [hs]; omega)]; exact app_right hi
  | 2, _ => rw [Array.getElem?_append_right (by rw [hs]; omega), hs, show 2 * 16 + i - 32 = i by omega, bv_get hi]; rfl
theorem blocks_nil (w : World) : Blocks w none 0 [] := ⟨rfl, by omega, by simp, fun h => absurd h (by omega)⟩
theorem Arr.range {w : World} {g : Nat} {f : Nat → Nat} (h : Arr w g f) : w.rangeAt g 0 (bl f) := fun j v hv => by
  have hj : j < 16 := by have := (List.getElem?_eq_some_iff.mp hv).1; rwa [bl_len] at this
  rw [Nat.zero_add, h.cell hj, ← hv]
  simp [bl, List.getElem?_map, List.getElem?_range hj]
/-- a whole array, in a region that draws its order -/
theorem yields_arr {ops : Array Oper} {S : World → Prop} {op : Oper} {a : Act} (hw : Region.wanted op (yielded ops a.tmps) = true) (x : Operand) (ho : op.op = .load 36 x)
    (g : Nat) (f : Nat → Nat) (hx : a.eval x = .pointer (some ⟨g, 0, none⟩)) (hS : ∀ w, S w → Arr w g f) : YieldsIf Try.prog ops S op (.agg (bv f)) a :=
  yieldsIf_load_mid hw 36 x ho g 0 hx (bl f) _ (fun w h => (hS w h).range) Try.underlying36 rfl (by rw [bl_len]; exact size36)
/-- two equal blocks are equal, in a region that draws its order -/
theorem yields_same {ops : Array Oper} {S : World → Prop} {op : Oper} {a : Act} (hw : Region.wanted op (yielded ops a.tmps) = true) (x y : Operand) (ho : op.op = .binOp .eql 36 x y 36)
    (f : Nat → Nat) (hx : a.eval x = .agg (bv f)) (hy : a.eval y = .agg (bv f)) : YieldsIf Try.prog ops S op (.bool true) a :=
  .inl ⟨hw, fun w _ => by
    have hs := run_same f w
    have hg := guard36
    unfold execOp
    simp only [ho, hx, hy]
    go_simp⟩
end Go.Proofs.Ytibfihjcjohadaa
/- A row of blocks that the call itself has made, and what an append leaves of it; slices of slices of bytes that came in. Conditions: lengths below 2^40. -/
namespace Go.Proofs.Ytibfihjcjohadaa
open Go.RowKit Go.Op Go.ChangeShapes Go.WideShapes
open Twk (byt dbl hlv tm byt_lt dbl_lt hlv_lt tm_lt up down xor_lt128 byt_xor)
/-- the cells of blocks -/
def blkCells (l : List Nat) : List Value := l.flatMap fun x => bl (byt x)
theorem blkCells_len (l : List Nat) : (blkCells l).length = l.length * 16 := by
  induction l with
  | nil => rfl
  | cons x l ih => unfold blkCells at ih ⊢; rw [List.flatMap_cons, List.length_append, ih, bl_len, List.length_cons]; omega
theorem blkCells_append (l m : List Nat) : blkCells (l ++ m) = blkCells l ++ blkCells m := by unfold blkCells; rw [List.flatMap_append]
theorem blkCells_get (l : List Nat) : ∀ (q i : Nat), i < 16 → (blkCells l)[q * 16 + i]? = (l[q]?).bind fun x => (bl (byt x))[i]? := by
  induction l with
  | nil => intro q i _; simp [blkCells]
  | cons x l ih =>
    intro q i hi
    have e : blkCells (x :: l) = bl (byt x) ++ blkCells l := rfl
    rw [e]
    cases q with
    | zero => rw [Nat.zero_mul, Nat.zero_add, List.getElem?_append_left (by rw [bl_len]; exact hi)]; rfl
    | succ q =>
      rw [List.getElem?_append_right (by rw [bl_len]; omega), bl_len, show (q + 1) * 16 + i - 16 = q * 16 + i by omega, ih q i hi]
      rfl
/-- the value v owns the blocks l, in a block of memory from base on -/
def OwnB (w : World) (base : Nat) (v : Value) (l : List Nat) : Prop :=
  w.ownsRow base 36 16 v l.length (blkCells l) ∧ l.length ≤ 1099511627776 ∧ ∀ x ∈ l, x < 2 ^ 128
theorem ownB_nil (w : World) (base : Nat) : OwnB w base (.slice none 0 0) [] := ⟨World.ownsRow_nil _ _ _ _, by simp, by simp⟩
theorem OwnB.kept {w w' : World} {base : Nat} {v : Value} {l : List Nat} {row : Option Nat} (h : OwnB w base v l) (hg : w.grownBy w' row) (hne : v.ownBlock = none ∨ v.ownBlock ≠ row) : OwnB w' base v l := ⟨h.1.kept hg hne, h.2⟩
theorem OwnB.alloc {w : World} {base : Nat} {v : Value} {l : List Nat} (h : OwnB w base v l) (o : Obj) : OwnB (w.alloc o) base v l := ⟨h.1.alloc o, h.2⟩
theorem OwnB.ge {w : World} {base : Nat} {v : Value} {l : List Nat} (h : OwnB w base v l) : ∀ k, v.ownBlock = some k → base ≤ k ∧ k < w.heap.size := h.1.lt
theorem OwnB.below {w w' : World} {base B : Nat} {v : Value} {l : List Nat} (h : OwnB w base v l) (hb : Below B w w') (hB : w.heap.size ≤ B) : OwnB w' base v l :=
  h.kept (row := none) ⟨hb.os, hb.tape, hb.output, hb.size, fun i hi _ => hb.block i (by omega)⟩ (none_or _)
theorem OwnB.setRow {w : World} {base g : Nat} {v : Value} {l : List Nat} (h : OwnB w base v l) (hne : v.ownBlock ≠ some g) (c : Array Value) : OwnB (w.setRow g c) base v l :=
  h.kept (row := some g) ⟨rfl, rfl, rfl, by simp [World.setRow], fun i _ hi => by
    simp only [World.setRow]
    rw [Array.getElem?_modify, if_neg (fun e => hi (by rw [e]))]⟩ (.inr hne)
theorem OwnB.blocks {w : World} {base : Nat} {v : Value} {l : List Nat} (h : OwnB w base v l) : ∃ A c, v = .slice A l.length c ∧ Blocks w A l.length l := by
  obtain ⟨hr, hle, hx⟩ := h
  rcases hr.2 with ⟨rfl, h0⟩ | ⟨g, cap, cur, rfl, hg⟩
  · have : l = [] := List.eq_nil_of_length_eq_zero h0
    subst this
    exact ⟨none, 0, rfl, blocks_nil w⟩
  · refine ⟨_, _, rfl, rfl, hle, hx, fun _ => ⟨g, 0, rfl, fun j hj i u hu => ?_⟩⟩
    have hi : i < 16 := by have := (List.getElem?_eq_some_iff.mp hu).1; rwa [bl_len] at this
    have h1 := hr.cells (g := g) rfl (j * 16 + i) u (by
      rw [blkCells_get l j i hi, List.getElem?_eq_getElem hj]
      simp only [List.getD, List.getElem?_eq_getElem hj, Option.getD_some] at hu
      exact hu)
    rw [add_off] at h1
    rw [← h1]; congr 2; omega
theorem OwnB.rd {w : World} {base m c : Nat} {A : Option Addr} {l : List Nat} (h : OwnB w base (.slice A m c) l) : Blocks w A m l := by
  obtain ⟨A', c', e, hB⟩ := h.blocks
  injection e with e1 e2 e3
  subst e1 e2
  exact hB
/-- two rows that share nothing -/
def Apart (v u : Value) : Prop := ∀ g, v.ownBlock = some g → u.ownBlock ≠ some g
theorem Apart.symm {v u : Value} (h : Apart v u) : Apart u v := fun g h1 h2 => h g h2 h1
theorem Apart.ne {v u : Value} (h : Apart v u) : v.ownBlock = none ∨ v.ownBlock ≠ u.ownBlock := by
  rcases hv : v.ownBlock with _ | g
  · exact .inl rfl
  · exact .inr (fun e => h g hv e.symm)
/-- what is appended to lies apart from what lay apart, or in a new block -/
theorem Apart.grown {v u v' : Value} {n : Nat} (h : Apart v u) (hv : v'.ownBlock = v.ownBlock ∨ v'.ownBlock = some n) (hu : ∀ k, u.ownBlock = some k → k < n) : Apart v' u := by
  intro g h1 h2
  rcases hv with hv | hv
  · exact h g (hv.symm.trans h1) h2
  · have h3 := hu g h2
    rw [hv] at h1
    injection h1 with h1
    omega
theorem Arr.grown {w w' : World} {g : Nat} {f : Nat → Nat} {row : Option Nat} (h : Arr w g f) (hg : w.grownBy w' row) (hne : some g ≠ row) : Arr w' g f := (hg.block g h.lt hne).trans h
theorem run_appB_nil (w : World) (base : Nat) (ty : TypeId) (i : TypeInfo) (hi : Try.prog.info? 36 = some i) (v : Value) (n : Nat) (xs : List Value) (hown : w.ownsRow base 36 16 v n xs) (c : Nat) :
    (Builtin.append_ #[46, 46] ty #[v, .slice none 0 c]).run Try.prog w = .ok v w := by
  rcases hown.2 with ⟨rfl, rfl⟩ | ⟨g, cap, cur, rfl, _, _, hnc, _⟩
  · simp [Builtin.append_, run_underlying Try.underlying46, sizeOf, typeInfo, hi, Builtin.lenOf, Builtin.firstCells]
  · simp [Builtin.append_, run_underlying Try.underlying46, sizeOf, typeInfo, hi, Builtin.lenOf, Builtin.firstCells, hnc, storeCells]
set_option maxRecDepth 100000 in
/-- 'append(s, x...)' of blocks onto a row of the call's own: x nil, empty or not -/
theorem run_appB (w : World) (ty : TypeId) (base : Nat) (v : Value) (l : List Nat) (hown : OwnB w base v l)
    (A : Option Addr) (m c : Nat) (news : List Nat) (hnews : Blocks w A m news) (hlen : l.length + m ≤ 1099511627776) (hbase : base ≤ w.heap.size) :
    ∃ v' w', (Builtin.append_ #[46, 46] ty #[v, .slice A m c]).run Try.prog w = .ok v' w' ∧ OwnB w' base v' (l ++ news) ∧ w.grownBy w' v.ownBlock ∧ (v'.ownBlock = v.ownBlock ∨ v'.ownBlock = some w.heap.size) := by
  obtain ⟨i, hi, hz0, hz1, hz2⟩ := info_parts info36
  rcases A with _ | ad
  · have hm : m = 0 := by
      rcases Nat.eq_zero_or_pos m with h0 | h0
      · exact h0
      · obtain ⟨_, _, hA, _⟩ := hnews.2.2.2 h0
        cases hA
    subst hm
    have hn : news = [] := List.eq_nil_of_length_eq_zero hnews.1
    subst hn
    exact ⟨v, w, run_appB_nil w base ty i hi v _ _ hown.1 c, by simpa using hown, World.grownBy.refl w _, .inl rfl⟩
  · have hcells : ∀ j u, (blkCells news)[j]? = some u → w.cell? (ad.add j) = some u := by
      intro j u hj
      have hjl : j < m * 16 := by
        have := (List.getElem?_eq_some_iff.mp hj).1
        rwa [blkCells_len, hnews.1] at this
      obtain ⟨b, o, hA, hc⟩ := hnews.2.2.2 (by omega)
      have hA := Option.some.inj hA
      subst hA
      have e : j = j / 16 * 16 + j % 16 := by omega
      rw [e, blkCells_get news _ _ (Nat.mod_lt _ (by decide))] at hj
      have hq : j / 16 < news.length := by rw [hnews.1]; omega
      rw [List.getElem?_eq_getElem hq] at hj
      have h1 := hc (j / 16) (by omega) (j % 16) u (by simpa [List.getD, List.getElem?_eq_getElem hq] using hj)
      rw [add_off, ← h1]; congr 2; omega
    have hone : ∀ u ∈ blkCells news, u.oneCell' = true := by
      intro u hu
      obtain ⟨x, _, hx⟩ := List.mem_flatMap.mp hu
      obtain ⟨y, _, rfl⟩ := List.mem_map.mp hx
      rfl
    obtain ⟨v', w', hr, h2, h3, _, h5⟩ := run_append_own_at (P := Try.prog) w base 46 ty 36 i (.agg (bv (fun _ => 0))) 16 16 Try.underlying46 hi hz0 hz1 hz2 rfl (by decide) v l.length (blkCells l) hown.1 ad m c (blkCells news) (by rw [blkCells_len, hnews.1]) hcells hone (by unfold maxLen; omega) (by omega) hbase
    refine ⟨v', w', hr, ⟨?_, by rw [List.length_append, hnews.1]; exact hlen, fun x hx => ?_⟩, h3, h5⟩
    · rw [List.length_append, hnews.1, blkCells_append]; exact h2
    · rcases List.mem_append.mp hx with hx | hx
      · exact hown.2.2 x hx
      · exact hnews.2.2.1 x hx
set_option maxRecDepth 100000 in
theorem wp_appB {ops : Array Oper} {rest : List Oper} {o : Oper} {a : Act} {w : World} {Q : Exit → Act → World → Prop} (hgd : o.guard = none) (s x : Operand)
    (ho : o.op = .call { callee := .builtin .append, args := #[s, x], argTypes := #[46, 46] })
    (base : Nat) (v : Value) (l : List Nat) (hs : a.eval s = v) (hown : OwnB w base v l)
    (A : Option Addr) (m c : Nat) (news : List Nat) (hx : a.eval x = .slice A m c) (hnews : Blocks w A m news) (hlen : l.length + m ≤ 1099511627776) (hbase : base ≤ w.heap.size)
    (h : ∀ v' w', OwnB w' base v' (l ++ news) → w.grownBy w' v.ownBlock → (v'.ownBlock = v.ownBlock ∨ v'.ownBlock = some w.heap.size) → wpList Try.prog ops Q rest (a.put o.dst v') w') : wpList Try.prog ops Q (o :: rest) a w := by
  refine wpList_plain hgd fun K hK => ?_
  obtain ⟨v', w', hr, h2, h3, h5⟩ := run_appB w o.type base v l hown A m c news hnews hlen hbase
  unfold Oper.wp execOp
  simp only [ho, resolve, invoke, builtin, Sem.run_bind, Sem.run_pure, Result.andThen_ok, List.map_toArray, List.map_cons, List.map_nil, hs, hx, hr]
  exact hK _ _ (h v' w' h2 h3 h5)
theorem fill_one (f : Nat → Nat) : Instr.fill (fun i => some (i * 16, 16)) ((Array.range (1 * 16)).map ((Value.agg (bv (fun _ => 0))).cells[· % (Value.agg (bv (fun _ => 0))).cells.size]!)) [(0, .agg (bv f))] = some (bv f) := by kernel_rfl
theorem wp_one {o : Oper} {a : Act} {w : World} {K : Act → World → Prop} {Q : Exit → Act → World → Prop} (x : Operand) (ho : o.op = .buildSlice 46 1 #[(0, x)])
    (f : Nat → Nat) (hx : a.eval x = .agg (bv f))
    (h : K (a.put o.dst (.slice (some ⟨w.heap.size, 0, none⟩) 1 1)) (w.alloc (.cells (bv f) 36))) : o.wp Try.prog a w K Q := by
  obtain ⟨i, hi, hz0, hz1, hz2⟩ := info_parts info36
  refine wp_buildSlice 46 36 1 _ ho (bv f) i _ Try.underlying46 hi hz0 ?_ ?_ ?_ h
  · rw [hz1]; decide
  · rw [hz1]; decide
  · rw [hz1]
    simp only [List.map_toArray, List.map_cons, List.map_nil, hx]
    exact fill_one f
theorem wpList_one {ops : Array Oper} {rest : List Oper} {o : Oper} {a : Act} {w : World} {Q : Exit → Act → World → Prop} (hg : o.guard = none) (x : Operand) (ho : o.op = .buildSlice 46 1 #[(0, x)])
    (f : Nat → Nat) (hx : a.eval x = .agg (bv f))
    (h : wpList Try.prog ops Q rest (a.put o.dst (.slice (some ⟨w.heap.size, 0, none⟩) 1 1)) (w.alloc (.cells (bv f) 36))) : wpList Try.prog ops Q (o :: rest) a w :=
  wpList_plain hg fun _ hK => wp_one x ho f hx (hK _ _ h)
theorem blocks_one (W : World) (b m : Nat) (hb : b = W.heap.size) (hm : m < 2 ^ 128) : Blocks (W.alloc (.cells (bv (byt m)) 36)) (some ⟨b, 0, none⟩) 1 [m] := by
  subst hb
  refine Blocks.block (l := [m]) (heap_alloc_new W _) (by simp) (by simp [hm]) (fun j hj i hi => ?_)
  match j, hj with
  | 0, _ => rw [Nat.zero_mul, Nat.zero_add]; exact bv_get hi
theorem ownB_one (W : World) (base b m : Nat) (hb : b = W.heap.size) (hbase : base ≤ b) (hm : m < 2 ^ 128) : OwnB (W.alloc (.cells (bv (byt m)) 36)) base (.slice (some ⟨b, 0, none⟩) 1 1) [m] := by
  subst hb
  refine ⟨⟨blkCells_len _, .inr ⟨W.heap.size, 1, bv (byt m), rfl, hbase, heap_alloc_new W _, by simp, by unfold maxLen; omega, by rw [bv_size], ?_⟩⟩, by simp, by simp [hm]⟩
  rfl
/-- a slice of slices of bytes that reads as lists -/
def RowsB (w : World) (A : Option Addr) (n : Nat) (ls : List (List Nat)) : Prop :=
  ls.length = n ∧ n ≤ maxLen ∧ ∀ j, j < n → ∃ ad B m c l, A = some ad ∧ ls[j]? = some l ∧ w.cell? (ad.add j) = some (.slice B m c) ∧ m ≤ c ∧ Bytes w B m l
theorem RowsB.below {w w' : World} {A : Option Addr} {n : Nat} {ls : List (List Nat)} (h : RowsB w A n ls) (hb : Below w.heap.size w w') : RowsB w' A n ls :=
  ⟨h.1, h.2.1, fun j hj => by
    obtain ⟨ad, B, m, c, l, hA, hl, hc, hm, hB⟩ := h.2.2 j hj
    refine ⟨ad, B, m, c, l, hA, hl, (hb.cell ?_).trans hc, hm, hB.below hb⟩
    exact World.block_lt_of_cell? w _ hc⟩
theorem rows_of_trod {H : Type} {enc : TypeId × Value → H} {W : World} {a : Option Addr} {len cap : Nat} {d : DataW H} {p : List MemPlace} {s : Bool} {B : Nat}
    (h : DataW.Trod enc Try.prog W B (fun _ => true) s 44 (.slice a len cap) d p) : ∃ ls, len ≤ cap ∧ RowsB W a len ls := by
  obtain ⟨fuel, hf⟩ := h
  rcases Go.Deep.open_int_rows Try.underlying44 Try.underlying29 Try.underlying5 (by kernel_rfl) (by kernel_rfl) hf with ⟨hcs, _⟩ | ⟨x, l, c, A, L, C, Z, hcs, _, hl, hm, _, hrow⟩
  · simp [Value.cells] at hcs
    obtain ⟨rfl, rfl, rfl⟩ := hcs
    exact ⟨[], Nat.le_refl _, rfl, Nat.zero_le _, fun j hj => absurd hj (by omega)⟩
  · simp [Value.cells] at hcs
    obtain ⟨rfl, rfl, rfl⟩ := hcs
    refine ⟨(List.range len).map fun r => ((Z r).take (L r)).map Int.toNat, hl, by simp, by omega, fun j hj => ?_⟩
    obtain ⟨h1, h2, h3, h4, h5, h6, h7⟩ := hrow j (by omega)
    refine ⟨x, A j, L j, C j, _, rfl, by rw [List.getElem?_map, List.getElem?_range hj]; rfl, h1, h2, by simp [h4]; omega, by omega, fun y hy => ?_, fun h0 => ?_⟩
    · obtain ⟨z, hz, rfl⟩ := List.mem_map.mp hy
      have := bounds_u8 (h5 z (List.mem_of_mem_take hz))
      omega
    · rcases hA : A j with _ | ad
      · have := h6 hA; omega
      · obtain ⟨_, hc⟩ := h7 ad hA
        refine ⟨ad, rfl, fun q hq => ?_⟩
        have hqz : q < (Z j).length := by omega
        have hb := bounds_u8 (h5 (Z j)[q] (List.getElem_mem hqz))
        rw [hc q (by omega)]
        congr 2
        simp [List.getD, List.getElem?_map, hq, List.getElem?_eq_getElem hqz]
        omega
end Go.Proofs.Ytibfihjcjohadaa
/- Laws at an operation of a plain region: a guard that says yes, two blocks held against each other, a block of noughts. No condition. -/
namespace Go.Proofs.Ytibfihjcjohadaa
open Go.RowKit Go.Op
open Twk (byt)
/-- are the first 16 the same? -/
def eqB (f g : Nat → Nat) : Bool := (List.range 16).all fun i => f i == g i
theorem eqB_self (f : Nat → Nat) : eqB f f = true := all_self f
theorem eqB_iff (f g : Nat → Nat) : eqB f g = true ↔ ∀ i, i < 16 → f i = g i := by
  unfold eqB
  rw [List.all_eq_true]
  constructor
  · intro h i hi; exact eq_of_beq (h i (List.mem_range.mpr hi))
  · intro h i hi; rw [h i (List.mem_range.mp hi)]; simp
theorem run_eqB (f g : Nat → Nat) (w : World) : (Op.equalIn 10000 36 (.agg (bv f)) (.agg (bv g))).run Try.prog w = .ok (eqB f g) w := run_eq16 9998 f g w
theorem exec_eqB {o : Oper} {a : Act} (x y : Operand) (ho : o.op = .binOp .eql 36 x y 36) (f g : Nat → Nat) (hx : a.eval x = .agg (bv f)) (hy : a.eval y = .agg (bv g)) (w : World) :
    (execOp a.eval o).run Try.prog w = .ok (.value (.bool (eqB f g))) w := by
  have hs := run_eqB f g w
  have hg := guard36
  unfold execOp
  simp only [ho, hx, hy]
  go_simp
/-- two blocks held against each other -/
theorem wpList_eqB {ops : Array Oper} {rest : List Oper} {o : Oper} {a : Act} {w : World} {Q : Exit → Act → World → Prop} (hgd : o.guard = none) (x y : Operand) (ho : o.op = .binOp .eql 36 x y 36)
    (f g : Nat → Nat) (hx : a.eval x = .agg (bv f)) (hy : a.eval y = .agg (bv g))
    (h : wpList Try.prog ops Q rest (a.put o.dst (.bool (eqB f g))) w) : wpList Try.prog ops Q (o :: rest) a w := by
  refine wpList_plain hgd fun K hK => ?_
  unfold Oper.wp
  rw [exec_eqB x y ho f g hx hy w]
  exact hK _ _ h
theorem wpList_same {ops : Array Oper} {rest : List Oper} {o : Oper} {a : Act} {w : World} {Q : Exit → Act → World → Prop} (hgd : o.guard = none) (x y : Operand) (ho : o.op = .binOp .eql 36 x y 36)
    (f : Nat → Nat) (hx : a.eval x = .agg (bv f)) (hy : a.eval y = .agg (bv f))
    (h : wpList Try.prog ops Q rest (a.put o.dst (.bool true)) w) : wpList Try.prog ops Q (o :: rest) a w :=
  wpList_eqB hgd x y ho f f hx hy (by rw [eqB_self]; exact h)
/-- a block of noughts -/
theorem wpList_noughts {ops : Array Oper} {rest : List Oper} {o : Oper} {a : Act} {w : World} {Q : Exit → Act → World → Prop} (hgd : o.guard = none) (ho : o.op = .build 36 #[])
    (h : wpList Try.prog ops Q rest (a.put o.dst (.agg (bv (byt 0)))) w) : wpList Try.prog ops Q (o :: rest) a w := by
  refine wpList_plain hgd fun K hK => ?_
  unfold Oper.wp execOp
  simp only [ho]
  go_simp
  exact hK _ _ h
end Go.Proofs.Ytibfihjcjohadaa
