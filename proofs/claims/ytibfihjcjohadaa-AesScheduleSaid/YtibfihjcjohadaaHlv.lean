/-
  The walk of tweak.Halve: of any block the bytes of its half; nothing that was there is written.
-/
import Derived.Test.YtibfihjcjohadaaDbl
import Derived.Test.YtibfihjcjohadaaPHlv
namespace Go.Proofs.Ytibfihjcjohadaa
open Go.RowKit Go.Op
open Twk (shr1 hlvF evenF shr1_lt hlvF_lt evenF_lt)
theorem and1_odd {x : Nat} (hx : x < 256) : (bits .and .u8 (x : Int) 1 != 0) = decide (x % 2 = 1) := and1 hx
theorem or_shr {x c : Nat} (hx : x < 256) (hc : c < 256) : bits .or .u8 ((x : Int) / 2) (c : Int) = (((x / 2) ||| c : Nat) : Int) := by
  have e := u8_or_nat (x / 2) c (by omega) hc
  have e2 : ((x / 2 : Nat) : Int) = (x : Int) / 2 := by omega
  rw [← e2, e]
theorem or128 {x : Nat} (hx : x < 256) : bits .or .u8 (x : Int) 128 = ((x ||| 128 : Nat) : Int) := by
  have e := u8_or_nat x 128 hx (by decide)
  rwa [show ((128 : Nat) : Int) = 128 from rfl] at e
set_option maxRecDepth 100000 in
set_option maxHeartbeats 1000000 in
theorem halve_walk (f : Nat → Nat) (hf : ∀ i, f i < 256) (w : World) :
    Calls Try.prog 41 #[.agg (bv f)] w fun e w' => e = .returned (.agg (bv (hlvF f))) ∧ Below w.heap.size w w' := by
  have hg := evenF_lt hf
  have HG := Lib.hid hg
  have h0 := hf 0
  have hx := xor135 h0
  have ht := and1 h0
  clear hf hg
  by_cases hodd : f 0 % 2 = 1
  all_goals
    have hcell0 : ((w.alloc (.cells (bv f) 36)).alloc (.cells #[.int .u8 0, .int .u8 0, .int .u8 0, .int .u8 0, .int .u8 0, .int .u8 0, .int .u8 0, .int .u8 0, .int .u8 0, .int .u8 0, .int .u8 0, .int .u8 0, .int .u8 0, .int .u8 0, .int .u8 0, .int .u8 0] 36)).cell? ⟨w.heap.size, 0, none⟩ = some (.int .u8 ((f 0 : Nat) : Int)) := ((Arr.new _ f _ rfl).alloc _).cell (by decide)
    have hfree0 : ((w.alloc (.cells (bv f) 36)).alloc (.cells #[.int .u8 0, .int .u8 0, .int .u8 0, .int .u8 0, .int .u8 0, .int .u8 0, .int .u8 0, .int .u8 0, .int .u8 0, .int .u8 0, .int .u8 0, .int .u8 0, .int .u8 0, .int .u8 0, .int .u8 0, .int .u8 0] 36)).frozen? ⟨w.heap.size, 0, none⟩ = false := ((Arr.new _ f _ rfl).alloc _).free 0
    first
      | (have htt : (bits .and .u8 ((f 0 : Nat) : Int) 1 != 0) = true := by rw [ht]; simpa using hodd)
      | (have htt : (bits .and .u8 ((f 0 : Nat) : Int) 1 != 0) = false := by rw [ht]; simpa using hodd)
    clear ht
    have HO := Lib.hid hodd
    clear hodd
    go_enter Try.func41, Try.ntmps41
    go_wp2_with fail
    clear hcell0 hfree0 hx htt
    go_loopw [4, 5] (fun c i wr => ∃ (k : Nat) (h : Nat → Nat), k ≤ 16 ∧ i = .int .i64 ((k : Int) - 1) ∧ c = .int .u8 (((if k = 16 then 0 else evenF f k * 128 % 256 : Nat)) : Int) ∧ Hid (∀ j, k ≤ j → j < 16 → h j = shr1 (evenF f) j) ∧ Arr wr w.heap.size (evenF f) ∧ Arr wr (w.heap.size + 1) h ∧ Below w.heap.size w wr) (fun _ i _ => (intOf i + 1).toNat)
    case atStart =>
      refine ⟨16, _, Nat.le_refl _, rfl, rfl, Lib.hid (fun j h1 h2 => absurd h1 (by omega)), ?_, Arr.zero _ _ (by simp), ((Below.refl _ _).alloc (Nat.le_refl _) _).alloc (by simp) _⟩
      first
        | (rw [bv_upd]
           refine ((Arr.new _ _ _ rfl).alloc _).congr (fun i _ => ?_)
           unfold upd evenF
           by_cases h0 : i = 0
           · rw [if_pos h0, if_pos ⟨HO.out, h0⟩]
           · rw [if_neg h0, if_neg (fun h => h0 h.2)])
        | (refine ((Arr.new _ f _ rfl).alloc _).congr (fun i _ => ?_)
           unfold evenF
           rw [if_neg (fun h => HO.out h.1)])
    case round =>
      obtain ⟨k, h, hk, rfl, rfl, H, hg, ha, hbel⟩ := hrel
      by_cases hk0 : k = 0
      · subst hk0
        rw [show ((0 : Nat) : Int) - 1 = -1 from rfl]
        have hs : Arr wr (w.heap.size + 1) (shr1 (evenF f)) := ha.congr (fun i hi => H.out i (Nat.zero_le _) hi)
        have h15lt := shr1_lt HG.out 15
        clear H ha
        have hcell := hs.cell (show 15 < 16 by decide)
        have hfree := hs.free 15
        have hx := or128 h15lt
        first
          | (have hodd : f 0 % 2 = 1 := HO.out
             have ha3 : Arr (wr.setCell ⟨w.heap.size + 1, 15, none⟩ (.int .u8 ((shr1 (evenF f) 15 ||| 128 : Nat) : Int))) (w.heap.size + 1) (hlvF f) := by
               refine (Arr.set hs).congr (fun i hi => ?_)
               unfold upd hlvF
               by_cases h0 : i = 15
               · rw [if_pos h0, if_pos ⟨hodd, h0⟩]
               · rw [if_neg h0, if_neg (fun h => h0 h.2)]
             have hb3 := hbel.setCell (p := ⟨w.heap.size + 1, 15, none⟩) (by simp) (.int .u8 ((shr1 (evenF f) 15 ||| 128 : Nat) : Int))
             clear hodd
             go_wp2_with (first
               | ((with_reducible show wpList _ _ _ _ _ _); refine wp_load_arr rfl (.tmp 2) rfl (w.heap.size + 1) (hlvF f) rfl ha3 ?_)
               | ((with_reducible show wpList _ _ _ _ _ _); refine wp_store_arr rfl (.tmp 2) (.tmp 36) rfl (w.heap.size + 1) (hlvF f) (hlvF f) rfl rfl ha3 ?_))
             exact bodyPost_ret (results_arr rfl _ _ (w.heap.size + 1) (hlvF f) rfl ha3.setRow) rfl ⟨rfl, below_setRow hb3 (by omega) _⟩)
          | (have hodd : ¬ f 0 % 2 = 1 := HO.out
             have ha3 : Arr wr (w.heap.size + 1) (hlvF f) := by
               refine hs.congr (fun i hi => ?_)
               unfold hlvF
               rw [if_neg (fun h => hodd h.1)]
             clear hodd hs hcell hfree hx
             go_wp2_with (first
               | ((with_reducible show wpList _ _ _ _ _ _); refine wp_load_arr rfl (.tmp 2) rfl (w.heap.size + 1) (hlvF f) rfl ha3 ?_)
               | ((with_reducible show wpList _ _ _ _ _ _); refine wp_store_arr rfl (.tmp 2) (.tmp 36) rfl (w.heap.size + 1) (hlvF f) (hlvF f) rfl rfl ha3 ?_))
             exact bodyPost_ret (results_arr rfl _ _ (w.heap.size + 1) (hlvF f) rfl ha3.setRow) rfl ⟨rfl, below_setRow hbel (by omega) _⟩)
      · obtain ⟨m, rfl⟩ : ∃ m, k = m + 1 := ⟨k - 1, by omega⟩
        rw [show ((m + 1 : Nat) : Int) - 1 = (m : Int) by omega]
        have hm : m < 16 := by omega
        obtain ⟨c, hc⟩ : ∃ c : Nat, c = (if m + 1 = 16 then 0 else evenF f (m + 1) * 128 % 256) := ⟨_, rfl⟩
        have hc2 : c < 256 := by rw [hc]; split <;> omega
        have hgm := HG.out m
        have hor := or_shr hgm hc2
        have HS : Hid (shr1 (evenF f) m = (evenF f m / 2) ||| c) := by
          show _ = _
          rw [hc]; unfold shr1
          by_cases h15 : m = 15
          · rw [if_pos h15, if_pos (by omega)]
          · rw [if_neg h15, if_neg (by omega)]
        rw [← hc]
        clear hc
        have hcellg := hg.cell hm
        have hcell := ha.cell hm
        have hfree := ha.free m
        have hcellg2 : ∀ u, (wr.setCell ⟨w.heap.size + 1, m, none⟩ u).cell? ⟨w.heap.size, m, none⟩ = some (.int .u8 ((evenF f m : Nat) : Int)) := fun u => (hg.far (p := ⟨w.heap.size + 1, m, none⟩) (by simp) u).cell hm
        go_wp2_with fail
        go_roundw
        case rel =>
          refine ⟨m, upd h m ((evenF f m / 2) ||| c), by omega, rfl, val_int ?_, Lib.hid ?_, hg.far (by simp) _, ha.set, hbel.setCell (by simp) _⟩
          · rw [if_neg (by omega)]; omega
          · intro j hj hj2
            unfold upd
            split
            · rename_i e; rw [e, HS.out]
            · exact H.out j (by omega) hj2
        case measure => simp [intOf]
end Go.Proofs.Ytibfihjcjohadaa
