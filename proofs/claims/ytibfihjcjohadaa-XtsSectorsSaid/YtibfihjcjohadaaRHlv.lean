/-
  The walk of prioryref4.Halve: of any block the bytes of its half; nothing that was there is written.
-/
import Derived.Test.YtibfihjcjohadaaMT
import Derived.RegionTactic
namespace Go.Proofs.Ytibfihjcjohadaa
open Go.RowKit Go.Op
open Twk (shr1 hlvF evenF shr1_lt hlvF_lt evenF_lt)
theorem and1_eq {x : Nat} (hx : x < 256) : (bits .and .u8 (x : Int) 1 == 1) = decide (x % 2 = 1) := by
  have h := u8_and_nat x 1 hx (by decide)
  rw [show ((1 : Nat) : Int) = 1 from rfl] at h
  rw [h, show (1 : Int) = ((1 : Nat) : Int) from rfl, eq_lit]
  exact eq_of_beq (Fld.all256 (p := fun a => ((a &&& 1 == 1) == decide (a % 2 = 1))) (by decide +kernel) hx)
theorem or_carry {x y : Nat} (hx : x < 256) : bits .or .u8 ((x : Int) / 2) ((y : Int) * 128 % 256) = (((x / 2) ||| (y * 128 % 256) : Nat) : Int) := by
  have e := or_shr (x := x) (c := y * 128 % 256) hx (by omega)
  have e2 : ((y * 128 % 256 : Nat) : Int) = (y : Int) * 128 % 256 := by omega
  rw [← e2, e]
set_option maxRecDepth 100000 in
set_option maxHeartbeats 1000000 in
theorem rhalve_walk (f : Nat → Nat) (hf : ∀ i, f i < 256) (w : World) :
    Calls Try.prog 42 #[.agg (bv f)] w fun e w' => e = .returned (.agg (bv (hlvF f))) ∧ Below w.heap.size w w' := by
  have hg := evenF_lt hf
  have HG := Lib.hid hg
  have h0 := hf 0
  have hx := xor135 h0
  have ht := and1_eq h0
  clear hf hg
  by_cases hodd : f 0 % 2 = 1
  all_goals
    have hcell0 : ((w.alloc (.cells (bv f) 36)).alloc (.cells #[.int .u8 0, .int .u8 0, .int .u8 0, .int .u8 0, .int .u8 0, .int .u8 0, .int .u8 0, .int .u8 0, .int .u8 0, .int .u8 0, .int .u8 0, .int .u8 0, .int .u8 0, .int .u8 0, .int .u8 0, .int .u8 0] 36)).cell? ⟨w.heap.size, 0, none⟩ = some (.int .u8 ((f 0 : Nat) : Int)) := ((Arr.new _ f _ rfl).alloc _).cell (by decide)
    have hfree0 : ((w.alloc (.cells (bv f) 36)).alloc (.cells #[.int .u8 0, .int .u8 0, .int .u8 0, .int .u8 0, .int .u8 0, .int .u8 0, .int .u8 0, .int .u8 0, .int .u8 0, .int .u8 0, .int .u8 0, .int .u8 0, .int .u8 0, .int .u8 0, .int .u8 0, .int .u8 0] 36)).frozen? ⟨w.heap.size, 0, none⟩ = false := ((Arr.new _ f _ rfl).alloc _).free 0
    first
      | (have htt : (bits .and .u8 ((f 0 : Nat) : Int) 1 == 1) = true := by rw [ht]; simpa using hodd)
      | (have htt : (bits .and .u8 ((f 0 : Nat) : Int) 1 == 1) = false := by rw [ht]; simpa using hodd)
    clear ht
    have HO := Lib.hid hodd
    clear hodd
    go_enter Try.func42, Try.ntmps42
    go_wp2_with fail
    clear hcell0 hfree0 hx htt
    go_loopw [5] (fun i wr => ∃ (k : Nat) (h : Nat → Nat), k ≤ 16 ∧ i = .int .i64 (k : Int) ∧ Hid (∀ j, j < k → h j = shr1 (evenF f) j) ∧ Arr wr w.heap.size (evenF f) ∧ Arr wr (w.heap.size + 1) (fun _ => 0) ∧ Arr wr (w.heap.size + 2) h ∧ Below w.heap.size w wr) (fun i _ => (16 - intOf i).toNat)
    case atStart =>
      refine ⟨0, _, by omega, rfl, Lib.hid (fun j h1 => absurd h1 (by omega)), ?_, ?_, Arr.zero _ _ (by simp), ?_⟩
      · first
          | (rw [bv_upd]
             refine (((Arr.new _ _ _ rfl).alloc _).alloc _).congr (fun i _ => ?_)
             unfold upd evenF
             by_cases h0 : i = 0
             · rw [if_pos h0, if_pos ⟨HO.out, h0⟩]
             · rw [if_neg h0, if_neg (fun h => h0 h.2)])
          | (refine (((Arr.new _ f _ rfl).alloc _).alloc _).congr (fun i _ => ?_)
             unfold evenF
             rw [if_neg (fun h => HO.out h.1)])
      · exact (Arr.zero _ _ (by simp)).alloc _
      · exact (((Below.refl _ _).alloc (Nat.le_refl _) _).alloc (by simp) _).alloc (by simp; omega) _
    case round =>
      obtain ⟨k, h, hk, rfl, H, hg, hz, ha, hbel⟩ := hrel
      by_cases hk0 : k = 16
      · subst hk0
        have hs : Arr wr (w.heap.size + 2) (shr1 (evenF f)) := ha.congr (fun i hi => H.out i hi)
        have h15lt := shr1_lt HG.out 15
        clear H ha
        have hcell := hs.cell (show 15 < 16 by decide)
        have hfree := hs.free 15
        have hx := or128 h15lt
        first
          | (have hodd : f 0 % 2 = 1 := HO.out
             have ha3 : Arr (wr.setCell ⟨w.heap.size + 2, 15, none⟩ (.int .u8 ((shr1 (evenF f) 15 ||| 128 : Nat) : Int))) (w.heap.size + 2) (hlvF f) := by
               refine (Arr.set hs).congr (fun i hi => ?_)
               unfold upd hlvF
               by_cases h0 : i = 15
               · rw [if_pos h0, if_pos ⟨hodd, h0⟩]
               · rw [if_neg h0, if_neg (fun h => h0 h.2)]
             have hz3 := hz.far (p := ⟨w.heap.size + 2, 15, none⟩) (show w.heap.size + 1 ≠ w.heap.size + 2 by omega) (.int .u8 ((shr1 (evenF f) 15 ||| 128 : Nat) : Int))
             have hb3 := hbel.setCell (p := ⟨w.heap.size + 2, 15, none⟩) (by simp) (.int .u8 ((shr1 (evenF f) 15 ||| 128 : Nat) : Int))
             clear hodd
             go_wp2_with (first
               | ((with_reducible show wpList _ _ _ _ _ _); refine wp_load_arr rfl (.tmp 4) rfl (w.heap.size + 2) (hlvF f) rfl ha3 ?_)
               | ((with_reducible show wpList _ _ _ _ _ _); refine wp_store_arr rfl (.tmp 2) (.tmp 43) rfl (w.heap.size + 1) (fun _ => 0) (hlvF f) rfl rfl hz3 ?_))
             exact bodyPost_ret (results_arr rfl _ _ (w.heap.size + 1) (hlvF f) rfl hz3.setRow) rfl ⟨rfl, below_setRow hb3 (by omega) _⟩)
          | (have hodd : ¬ f 0 % 2 = 1 := HO.out
             have ha3 : Arr wr (w.heap.size + 2) (hlvF f) := by
               refine hs.congr (fun i hi => ?_)
               unfold hlvF
               rw [if_neg (fun h => hodd h.1)]
             clear hodd hs hcell hfree hx
             go_wp2_with (first
               | ((with_reducible show wpList _ _ _ _ _ _); refine wp_load_arr rfl (.tmp 4) rfl (w.heap.size + 2) (hlvF f) rfl ha3 ?_)
               | ((with_reducible show wpList _ _ _ _ _ _); refine wp_store_arr rfl (.tmp 2) (.tmp 43) rfl (w.heap.size + 1) (fun _ => 0) (hlvF f) rfl rfl hz ?_))
             exact bodyPost_ret (results_arr rfl _ _ (w.heap.size + 1) (hlvF f) rfl hz.setRow) rfl ⟨rfl, below_setRow hbel (by omega) _⟩)
      · have hm : k < 16 := by omega
        have hgm := HG.out k
        have HS : Hid (shr1 (evenF f) k = (evenF f k / 2) ||| (if k = 15 then 0 else evenF f (k + 1) * 128 % 256)) := rfl
        have hcellg := hg.cell hm
        have hcell := ha.cell hm
        have hfree := ha.free k
        by_cases h15 : k = 15
        · obtain rfl := h15
          have e8 : ((evenF f 15 : Nat) : Int) / 2 = ((evenF f 15 / 2 : Nat) : Int) := by omega
          have E8 := Lib.hid e8
          clear e8
          go_wp2_with fail
          go_roundw
          case rel =>
            rw [E8.out]
            refine ⟨16, upd h 15 (evenF f 15 / 2), by omega, rfl, Lib.hid ?_, hg.far (show w.heap.size ≠ w.heap.size + 2 by omega) _, hz.far (show w.heap.size + 1 ≠ w.heap.size + 2 by omega) _, ha.set, hbel.setCell (show w.heap.size ≤ w.heap.size + 2 by omega) _⟩
            intro j hj
            unfold upd
            split
            · rename_i e; rw [e, HS.out]; simp
            · exact H.out j (by omega)
          case measure => simp [intOf]
        · have hlt15 : k < 15 := by omega
          clear h15 hk0
          have hor := or_carry (y := evenF f (k + 1)) hgm
          have hcellg1 := hg.cell (show k + 1 < 16 by omega)
          have hset : ∀ u, (wr.setCell ⟨w.heap.size + 2, k, none⟩ u).cell? ⟨w.heap.size, k + 1, none⟩ = some (.int .u8 ((evenF f (k + 1) : Nat) : Int)) := fun u => (hg.far (p := ⟨w.heap.size + 2, k, none⟩) (show w.heap.size ≠ w.heap.size + 2 by omega) u).cell (by omega)
          have e8 : ((evenF f k : Nat) : Int) / 2 = ((evenF f k / 2 : Nat) : Int) := by omega
          have E8 := Lib.hid e8
          clear e8
          go_wp2_with fail
          go_region
          go_wp2
          go_roundw
          case rel =>
            refine ⟨k + 1, upd (upd h k (evenF f k / 2)) k (evenF f k / 2 ||| evenF f (k + 1) * 128 % 256), by omega, by go_num, Lib.hid ?_,
              ((hg.far (show w.heap.size ≠ w.heap.size + 2 by omega) _).far (show w.heap.size ≠ w.heap.size + 2 by omega) _).drew,
              ((hz.far (show w.heap.size + 1 ≠ w.heap.size + 2 by omega) _).far (show w.heap.size + 1 ≠ w.heap.size + 2 by omega) _).drew,
              (Arr.set (Arr.set_val (x := evenF f k / 2) ha (val_int E8.out))).drew,
              ((hbel.setCell (show w.heap.size ≤ w.heap.size + 2 by omega) _).setCell (show w.heap.size ≤ w.heap.size + 2 by omega) _).drew⟩
            intro j hj
            unfold upd
            split
            · rename_i e; rw [e, HS.out, if_neg (by omega)]
            · exact H.out j (by omega)
          case measure => simp [intOf]; omega
end Go.Proofs.Ytibfihjcjohadaa
