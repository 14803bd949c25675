/-
  The walk of prioryref4.Double: of any block the bytes of its double; nothing that was there is written.
-/
import Derived.Test.YtibfihjcjohadaaMT
namespace Go.Proofs.Ytibfihjcjohadaa
open Go.RowKit Go.Op
open Twk (shl1 dblF shl1_lt dblF_lt)
abbrev zero16 : Obj := .cells #[.int .u8 0, .int .u8 0, .int .u8 0, .int .u8 0, .int .u8 0, .int .u8 0, .int .u8 0, .int .u8 0, .int .u8 0, .int .u8 0, .int .u8 0, .int .u8 0, .int .u8 0, .int .u8 0, .int .u8 0, .int .u8 0] 36
set_option maxRecDepth 100000 in
set_option maxHeartbeats 1000000 in
theorem rdouble_walk (f : Nat → Nat) (hf : ∀ i, f i < 256) (w : World) :
    Calls Try.prog 40 #[.agg (bv f)] w fun e w' => e = .returned (.agg (bv (dblF f))) ∧ Below w.heap.size w w' := by
  have HF := Lib.hid hf
  clear hf
  go_enter Try.func40, Try.ntmps40
  go_wp2_with fail
  go_loopw [4, 5] (fun c i wr => ∃ (k : Nat) (h : Nat → Nat), k ≤ 16 ∧ i = .int .i64 (k : Int) ∧ c = .int .u8 (((if k = 0 then 0 else f (k - 1) / 128 : Nat)) : Int) ∧ Hid (∀ j, j < k → h j = shl1 f j) ∧ Arr wr w.heap.size f ∧ Arr wr (w.heap.size + 1) (fun _ => 0) ∧ Arr wr (w.heap.size + 2) h ∧ Below w.heap.size w wr) (fun _ i _ => 16 - (intOf i).toNat)
  case atStart => exact ⟨0, _, Nat.zero_le _, rfl, rfl, Lib.hid (fun j hj => absurd hj (by omega)), ((Arr.new _ f _ rfl).alloc _).alloc _, (Arr.zero _ _ (by simp)).alloc _, Arr.zero _ _ (by simp), (((Below.refl _ _).alloc (Nat.le_refl _) _).alloc (by simp) _).alloc (by simp; omega) _⟩
  case round =>
    obtain ⟨k, h, hk, rfl, rfl, H, hb, hr, ha, hbel⟩ := hrel
    by_cases hlt : k < 16
    · have hfk := HF.out k
      obtain ⟨c, hc⟩ : ∃ c : Nat, c = (if k = 0 then 0 else f (k - 1) / 128) := ⟨_, rfl⟩
      have hc2 : c < 256 := by rw [hc]; have := HF.out (k - 1); split <;> omega
      have hor := or_shl (x := f k) hc2
      have HS : Hid (shl1 f k = (f k * 2 % 256) ||| c) := by show _ = _; rw [hc]; rfl
      rw [← hc]
      clear hc
      have hcellb := hb.cell hlt
      have hcell := ha.cell hlt
      have hfree := ha.free k
      have hcellb2 : ∀ u, (wr.setCell ⟨w.heap.size + 2, k, none⟩ u).cell? ⟨w.heap.size, k, none⟩ = some (.int .u8 ((f k : Nat) : Int)) := fun u => (hb.far (p := ⟨w.heap.size + 2, k, none⟩) (by simp) u).cell hlt
      go_wp2_with fail
      go_roundw
      case rel =>
        refine ⟨k + 1, upd h k ((f k * 2 % 256) ||| c), by omega, by go_num, val_int ?_, Lib.hid ?_, hb.far (by simp <;> omega) _, hr.far (by simp) _, ha.set, hbel.setCell (by simp; omega) _⟩
        · rw [if_neg (by omega), show k + 1 - 1 = k by omega]; omega
        · intro j hj
          unfold upd
          split
          · rename_i e; rw [e, HS.out]
          · exact H.out j (by omega)
      case measure => simp [intOf]; omega
    · have e : k = 16 := by omega
      subst e
      have hf15 := HF.out 15
      rw [if_neg (by decide), show 16 - 1 = 15 from rfl]
      have ha2 : Arr wr (w.heap.size + 2) (shl1 f) := ha.congr H.out
      have h0lt := shl1_lt HF.out 0
      clear ha H h hb
      have hcell := ha2.cell (show 0 < 16 by decide)
      have hfree := ha2.free 0
      have hx := xor135 h0lt
      by_cases hc : 128 ≤ f 15
      · have ht : (((f 15 / 128 : Nat) : Int) == 1) = true := by
          rw [show (1 : Int) = ((1 : Nat) : Int) from rfl, eq_lit]; simp; omega
        have ha3 : Arr (wr.setCell ⟨w.heap.size + 2, 0, none⟩ (.int .u8 ((shl1 f 0 ^^^ 135 : Nat) : Int))) (w.heap.size + 2) (dblF f) := by
          refine (Arr.set ha2).congr (fun i hi => ?_)
          unfold upd dblF
          by_cases h0 : i = 0
          · rw [if_pos h0, if_pos ⟨hc, h0⟩]
          · rw [if_neg h0, if_neg (fun h => h0 h.2)]
        have hr3 := hr.far (p := ⟨w.heap.size + 2, 0, none⟩) (by simp) (.int .u8 ((shl1 f 0 ^^^ 135 : Nat) : Int))
        have hb3 := hbel.setCell (p := ⟨w.heap.size + 2, 0, none⟩) (by simp) (.int .u8 ((shl1 f 0 ^^^ 135 : Nat) : Int))
        clear hc
        go_wp2_with (first
          | ((with_reducible show wpList _ _ _ _ _ _); refine wp_load_arr rfl (.tmp 3) rfl (w.heap.size + 2) (dblF f) rfl ha3 ?_)
          | ((with_reducible show wpList _ _ _ _ _ _); refine wp_store_arr rfl (.tmp 2) (.tmp 28) rfl (w.heap.size + 1) (fun _ => 0) (dblF f) rfl rfl hr3 ?_))
        refine bodyPost_ret (results_arr rfl _ _ (w.heap.size + 1) (dblF f) rfl hr3.setRow) rfl ⟨rfl, below_setRow hb3 (by omega) _⟩
      · have ht : (((f 15 / 128 : Nat) : Int) == 1) = false := by
          rw [show (1 : Int) = ((1 : Nat) : Int) from rfl, eq_lit]; simp; omega
        have ha3 : Arr wr (w.heap.size + 2) (dblF f) := by
          refine ha2.congr (fun i hi => ?_)
          unfold dblF
          rw [if_neg (fun h => hc h.1)]
        clear hc ha2
        go_wp2_with (first
          | ((with_reducible show wpList _ _ _ _ _ _); refine wp_load_arr rfl (.tmp 3) rfl (w.heap.size + 2) (dblF f) rfl ha3 ?_)
          | ((with_reducible show wpList _ _ _ _ _ _); refine wp_store_arr rfl (.tmp 2) (.tmp 28) rfl (w.heap.size + 1) (fun _ => 0) (dblF f) rfl rfl hr ?_))
        refine bodyPost_ret (results_arr rfl _ _ (w.heap.size + 1) (dblF f) rfl hr.setRow) rfl ⟨rfl, below_setRow hbel (by omega) _⟩
end Go.Proofs.Ytibfihjcjohadaa
