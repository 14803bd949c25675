/-
  The walk of the reference's New of a key of 32 bytes.
-/
import Derived.Test.YtibfihjcjohadaaRNewA
namespace Go.Proofs.Ytibfihjcjohadaa
open Go.RowKit Go.Op
open Sbx (sub sub_lt word word_lt)
open Aes (rot8 rot8_lt keyW keyWs sched nextW turnW words)
open Fld (mul)
set_option maxRecDepth 100000 in
set_option maxHeartbeats 8000000 in
theorem rnew32 (X : Nat) (A : Option Addr) (cap : Nat) (l : List Nat) (w : World) (hl : Bytes w A 32 l) (hX : BoxM w X) :
    Calls Try.prog 63 #[.pointer (some ⟨X, 0, none⟩), .slice A 32 cap] w fun e w' => RnewQ l X w e w' := by
  obtain ⟨ad, hA, _⟩ := hl.2.2.2 (by omega)
  subst hA
  have hN : RnS w w.heap.size X (.slice none 0 0) [] (w.alloc (.cells #[.pointer (some ⟨X, 0, none⟩), .slice none 0 0] 73)) :=
    ⟨RciphB.new _ _ _, ownW_nil _ _, World.rowIs.alloc hX _, (Below.refl _ _).alloc (Nat.le_refl _) _, by simp, Nat.le_refl _, hX.lt⟩
  go_enter Try.func63, Try.ntmps63
  go_wp2_with fail
  revert hN
  generalize w.alloc (.cells #[.pointer (some ⟨X, 0, none⟩), .slice none 0 0] 73) = w2
  generalize hCe : w.heap.size = C
  intro hN
  rw [← hCe] at hN
  clear hX
  go_loopw [7] (fun i wr => ∃ (k : Nat) (v : Value), i = .int .i64 (k : Int) ∧ k ≤ 8 ∧ RnS w C X v ((keyWs l).take k) wr) (fun i _ => 8 - (intOf i).toNat)
  case atStart => exact ⟨0, _, rfl, by omega, by rw [hCe] at hN; exact hN⟩
  case round =>
    clear hN hCe
    obtain ⟨k, v, rfl, hk, hS0⟩ := hrel
    clear w2
    by_cases hkN : k = 8
    · subst hkN
      rw [show ((8 : Nat) : Int) = 8 from rfl]
      rw [List.take_of_length_le (by rw [keyWs_len' hl.1]; exact Nat.le_refl 8)] at hS0
      go_wp2_with fail
      go_loopw [8, 9, 10] (fun rv i t wr => ∃ (k : Nat) (v : Value) (r : Nat), r = Fld.npow 2 ((k - 1) / 8) ∧ i = .int .i64 (k : Int) ∧ rv = .int .u8 (r : Int) ∧ 8 ≤ k ∧ k ≤ 60 ∧ RnS w C X v (sched 8 (keyWs l) (k - 8)) wr) (fun _ i _ _ => 60 - (intOf i).toNat)
      case atStart => exact ⟨8, _, 1, by decide, rfl, rfl, by omega, by omega, hS0⟩
      case round =>
        obtain ⟨k, v, r, hr, rfl, rfl, hk1, hk2, hS1⟩ := hrel
        clear hS0
        by_cases hkT : k = 60
        · subst hkT
          have hW : sched 8 (keyWs l) (60 - 8) = words l := by unfold words; rw [hl.1]
          rw [hW] at hS1
          clear hW
          obtain ⟨A, c, hv⟩ := hS1.own.form
          subst hv
          have hC : Rciph wr C X (words l) := ⟨A, c, hS1.ciph, hS1.box, hS1.own.rd⟩
          have hb := hS1.bel
          have hlt := hS1.lt
          clear hS1 hr
          go_wp2_with fail
          go_ret
          exact ⟨C, rfl, hC, hb, hlt⟩
        · have hk3 : k < 60 := by omega
          clear hkT
          have HR : Box (r = Fld.npow 2 ((k - 1) / 8)) := ⟨hr⟩
          clear hr
          obtain ⟨m, rfl⟩ : ∃ m, k = m + 1 := ⟨k - 1, by omega⟩
          obtain ⟨ws, hws⟩ : ∃ ws, ws = sched 8 (keyWs l) (m + 1 - 8) := ⟨_, rfl⟩
          rw [← hws] at hS1
          have hwl : ws.length = m + 1 := by rw [hws, Aes.sched_len, keyWs_len' hl.1]; omega
          have HWS := Box.mk hws
          have HWL := Box.mk hwl
          obtain ⟨A2, c2, hv⟩ := hS1.own.form
          rw [hwl] at hv
          subst hv
          obtain ⟨ad2, rfl⟩ := words_some hS1.own.rd (by omega)
          obtain ⟨t, htq⟩ : ∃ t, ws.getD m 0 = t := ⟨_, rfl⟩
          have ht : t < 4294967296 := by rw [← htq]; exact Aes.getD_lt hS1.own.2.2 m
          have hct := words_cell hS1.own.rd (show m < m + 1 by omega)
          rw [htq] at hct
          have HT := Box.mk htq
          have hck := hS1.ciph.keys
          clear hws hwl htq
          rw [show ((m + 1 : Nat) : Int) = (m : Int) + 1 by omega]
          by_cases h0 : (m + 1) % 8 = 0
          · have h0' : (((m : Int) + 1) % 8 == 0) = true := by simp; omega
            have hrt := rot8_lt ht
            have hor := or_rot ht
            have HR0 : Box (r = Aes.rcon ((m + 1) / 8)) := ⟨by rw [npow_next m 8 (by decide) h0, HR.out]; rfl⟩
            have HRN : Box (mul r 2 = Fld.npow 2 ((m + 1) / 8)) := ⟨by rw [npow_next m 8 (by decide) h0, HR.out]; rfl⟩
            have hrl : r < 256 := by rw [HR.out]; exact Fld.npow_lt (by decide) _
            have hwr := word_lt (w := rot8 t)
            have v1 := u32_nat r (by omega)
            have v2 : IntKind.u32.wrap ((r : Int) * 16777216) = (r : Int) * 16777216 := by have := u32_nat (r * 16777216) (by omega); rw [Int.natCast_mul] at this; exact this
            obtain ⟨y, hye⟩ : ∃ y, word (rot8 t) ^^^ r * 16777216 = y := ⟨_, rfl⟩
            have hy : y < 4294967296 := by rw [← hye]; exact Aes.xor_lt32 hwr (by omega)
            have hxr : bits .xor .u32 ((word (rot8 t) : Nat) : Int) ((r : Int) * 16777216) = (y : Int) := by
              have := u32_xor_nat (word (rot8 t)) (r * 16777216) hwr (by omega)
              rw [hye, Int.natCast_mul] at this; exact this
            have HY : Box (y = Aes.turnW 8 (m + 1) (ws.getD m 0)) := ⟨by unfold Aes.turnW; rw [if_pos h0, HT.out, ← HR0.out, ← hye]⟩
            have HWD := Box.mk (fun w h => rword_any X (rot8 t) hrt w h)
            have HML := Box.mk (fun w => rmul_any r 2 hrl (by decide) w)
            obtain ⟨r2, hr2⟩ : ∃ r2, mul r 2 = r2 := ⟨_, rfl⟩
            rw [hr2] at HML HRN
            have HR2 : Box (r2 = Fld.npow 2 ((m + 1) / 8)) := ⟨HRN.out⟩
            obtain ⟨z, hz⟩ : ∃ z, rot8 t = z := ⟨_, rfl⟩
            rw [hz] at HWD hxr hor hrt
            obtain ⟨u, hu⟩ : ∃ u, word z = u := ⟨_, rfl⟩
            rw [hu] at HWD hxr
            clear hye h0 hr2 HRN hz hu HT hwr
            go_wp2_with fail
            refine (HWD.out _ hS1.box).mono ?_
            rintro e w4 ⟨rfl, j, rfl⟩
            have hS0 := hS1.drewN j
            go_wp2_with fail
            refine (HML.out _).mono ?_
            rintro e w' ⟨rfl, rfl⟩
            clear hS1 hct hck h0' hrt HR HR0 hor v1 v2 hxr HWD HML
            revert hS0
            generalize wr.drewN j = w4
            intro hS0
            go_wp2_with fail
            have hO : OwnW w4.drew (C + 1) (.slice (some ad2) (m + 1) c2) ws := hS0.own
            obtain ⟨q, hq, hq2⟩ : ∃ q : Nat, q = m + 1 - 8 ∧ q < m + 1 := ⟨_, rfl, by omega⟩
            have hqi : (m : Int) + 1 - 8 = (q : Int) := by omega
            have HQ := Box.mk hqi
            obtain ⟨b, hbq⟩ : ∃ b, ws.getD q 0 = b := ⟨_, rfl⟩
            have hbl : b < 4294967296 := by rw [← hbq]; exact Aes.getD_lt hS0.own.2.2 q
            have hcq := words_cell hS0.own.rd hq2
            rw [hbq] at hcq
            have hby : b ^^^ y < 4294967296 := Aes.xor_lt32 hbl hy
            have hxy := u32_xor_nat b y hbl hy
            have hS9 : RciphB w4.drew C X (.slice (some ad2) (m + 1) c2) ∧ CellIs (ad2.add q) (.int .u32 (b : Int)) w4.drew := ⟨hS0.ciph, hcq⟩
            have hB0 : Below (C + 1) w4.drew w4.drew := Below.refl _ _
            have HBQ : Box (b ^^^ y = nextW 8 ws) := ⟨by unfold nextW; rw [HWL.out, HY.out, ← hbq, hq]; rfl⟩
            clear hcq hbq hq hqi
            have i0 : (0 : Int) ≤ (q : Int) := by omega
            have i1 : (q : Int) < (m : Int) + 1 := by omega
            refine wp_region_Z 20 15 (fun w' => RciphB w' C X (.slice (some ad2) (m + 1) c2)) (CellIs (ad2.add q) (.int .u32 (b : Int))) (by kernel_rfl) ?_
            have hS := hS9
            refine wpAnyZ_any (i := 0) (oi := ⟨some 107, _, _, _, _, _⟩) (v := .pointer (some ⟨C, 0, none⟩)) rfl (by kernel_rfl) (by kernel_rfl) (by kernel_rfl) (by kernel_rfl) (fun _ _ _ h => h) (Or.inl ⟨by kernel_rfl, fun w' _ => ?_⟩) ⟨.inr hS.1, .inr hS.2⟩ ?_
            · go_simp
            simp only [Act.put, List.setIfInBounds_toArray, List.set_cons_zero, List.set_cons_succ]
            refine wpAnyZ_any (i := 1) (oi := ⟨some 108, _, _, _, _, _⟩) (v := .pointer (some ⟨C, 0, none⟩)) rfl (by kernel_rfl) (by kernel_rfl) (by kernel_rfl) (by kernel_rfl) (fun _ _ _ h => h) (Or.inl ⟨by kernel_rfl, fun w' _ => ?_⟩) ⟨.inr hS.1, .inr hS.2⟩ ?_
            · go_simp
            simp only [Act.put, List.setIfInBounds_toArray, List.set_cons_zero, List.set_cons_succ]
            refine wpAnyZ_any (i := 2) (oi := ⟨some 109, _, _, _, _, _⟩) (v := .pointer (some ⟨C, 0, none⟩)) rfl (by kernel_rfl) (by kernel_rfl) (by kernel_rfl) (by kernel_rfl) (fun _ _ _ h => h) (Or.inl ⟨by kernel_rfl, fun w' _ => ?_⟩) ⟨.inr hS.1, .inr hS.2⟩ ?_
            · go_simp
            simp only [Act.put, List.setIfInBounds_toArray, List.set_cons_zero, List.set_cons_succ]
            refine wpAnyZ_any (i := 3) (oi := ⟨some 110, _, _, _, _, _⟩) (v := .pointer (some ⟨C, 1, none⟩)) rfl (by kernel_rfl) (by kernel_rfl) (by kernel_rfl) (by kernel_rfl) (fun _ _ _ h => h) (Or.inl ⟨by kernel_rfl, fun w' _ => ?_⟩) ⟨.inr hS.1, .inr hS.2⟩ ?_
            · go_simp
            simp only [Act.put, List.setIfInBounds_toArray, List.set_cons_zero, List.set_cons_succ]
            refine wpAnyZ_take (i := 4) (oi := ⟨some 111, _, _, _, _, _⟩) (v := .slice (some ad2) (m + 1) c2) rfl (by kernel_rfl) (by kernel_rfl) (by kernel_rfl) (by kernel_rfl) (fun _ _ _ h => h) (Or.inl ⟨by kernel_rfl, fun w' hSw => ?_⟩) hS ?_
            · (have c := RciphB.keys hSw; go_simp)
            simp only [Act.put, List.setIfInBounds_toArray, List.set_cons_zero, List.set_cons_succ]
            refine wpAnyZ_any (i := 5) (oi := ⟨some 112, _, _, _, _, _⟩) (v := .pointer (some ⟨C, 0, none⟩)) rfl (by kernel_rfl) (by kernel_rfl) (by kernel_rfl) (by kernel_rfl) (fun _ _ _ h => h) (Or.inl ⟨by kernel_rfl, fun w' _ => ?_⟩) ⟨.inr hS.1, .inr hS.2⟩ ?_
            · go_simp
            simp only [Act.put, List.setIfInBounds_toArray, List.set_cons_zero, List.set_cons_succ]
            refine wpAnyZ_any (i := 6) (oi := ⟨some 113, _, _, _, _, _⟩) (v := .pointer (some ⟨C, 0, none⟩)) rfl (by kernel_rfl) (by kernel_rfl) (by kernel_rfl) (by kernel_rfl) (fun _ _ _ h => h) (Or.inl ⟨by kernel_rfl, fun w' _ => ?_⟩) ⟨.inr hS.1, .inr hS.2⟩ ?_
            · go_simp
            simp only [Act.put, List.setIfInBounds_toArray, List.set_cons_zero, List.set_cons_succ]
            refine wpAnyZ_any (i := 7) (oi := ⟨some 114, _, _, _, _, _⟩) (v := .pointer (some ⟨C, 1, none⟩)) rfl (by kernel_rfl) (by kernel_rfl) (by kernel_rfl) (by kernel_rfl) (fun _ _ _ h => h) (Or.inl ⟨by kernel_rfl, fun w' _ => ?_⟩) ⟨.inr hS.1, .inr hS.2⟩ ?_
            · go_simp
            simp only [Act.put, List.setIfInBounds_toArray, List.set_cons_zero, List.set_cons_succ]
            refine wpAnyZ_take (i := 8) (oi := ⟨some 115, _, _, _, _, _⟩) (v := .slice (some ad2) (m + 1) c2) rfl (by kernel_rfl) (by kernel_rfl) (by kernel_rfl) (by kernel_rfl) (fun _ _ _ h => h) (Or.inl ⟨by kernel_rfl, fun w' hSw => ?_⟩) hS ?_
            · (have c := RciphB.keys hSw; go_simp)
            simp only [Act.put, List.setIfInBounds_toArray, List.set_cons_zero, List.set_cons_succ]
            refine wpAnyZ_any (i := 9) (oi := ⟨some 116, _, _, _, _, _⟩) (v := .int .i64 ((m : Int) + 1)) rfl (by kernel_rfl) (by kernel_rfl) (by kernel_rfl) (by kernel_rfl) (fun _ _ _ h => h) (Or.inl ⟨by kernel_rfl, fun w' _ => ?_⟩) ⟨.inr hS.1, .inr hS.2⟩ ?_
            · go_simp
            simp only [Act.put, List.setIfInBounds_toArray, List.set_cons_zero, List.set_cons_succ]
            refine wpAnyZ_any (i := 10) (oi := ⟨some 117, _, _, _, _, _⟩) (v := .int .i64 8) rfl (by kernel_rfl) (by kernel_rfl) (by kernel_rfl) (by kernel_rfl) (fun _ _ _ h => h) (Or.inl ⟨by kernel_rfl, fun w' _ => ?_⟩) ⟨.inr hS.1, .inr hS.2⟩ ?_
            · go_simp
            simp only [Act.put, List.setIfInBounds_toArray, List.set_cons_zero, List.set_cons_succ]
            refine wpAnyZ_any (i := 11) (oi := ⟨some 118, _, _, _, _, _⟩) (v := .int .i64 (q : Int)) rfl (by kernel_rfl) (by kernel_rfl) (by kernel_rfl) (by kernel_rfl) (fun _ _ _ h => h) (Or.inl ⟨by kernel_rfl, fun w' _ => ?_⟩) ⟨.inr hS.1, .inr hS.2⟩ ?_
            · (go_simp; have h := HQ.out; rw [h]; exact IntWalk.i64_in _ (by omega))
            simp only [Act.put, List.setIfInBounds_toArray, List.set_cons_zero, List.set_cons_succ]
            refine wpAnyZ_any (i := 12) (oi := ⟨some 119, _, _, _, _, _⟩) (v := .pointer (some (ad2.add q))) rfl (by kernel_rfl) (by kernel_rfl) (by kernel_rfl) (by kernel_rfl) (fun _ _ _ h => h) (Or.inl ⟨by kernel_rfl, fun w' _ => ?_⟩) ⟨.inr hS.1, .inr hS.2⟩ ?_
            · go_simp
            simp only [Act.put, List.setIfInBounds_toArray, List.set_cons_zero, List.set_cons_succ]
            refine wpAnyZ_take2 (i := 13) (oi := ⟨some 120, _, _, _, _, _⟩) (v := .int .u32 (b : Int)) rfl (by kernel_rfl) (by kernel_rfl) (by kernel_rfl) (by kernel_rfl) (fun _ _ _ h => h) (Or.inl ⟨by kernel_rfl, fun w' hTw => ?_⟩) hS ?_
            · (have c : _ = _ := hTw; go_simp)
            simp only [Act.put, List.setIfInBounds_toArray, List.set_cons_zero, List.set_cons_succ]
            refine wpAnyZ_any (i := 14) (oi := ⟨some 121, _, _, _, _, _⟩) (v := .int .u32 (y : Int)) rfl (by kernel_rfl) (by kernel_rfl) (by kernel_rfl) (by kernel_rfl) (fun _ _ _ h => h) (Or.inl ⟨by kernel_rfl, fun w' _ => ?_⟩) ⟨.inr hS.1, .inr hS.2⟩ ?_
            · go_simp
            simp only [Act.put, List.setIfInBounds_toArray, List.set_cons_zero, List.set_cons_succ]
            refine wpAnyZ_one (i := 15) (o := ⟨some 122, _, _, _, _, _⟩) (by kernel_rfl) rfl (by kernel_rfl) (fun K hK => ?_)
            go_simp
            have hS := hS.1
            refine hK.out _ _ ⟨.inr hS, .inl (show _ = true by kernel_rfl)⟩ ?_
            clear hK K
            refine wpAnyZ_one (i := 16) (o := ⟨some 123, _, _, _, _, _⟩) (by kernel_rfl) rfl (by kernel_rfl) (fun K hK => ?_)
            go_simp
            have hS := (hS.below (hB0.alloc hS0.sz (.cells #[.int .u32 ((b ^^^ y : Nat) : Int)] 50)) (Nat.lt_succ_self C))
            refine hK.out _ _ ⟨.inr hS, .inl (show _ = true by kernel_rfl)⟩ ?_
            clear hK K
            refine wpAnyZ_one (i := 17) (o := ⟨some 124, _, _, _, _, _⟩) (by kernel_rfl) rfl (by kernel_rfl) (fun K hK => ?_)
            refine wpo_appW (.tmp 111) (.tmp 123) rfl (C + 1) (.slice (some ad2) (m + 1) c2) ws rfl (hO.alloc _) (some ⟨w4.heap.size, 0, none⟩) 1 1 [b ^^^ y] rfl (words_one _ _ _ rfl hby) (by have := HWL.out; omega) (by have := hS0.sz; simp; omega) ?_
            intro v2 w3 g1 g2 g3
            obtain ⟨A2, n2, cc2, rfl⟩ := g1.slice_
            have hB3 : Below (C + 1) w4.drew w3 := grown_below (hB0.alloc hS0.sz _) g2 (by have := hS0.sz; simp; omega) (fun k hk => (hS0.own.ge k hk).1)
            have hC3 := RciphB.below (w := w4.drew) hS0.ciph hB3 (Nat.lt_succ_self C)
            have hS := hC3
            refine hK.out _ _ ⟨.inr hS, .inl (show _ = true by kernel_rfl)⟩ ?_
            clear hK K
            simp only [Act.put, List.setIfInBounds_toArray, List.set_cons_zero, List.set_cons_succ]
            refine wpAnyZ_any (i := 18) (oi := ⟨some 125, _, _, _, _, _⟩) (v := .pointer (some ⟨C, 0, none⟩)) rfl (by kernel_rfl) (by kernel_rfl) (by kernel_rfl) (by kernel_rfl) (fun _ _ _ h => h) (Or.inl ⟨by kernel_rfl, fun w' _ => ?_⟩) ⟨.inr hS, .inl (show _ = true by kernel_rfl)⟩ ?_
            · go_simp
            simp only [Act.put, List.setIfInBounds_toArray, List.set_cons_zero, List.set_cons_succ]
            refine wpAnyZ_any (i := 19) (oi := ⟨some 126, _, _, _, _, _⟩) (v := .pointer (some ⟨C, 1, none⟩)) rfl (by kernel_rfl) (by kernel_rfl) (by kernel_rfl) (by kernel_rfl) (fun _ _ _ h => h) (Or.inl ⟨by kernel_rfl, fun w' _ => ?_⟩) ⟨.inr hS, .inl (show _ = true by kernel_rfl)⟩ ?_
            · go_simp
            simp only [Act.put, List.setIfInBounds_toArray, List.set_cons_zero, List.set_cons_succ]
            refine wpAnyZ_one (i := 20) (o := ⟨none, _, _, _, _, _⟩) (by kernel_rfl) rfl (by kernel_rfl) (fun K hK => ?_)
            have c := RciphB.keys hS
            have f := RciphB.free hS 1
            go_simp
            refine hK.out _ _ ⟨.inl (show _ = true by kernel_rfl), .inl (show _ = true by kernel_rfl)⟩ ?_
            clear hK K hS
            refine wpAnyZ_done (by kernel_rfl) ?_ _
            go_wp2_with fail
            have hS3 : RnS w C X (.slice A2 n2 cc2) (ws ++ [b ^^^ y]) (w3.setCell ⟨C, 1, none⟩ (.slice A2 n2 cc2)) :=
              ⟨hC3.set, g1.setCell (fun e => by have := (g1.ge C e).1; omega), (rowIs_below (w := w4.drew) hS0.box hB3 (by have := hS0.lt; have := hS0.xlt; omega)).setOther (show X ≠ C by have := hS0.lt; have := hS0.xlt; omega) _, ((hS0.bel.drew).trans (hB3.mono (by have := hS0.lt; omega))).setCell (show w.heap.size ≤ C by have := hS0.lt; omega) _, by have hz : w4.heap.size ≤ w3.heap.size := hB3.size; have := hS0.sz; simp only [World.size_setCell]; omega, hS0.lt, hS0.xlt⟩
            go_roundw
            case rel =>
              refine ⟨m + 1 + 1, .slice A2 n2 cc2, r2, HR2.out, by go_num, rfl, by omega, by omega, ?_⟩
              rw [show m + 1 + 1 - 8 = (m + 1 - 8) + 1 by omega]
              show RnS w C X _ (sched 8 (keyWs l) (m + 1 - 8) ++ [nextW 8 (sched 8 (keyWs l) (m + 1 - 8))]) _
              rw [← HWS.out, ← HBQ.out]
              exact hS3
            case measure => simp [intOf]; omega
          · have h0' : (((m : Int) + 1) % 8 == 0) = false := by simp; omega
            have HR2 : Box (r = Fld.npow 2 ((m + 1) / 8)) := ⟨by rw [npow_stay m 8 (by decide) h0, HR.out]; rfl⟩
            by_cases h4 : (m + 1) % 8 = 4
            · have h4' : (((m : Int) + 1) % 8 == 4) = true := by simp; omega
              have HY : Box (word t = Aes.turnW 8 (m + 1) (ws.getD m 0)) := ⟨by unfold Aes.turnW; rw [if_neg h0, if_pos ⟨by omega, h4⟩, HT.out]⟩
              have hy := word_lt (w := t)
              have HC : Box (∀ w, BoxM w X → Calls Try.prog 55 #[.pointer (some ⟨X, 0, none⟩), .int .u32 (t : Int)] w fun e w' => e = .returned (.int .u32 ((word t : Nat) : Int)) ∧ ∃ n, w' = w.drewN n) := ⟨fun w h => rword_any X t ht w h⟩
              revert HY hy HC
              generalize word t = y
              intro HY hy HC
              clear h0 h4 HR
              go_wp2_with fail
              refine (HC.out _ hS1.box).mono ?_
              rintro e w4 ⟨rfl, j, rfl⟩
              have hS0 := hS1.drewN j
              clear hS1 hct hck h0' h4' HC
              revert hS0
              generalize wr.drewN j = w4
              intro hS0
              go_wp2_with fail
              have hO : OwnW w4.drew (C + 1) (.slice (some ad2) (m + 1) c2) ws := hS0.own
              obtain ⟨q, hq, hq2⟩ : ∃ q : Nat, q = m + 1 - 8 ∧ q < m + 1 := ⟨_, rfl, by omega⟩
              have hqi : (m : Int) + 1 - 8 = (q : Int) := by omega
              have HQ := Box.mk hqi
              obtain ⟨b, hbq⟩ : ∃ b, ws.getD q 0 = b := ⟨_, rfl⟩
              have hbl : b < 4294967296 := by rw [← hbq]; exact Aes.getD_lt hS0.own.2.2 q
              have hcq := words_cell hS0.own.rd hq2
              rw [hbq] at hcq
              have hby : b ^^^ y < 4294967296 := Aes.xor_lt32 hbl hy
              have hxy := u32_xor_nat b y hbl hy
              have hS9 : RciphB w4.drew C X (.slice (some ad2) (m + 1) c2) ∧ CellIs (ad2.add q) (.int .u32 (b : Int)) w4.drew := ⟨hS0.ciph, hcq⟩
              have hB0 : Below (C + 1) w4.drew w4.drew := Below.refl _ _
              have HBQ : Box (b ^^^ y = nextW 8 ws) := ⟨by unfold nextW; rw [HWL.out, HY.out, ← hbq, hq]; rfl⟩
              clear hcq hbq hq hqi
              have i0 : (0 : Int) ≤ (q : Int) := by omega
              have i1 : (q : Int) < (m : Int) + 1 := by omega
              refine wp_region_Z 20 15 (fun w' => RciphB w' C X (.slice (some ad2) (m + 1) c2)) (CellIs (ad2.add q) (.int .u32 (b : Int))) (by kernel_rfl) ?_
              have hS := hS9
              refine wpAnyZ_any (i := 0) (oi := ⟨some 107, _, _, _, _, _⟩) (v := .pointer (some ⟨C, 0, none⟩)) rfl (by kernel_rfl) (by kernel_rfl) (by kernel_rfl) (by kernel_rfl) (fun _ _ _ h => h) (Or.inl ⟨by kernel_rfl, fun w' _ => ?_⟩) ⟨.inr hS.1, .inr hS.2⟩ ?_
              · go_simp
              simp only [Act.put, List.setIfInBounds_toArray, List.set_cons_zero, List.set_cons_succ]
              refine wpAnyZ_any (i := 1) (oi := ⟨some 108, _, _, _, _, _⟩) (v := .pointer (some ⟨C, 0, none⟩)) rfl (by kernel_rfl) (by kernel_rfl) (by kernel_rfl) (by kernel_rfl) (fun _ _ _ h => h) (Or.inl ⟨by kernel_rfl, fun w' _ => ?_⟩) ⟨.inr hS.1, .inr hS.2⟩ ?_
              · go_simp
              simp only [Act.put, List.setIfInBounds_toArray, List.set_cons_zero, List.set_cons_succ]
              refine wpAnyZ_any (i := 2) (oi := ⟨some 109, _, _, _, _, _⟩) (v := .pointer (some ⟨C, 0, none⟩)) rfl (by kernel_rfl) (by kernel_rfl) (by kernel_rfl) (by kernel_rfl) (fun _ _ _ h => h) (Or.inl ⟨by kernel_rfl, fun w' _ => ?_⟩) ⟨.inr hS.1, .inr hS.2⟩ ?_
              · go_simp
              simp only [Act.put, List.setIfInBounds_toArray, List.set_cons_zero, List.set_cons_succ]
              refine wpAnyZ_any (i := 3) (oi := ⟨some 110, _, _, _, _, _⟩) (v := .pointer (some ⟨C, 1, none⟩)) rfl (by kernel_rfl) (by kernel_rfl) (by kernel_rfl) (by kernel_rfl) (fun _ _ _ h => h) (Or.inl ⟨by kernel_rfl, fun w' _ => ?_⟩) ⟨.inr hS.1, .inr hS.2⟩ ?_
              · go_simp
              simp only [Act.put, List.setIfInBounds_toArray, List.set_cons_zero, List.set_cons_succ]
              refine wpAnyZ_take (i := 4) (oi := ⟨some 111, _, _, _, _, _⟩) (v := .slice (some ad2) (m + 1) c2) rfl (by kernel_rfl) (by kernel_rfl) (by kernel_rfl) (by kernel_rfl) (fun _ _ _ h => h) (Or.inl ⟨by kernel_rfl, fun w' hSw => ?_⟩) hS ?_
              · (have c := RciphB.keys hSw; go_simp)
              simp only [Act.put, List.setIfInBounds_toArray, List.set_cons_zero, List.set_cons_succ]
              refine wpAnyZ_any (i := 5) (oi := ⟨some 112, _, _, _, _, _⟩) (v := .pointer (some ⟨C, 0, none⟩)) rfl (by kernel_rfl) (by kernel_rfl) (by kernel_rfl) (by kernel_rfl) (fun _ _ _ h => h) (Or.inl ⟨by kernel_rfl, fun w' _ => ?_⟩) ⟨.inr hS.1, .inr hS.2⟩ ?_
              · go_simp
              simp only [Act.put, List.setIfInBounds_toArray, List.set_cons_zero, List.set_cons_succ]
              refine wpAnyZ_any (i := 6) (oi := ⟨some 113, _, _, _, _, _⟩) (v := .pointer (some ⟨C, 0, none⟩)) rfl (by kernel_rfl) (by kernel_rfl) (by kernel_rfl) (by kernel_rfl) (fun _ _ _ h => h) (Or.inl ⟨by kernel_rfl, fun w' _ => ?_⟩) ⟨.inr hS.1, .inr hS.2⟩ ?_
              · go_simp
              simp only [Act.put, List.setIfInBounds_toArray, List.set_cons_zero, List.set_cons_succ]
              refine wpAnyZ_any (i := 7) (oi := ⟨some 114, _, _, _, _, _⟩) (v := .pointer (some ⟨C, 1, none⟩)) rfl (by kernel_rfl) (by kernel_rfl) (by kernel_rfl) (by kernel_rfl) (fun _ _ _ h => h) (Or.inl ⟨by kernel_rfl, fun w' _ => ?_⟩) ⟨.inr hS.1, .inr hS.2⟩ ?_
              · go_simp
              simp only [Act.put, List.setIfInBounds_toArray, List.set_cons_zero, List.set_cons_succ]
              refine wpAnyZ_take (i := 8) (oi := ⟨some 115, _, _, _, _, _⟩) (v := .slice (some ad2) (m + 1) c2) rfl (by kernel_rfl) (by kernel_rfl) (by kernel_rfl) (by kernel_rfl) (fun _ _ _ h => h) (Or.inl ⟨by kernel_rfl, fun w' hSw => ?_⟩) hS ?_
              · (have c := RciphB.keys hSw; go_simp)
              simp only [Act.put, List.setIfInBounds_toArray, List.set_cons_zero, List.set_cons_succ]
              refine wpAnyZ_any (i := 9) (oi := ⟨some 116, _, _, _, _, _⟩) (v := .int .i64 ((m : Int) + 1)) rfl (by kernel_rfl) (by kernel_rfl) (by kernel_rfl) (by kernel_rfl) (fun _ _ _ h => h) (Or.inl ⟨by kernel_rfl, fun w' _ => ?_⟩) ⟨.inr hS.1, .inr hS.2⟩ ?_
              · go_simp
              simp only [Act.put, List.setIfInBounds_toArray, List.set_cons_zero, List.set_cons_succ]
              refine wpAnyZ_any (i := 10) (oi := ⟨some 117, _, _, _, _, _⟩) (v := .int .i64 8) rfl (by kernel_rfl) (by kernel_rfl) (by kernel_rfl) (by kernel_rfl) (fun _ _ _ h => h) (Or.inl ⟨by kernel_rfl, fun w' _ => ?_⟩) ⟨.inr hS.1, .inr hS.2⟩ ?_
              · go_simp
              simp only [Act.put, List.setIfInBounds_toArray, List.set_cons_zero, List.set_cons_succ]
              refine wpAnyZ_any (i := 11) (oi := ⟨some 118, _, _, _, _, _⟩) (v := .int .i64 (q : Int)) rfl (by kernel_rfl) (by kernel_rfl) (by kernel_rfl) (by kernel_rfl) (fun _ _ _ h => h) (Or.inl ⟨by kernel_rfl, fun w' _ => ?_⟩) ⟨.inr hS.1, .inr hS.2⟩ ?_
              · (go_simp; have h := HQ.out; rw [h]; exact IntWalk.i64_in _ (by omega))
              simp only [Act.put, List.setIfInBounds_toArray, List.set_cons_zero, List.set_cons_succ]
              refine wpAnyZ_any (i := 12) (oi := ⟨some 119, _, _, _, _, _⟩) (v := .pointer (some (ad2.add q))) rfl (by kernel_rfl) (by kernel_rfl) (by kernel_rfl) (by kernel_rfl) (fun _ _ _ h => h) (Or.inl ⟨by kernel_rfl, fun w' _ => ?_⟩) ⟨.inr hS.1, .inr hS.2⟩ ?_
              · go_simp
              simp only [Act.put, List.setIfInBounds_toArray, List.set_cons_zero, List.set_cons_succ]
              refine wpAnyZ_take2 (i := 13) (oi := ⟨some 120, _, _, _, _, _⟩) (v := .int .u32 (b : Int)) rfl (by kernel_rfl) (by kernel_rfl) (by kernel_rfl) (by kernel_rfl) (fun _ _ _ h => h) (Or.inl ⟨by kernel_rfl, fun w' hTw => ?_⟩) hS ?_
              · (have c : _ = _ := hTw; go_simp)
              simp only [Act.put, List.setIfInBounds_toArray, List.set_cons_zero, List.set_cons_succ]
              refine wpAnyZ_any (i := 14) (oi := ⟨some 121, _, _, _, _, _⟩) (v := .int .u32 (y : Int)) rfl (by kernel_rfl) (by kernel_rfl) (by kernel_rfl) (by kernel_rfl) (fun _ _ _ h => h) (Or.inl ⟨by kernel_rfl, fun w' _ => ?_⟩) ⟨.inr hS.1, .inr hS.2⟩ ?_
              · go_simp
              simp only [Act.put, List.setIfInBounds_toArray, List.set_cons_zero, List.set_cons_succ]
              refine wpAnyZ_one (i := 15) (o := ⟨some 122, _, _, _, _, _⟩) (by kernel_rfl) rfl (by kernel_rfl) (fun K hK => ?_)
              go_simp
              have hS := hS.1
              refine hK.out _ _ ⟨.inr hS, .inl (show _ = true by kernel_rfl)⟩ ?_
              clear hK K
              refine wpAnyZ_one (i := 16) (o := ⟨some 123, _, _, _, _, _⟩) (by kernel_rfl) rfl (by kernel_rfl) (fun K hK => ?_)
              go_simp
              have hS := (hS.below (hB0.alloc hS0.sz (.cells #[.int .u32 ((b ^^^ y : Nat) : Int)] 50)) (Nat.lt_succ_self C))
              refine hK.out _ _ ⟨.inr hS, .inl (show _ = true by kernel_rfl)⟩ ?_
              clear hK K
              refine wpAnyZ_one (i := 17) (o := ⟨some 124, _, _, _, _, _⟩) (by kernel_rfl) rfl (by kernel_rfl) (fun K hK => ?_)
              refine wpo_appW (.tmp 111) (.tmp 123) rfl (C + 1) (.slice (some ad2) (m + 1) c2) ws rfl (hO.alloc _) (some ⟨w4.heap.size, 0, none⟩) 1 1 [b ^^^ y] rfl (words_one _ _ _ rfl hby) (by have := HWL.out; omega) (by have := hS0.sz; simp; omega) ?_
              intro v2 w3 g1 g2 g3
              obtain ⟨A2, n2, cc2, rfl⟩ := g1.slice_
              have hB3 : Below (C + 1) w4.drew w3 := grown_below (hB0.alloc hS0.sz _) g2 (by have := hS0.sz; simp; omega) (fun k hk => (hS0.own.ge k hk).1)
              have hC3 := RciphB.below (w := w4.drew) hS0.ciph hB3 (Nat.lt_succ_self C)
              have hS := hC3
              refine hK.out _ _ ⟨.inr hS, .inl (show _ = true by kernel_rfl)⟩ ?_
              clear hK K
              simp only [Act.put, List.setIfInBounds_toArray, List.set_cons_zero, List.set_cons_succ]
              refine wpAnyZ_any (i := 18) (oi := ⟨some 125, _, _, _, _, _⟩) (v := .pointer (some ⟨C, 0, none⟩)) rfl (by kernel_rfl) (by kernel_rfl) (by kernel_rfl) (by kernel_rfl) (fun _ _ _ h => h) (Or.inl ⟨by kernel_rfl, fun w' _ => ?_⟩) ⟨.inr hS, .inl (show _ = true by kernel_rfl)⟩ ?_
              · go_simp
              simp only [Act.put, List.setIfInBounds_toArray, List.set_cons_zero, List.set_cons_succ]
              refine wpAnyZ_any (i := 19) (oi := ⟨some 126, _, _, _, _, _⟩) (v := .pointer (some ⟨C, 1, none⟩)) rfl (by kernel_rfl) (by kernel_rfl) (by kernel_rfl) (by kernel_rfl) (fun _ _ _ h => h) (Or.inl ⟨by kernel_rfl, fun w' _ => ?_⟩) ⟨.inr hS, .inl (show _ = true by kernel_rfl)⟩ ?_
              · go_simp
              simp only [Act.put, List.setIfInBounds_toArray, List.set_cons_zero, List.set_cons_succ]
              refine wpAnyZ_one (i := 20) (o := ⟨none, _, _, _, _, _⟩) (by kernel_rfl) rfl (by kernel_rfl) (fun K hK => ?_)
              have c := RciphB.keys hS
              have f := RciphB.free hS 1
              go_simp
              refine hK.out _ _ ⟨.inl (show _ = true by kernel_rfl), .inl (show _ = true by kernel_rfl)⟩ ?_
              clear hK K hS
              refine wpAnyZ_done (by kernel_rfl) ?_ _
              go_wp2_with fail
              have hS3 : RnS w C X (.slice A2 n2 cc2) (ws ++ [b ^^^ y]) (w3.setCell ⟨C, 1, none⟩ (.slice A2 n2 cc2)) :=
                ⟨hC3.set, g1.setCell (fun e => by have := (g1.ge C e).1; omega), (rowIs_below (w := w4.drew) hS0.box hB3 (by have := hS0.lt; have := hS0.xlt; omega)).setOther (show X ≠ C by have := hS0.lt; have := hS0.xlt; omega) _, ((hS0.bel.drew).trans (hB3.mono (by have := hS0.lt; omega))).setCell (show w.heap.size ≤ C by have := hS0.lt; omega) _, by have hz : w4.heap.size ≤ w3.heap.size := hB3.size; have := hS0.sz; simp only [World.size_setCell]; omega, hS0.lt, hS0.xlt⟩
              go_roundw
              case rel =>
                refine ⟨m + 1 + 1, .slice A2 n2 cc2, r, HR2.out, by go_num, rfl, by omega, by omega, ?_⟩
                rw [show m + 1 + 1 - 8 = (m + 1 - 8) + 1 by omega]
                show RnS w C X _ (sched 8 (keyWs l) (m + 1 - 8) ++ [nextW 8 (sched 8 (keyWs l) (m + 1 - 8))]) _
                rw [← HWS.out, ← HBQ.out]
                exact hS3
              case measure => simp [intOf]; omega
            · have h4' : (((m : Int) + 1) % 8 == 4) = false := by simp; omega
              have HY : Box (t = Aes.turnW 8 (m + 1) (ws.getD m 0)) := ⟨by unfold Aes.turnW; rw [if_neg h0, if_neg (fun h => h4 h.2), HT.out]⟩
              obtain ⟨y, hy, hyt⟩ : ∃ y, y < 4294967296 ∧ t = y := ⟨t, ht, rfl⟩
              subst hyt
              have hS0 := hS1
              clear h0 h4 HR
              go_wp2_with fail
              have hO : OwnW wr.drew (C + 1) (.slice (some ad2) (m + 1) c2) ws := hS0.own
              obtain ⟨q, hq, hq2⟩ : ∃ q : Nat, q = m + 1 - 8 ∧ q < m + 1 := ⟨_, rfl, by omega⟩
              have hqi : (m : Int) + 1 - 8 = (q : Int) := by omega
              have HQ := Box.mk hqi
              obtain ⟨b, hbq⟩ : ∃ b, ws.getD q 0 = b := ⟨_, rfl⟩
              have hbl : b < 4294967296 := by rw [← hbq]; exact Aes.getD_lt hS0.own.2.2 q
              have hcq := words_cell hS0.own.rd hq2
              rw [hbq] at hcq
              have hby : b ^^^ t < 4294967296 := Aes.xor_lt32 hbl hy
              have hxy := u32_xor_nat b t hbl hy
              have hS9 : RciphB wr.drew C X (.slice (some ad2) (m + 1) c2) ∧ CellIs (ad2.add q) (.int .u32 (b : Int)) wr.drew := ⟨hS0.ciph, hcq⟩
              have hB0 : Below (C + 1) wr.drew wr.drew := Below.refl _ _
              have HBQ : Box (b ^^^ t = nextW 8 ws) := ⟨by unfold nextW; rw [HWL.out, HY.out, ← hbq, hq]; rfl⟩
              clear hcq hbq hq hqi
              have i0 : (0 : Int) ≤ (q : Int) := by omega
              have i1 : (q : Int) < (m : Int) + 1 := by omega
              refine wp_region_Z 20 15 (fun w' => RciphB w' C X (.slice (some ad2) (m + 1) c2)) (CellIs (ad2.add q) (.int .u32 (b : Int))) (by kernel_rfl) ?_
              have hS := hS9
              refine wpAnyZ_any (i := 0) (oi := ⟨some 107, _, _, _, _, _⟩) (v := .pointer (some ⟨C, 0, none⟩)) rfl (by kernel_rfl) (by kernel_rfl) (by kernel_rfl) (by kernel_rfl) (fun _ _ _ h => h) (Or.inl ⟨by kernel_rfl, fun w' _ => ?_⟩) ⟨.inr hS.1, .inr hS.2⟩ ?_
              · go_simp
              simp only [Act.put, List.setIfInBounds_toArray, List.set_cons_zero, List.set_cons_succ]
              refine wpAnyZ_any (i := 1) (oi := ⟨some 108, _, _, _, _, _⟩) (v := .pointer (some ⟨C, 0, none⟩)) rfl (by kernel_rfl) (by kernel_rfl) (by kernel_rfl) (by kernel_rfl) (fun _ _ _ h => h) (Or.inl ⟨by kernel_rfl, fun w' _ => ?_⟩) ⟨.inr hS.1, .inr hS.2⟩ ?_
              · go_simp
              simp only [Act.put, List.setIfInBounds_toArray, List.set_cons_zero, List.set_cons_succ]
              refine wpAnyZ_any (i := 2) (oi := ⟨some 109, _, _, _, _, _⟩) (v := .pointer (some ⟨C, 0, none⟩)) rfl (by kernel_rfl) (by kernel_rfl) (by kernel_rfl) (by kernel_rfl) (fun _ _ _ h => h) (Or.inl ⟨by kernel_rfl, fun w' _ => ?_⟩) ⟨.inr hS.1, .inr hS.2⟩ ?_
              · go_simp
              simp only [Act.put, List.setIfInBounds_toArray, List.set_cons_zero, List.set_cons_succ]
              refine wpAnyZ_any (i := 3) (oi := ⟨some 110, _, _, _, _, _⟩) (v := .pointer (some ⟨C, 1, none⟩)) rfl (by kernel_rfl) (by kernel_rfl) (by kernel_rfl) (by kernel_rfl) (fun _ _ _ h => h) (Or.inl ⟨by kernel_rfl, fun w' _ => ?_⟩) ⟨.inr hS.1, .inr hS.2⟩ ?_
              · go_simp
              simp only [Act.put, List.setIfInBounds_toArray, List.set_cons_zero, List.set_cons_succ]
              refine wpAnyZ_take (i := 4) (oi := ⟨some 111, _, _, _, _, _⟩) (v := .slice (some ad2) (m + 1) c2) rfl (by kernel_rfl) (by kernel_rfl) (by kernel_rfl) (by kernel_rfl) (fun _ _ _ h => h) (Or.inl ⟨by kernel_rfl, fun w' hSw => ?_⟩) hS ?_
              · (have c := RciphB.keys hSw; go_simp)
              simp only [Act.put, List.setIfInBounds_toArray, List.set_cons_zero, List.set_cons_succ]
              refine wpAnyZ_any (i := 5) (oi := ⟨some 112, _, _, _, _, _⟩) (v := .pointer (some ⟨C, 0, none⟩)) rfl (by kernel_rfl) (by kernel_rfl) (by kernel_rfl) (by kernel_rfl) (fun _ _ _ h => h) (Or.inl ⟨by kernel_rfl, fun w' _ => ?_⟩) ⟨.inr hS.1, .inr hS.2⟩ ?_
              · go_simp
              simp only [Act.put, List.setIfInBounds_toArray, List.set_cons_zero, List.set_cons_succ]
              refine wpAnyZ_any (i := 6) (oi := ⟨some 113, _, _, _, _, _⟩) (v := .pointer (some ⟨C, 0, none⟩)) rfl (by kernel_rfl) (by kernel_rfl) (by kernel_rfl) (by kernel_rfl) (fun _ _ _ h => h) (Or.inl ⟨by kernel_rfl, fun w' _ => ?_⟩) ⟨.inr hS.1, .inr hS.2⟩ ?_
              · go_simp
              simp only [Act.put, List.setIfInBounds_toArray, List.set_cons_zero, List.set_cons_succ]
              refine wpAnyZ_any (i := 7) (oi := ⟨some 114, _, _, _, _, _⟩) (v := .pointer (some ⟨C, 1, none⟩)) rfl (by kernel_rfl) (by kernel_rfl) (by kernel_rfl) (by kernel_rfl) (fun _ _ _ h => h) (Or.inl ⟨by kernel_rfl, fun w' _ => ?_⟩) ⟨.inr hS.1, .inr hS.2⟩ ?_
              · go_simp
              simp only [Act.put, List.setIfInBounds_toArray, List.set_cons_zero, List.set_cons_succ]
              refine wpAnyZ_take (i := 8) (oi := ⟨some 115, _, _, _, _, _⟩) (v := .slice (some ad2) (m + 1) c2) rfl (by kernel_rfl) (by kernel_rfl) (by kernel_rfl) (by kernel_rfl) (fun _ _ _ h => h) (Or.inl ⟨by kernel_rfl, fun w' hSw => ?_⟩) hS ?_
              · (have c := RciphB.keys hSw; go_simp)
              simp only [Act.put, List.setIfInBounds_toArray, List.set_cons_zero, List.set_cons_succ]
              refine wpAnyZ_any (i := 9) (oi := ⟨some 116, _, _, _, _, _⟩) (v := .int .i64 ((m : Int) + 1)) rfl (by kernel_rfl) (by kernel_rfl) (by kernel_rfl) (by kernel_rfl) (fun _ _ _ h => h) (Or.inl ⟨by kernel_rfl, fun w' _ => ?_⟩) ⟨.inr hS.1, .inr hS.2⟩ ?_
              · go_simp
              simp only [Act.put, List.setIfInBounds_toArray, List.set_cons_zero, List.set_cons_succ]
              refine wpAnyZ_any (i := 10) (oi := ⟨some 117, _, _, _, _, _⟩) (v := .int .i64 8) rfl (by kernel_rfl) (by kernel_rfl) (by kernel_rfl) (by kernel_rfl) (fun _ _ _ h => h) (Or.inl ⟨by kernel_rfl, fun w' _ => ?_⟩) ⟨.inr hS.1, .inr hS.2⟩ ?_
              · go_simp
              simp only [Act.put, List.setIfInBounds_toArray, List.set_cons_zero, List.set_cons_succ]
              refine wpAnyZ_any (i := 11) (oi := ⟨some 118, _, _, _, _, _⟩) (v := .int .i64 (q : Int)) rfl (by kernel_rfl) (by kernel_rfl) (by kernel_rfl) (by kernel_rfl) (fun _ _ _ h => h) (Or.inl ⟨by kernel_rfl, fun w' _ => ?_⟩) ⟨.inr hS.1, .inr hS.2⟩ ?_
              · (go_simp; have h := HQ.out; rw [h]; exact IntWalk.i64_in _ (by omega))
              simp only [Act.put, List.setIfInBounds_toArray, List.set_cons_zero, List.set_cons_succ]
              refine wpAnyZ_any (i := 12) (oi := ⟨some 119, _, _, _, _, _⟩) (v := .pointer (some (ad2.add q))) rfl (by kernel_rfl) (by kernel_rfl) (by kernel_rfl) (by kernel_rfl) (fun _ _ _ h => h) (Or.inl ⟨by kernel_rfl, fun w' _ => ?_⟩) ⟨.inr hS.1, .inr hS.2⟩ ?_
              · go_simp
              simp only [Act.put, List.setIfInBounds_toArray, List.set_cons_zero, List.set_cons_succ]
              refine wpAnyZ_take2 (i := 13) (oi := ⟨some 120, _, _, _, _, _⟩) (v := .int .u32 (b : Int)) rfl (by kernel_rfl) (by kernel_rfl) (by kernel_rfl) (by kernel_rfl) (fun _ _ _ h => h) (Or.inl ⟨by kernel_rfl, fun w' hTw => ?_⟩) hS ?_
              · (have c : _ = _ := hTw; go_simp)
              simp only [Act.put, List.setIfInBounds_toArray, List.set_cons_zero, List.set_cons_succ]
              refine wpAnyZ_any (i := 14) (oi := ⟨some 121, _, _, _, _, _⟩) (v := .int .u32 (t : Int)) rfl (by kernel_rfl) (by kernel_rfl) (by kernel_rfl) (by kernel_rfl) (fun _ _ _ h => h) (Or.inl ⟨by kernel_rfl, fun w' _ => ?_⟩) ⟨.inr hS.1, .inr hS.2⟩ ?_
              · go_simp
              simp only [Act.put, List.setIfInBounds_toArray, List.set_cons_zero, List.set_cons_succ]
              refine wpAnyZ_one (i := 15) (o := ⟨some 122, _, _, _, _, _⟩) (by kernel_rfl) rfl (by kernel_rfl) (fun K hK => ?_)
              go_simp
              have hS := hS.1
              refine hK.out _ _ ⟨.inr hS, .inl (show _ = true by kernel_rfl)⟩ ?_
              clear hK K
              refine wpAnyZ_one (i := 16) (o := ⟨some 123, _, _, _, _, _⟩) (by kernel_rfl) rfl (by kernel_rfl) (fun K hK => ?_)
              go_simp
              have hS := (hS.below (hB0.alloc hS0.sz (.cells #[.int .u32 ((b ^^^ t : Nat) : Int)] 50)) (Nat.lt_succ_self C))
              refine hK.out _ _ ⟨.inr hS, .inl (show _ = true by kernel_rfl)⟩ ?_
              clear hK K
              refine wpAnyZ_one (i := 17) (o := ⟨some 124, _, _, _, _, _⟩) (by kernel_rfl) rfl (by kernel_rfl) (fun K hK => ?_)
              refine wpo_appW (.tmp 111) (.tmp 123) rfl (C + 1) (.slice (some ad2) (m + 1) c2) ws rfl (hO.alloc _) (some ⟨wr.heap.size, 0, none⟩) 1 1 [b ^^^ t] rfl (words_one _ _ _ rfl hby) (by have := HWL.out; omega) (by have := hS0.sz; simp; omega) ?_
              intro v2 w3 g1 g2 g3
              obtain ⟨A2, n2, cc2, rfl⟩ := g1.slice_
              have hB3 : Below (C + 1) wr.drew w3 := grown_below (hB0.alloc hS0.sz _) g2 (by have := hS0.sz; simp; omega) (fun k hk => (hS0.own.ge k hk).1)
              have hC3 := RciphB.below (w := wr.drew) hS0.ciph hB3 (Nat.lt_succ_self C)
              have hS := hC3
              refine hK.out _ _ ⟨.inr hS, .inl (show _ = true by kernel_rfl)⟩ ?_
              clear hK K
              simp only [Act.put, List.setIfInBounds_toArray, List.set_cons_zero, List.set_cons_succ]
              refine wpAnyZ_any (i := 18) (oi := ⟨some 125, _, _, _, _, _⟩) (v := .pointer (some ⟨C, 0, none⟩)) rfl (by kernel_rfl) (by kernel_rfl) (by kernel_rfl) (by kernel_rfl) (fun _ _ _ h => h) (Or.inl ⟨by kernel_rfl, fun w' _ => ?_⟩) ⟨.inr hS, .inl (show _ = true by kernel_rfl)⟩ ?_
              · go_simp
              simp only [Act.put, List.setIfInBounds_toArray, List.set_cons_zero, List.set_cons_succ]
              refine wpAnyZ_any (i := 19) (oi := ⟨some 126, _, _, _, _, _⟩) (v := .pointer (some ⟨C, 1, none⟩)) rfl (by kernel_rfl) (by kernel_rfl) (by kernel_rfl) (by kernel_rfl) (fun _ _ _ h => h) (Or.inl ⟨by kernel_rfl, fun w' _ => ?_⟩) ⟨.inr hS, .inl (show _ = true by kernel_rfl)⟩ ?_
              · go_simp
              simp only [Act.put, List.setIfInBounds_toArray, List.set_cons_zero, List.set_cons_succ]
              refine wpAnyZ_one (i := 20) (o := ⟨none, _, _, _, _, _⟩) (by kernel_rfl) rfl (by kernel_rfl) (fun K hK => ?_)
              have c := RciphB.keys hS
              have f := RciphB.free hS 1
              go_simp
              refine hK.out _ _ ⟨.inl (show _ = true by kernel_rfl), .inl (show _ = true by kernel_rfl)⟩ ?_
              clear hK K hS
              refine wpAnyZ_done (by kernel_rfl) ?_ _
              go_wp2_with fail
              have hS3 : RnS w C X (.slice A2 n2 cc2) (ws ++ [b ^^^ t]) (w3.setCell ⟨C, 1, none⟩ (.slice A2 n2 cc2)) :=
                ⟨hC3.set, g1.setCell (fun e => by have := (g1.ge C e).1; omega), (rowIs_below (w := wr.drew) hS0.box hB3 (by have := hS0.lt; have := hS0.xlt; omega)).setOther (show X ≠ C by have := hS0.lt; have := hS0.xlt; omega) _, ((hS0.bel.drew).trans (hB3.mono (by have := hS0.lt; omega))).setCell (show w.heap.size ≤ C by have := hS0.lt; omega) _, by have hz : wr.heap.size ≤ w3.heap.size := hB3.size; have := hS0.sz; simp only [World.size_setCell]; omega, hS0.lt, hS0.xlt⟩
              go_roundw
              case rel =>
                refine ⟨m + 1 + 1, .slice A2 n2 cc2, r, HR2.out, by go_num, rfl, by omega, by omega, ?_⟩
                rw [show m + 1 + 1 - 8 = (m + 1 - 8) + 1 by omega]
                show RnS w C X _ (sched 8 (keyWs l) (m + 1 - 8) ++ [nextW 8 (sched 8 (keyWs l) (m + 1 - 8))]) _
                rw [← HWS.out, ← HBQ.out]
                exact hS3
              case measure => simp [intOf]; omega
    · have hk2 : k < 8 := by omega
      clear hkN
      have hb := hl.below' hS0.bel
      obtain ⟨b0, b1, b2, b3, x, t0, t1, t2, t3, hx, hkw, o1, o2, o3, hc0, hc1, hc2, hc3⟩ := key_word' hb (show 4 * k + 4 ≤ 32 by omega)
      have hblk : ad.block < C + 1 := by have := hS0.lt; have := hl.blk; omega
      obtain ⟨q, hq⟩ : ∃ q, q = 4 * k := ⟨_, rfl⟩
      obtain ⟨q1, hq1⟩ : ∃ q1, q1 = 4 * k + 1 := ⟨_, rfl⟩
      obtain ⟨q2, hq2⟩ : ∃ q2, q2 = 4 * k + 2 := ⟨_, rfl⟩
      obtain ⟨q3, hq3⟩ : ∃ q3, q3 = 4 * k + 3 := ⟨_, rfl⟩
      rw [← hq] at hc0
      rw [← hq1] at hc1
      rw [← hq2] at hc2
      rw [← hq3] at hc3
      have HQ : Box (q = 4 * k) := ⟨hq⟩
      have HQ1 : Box (q1 = q + 1) := ⟨by omega⟩
      have HQ2 : Box (q2 = q + 2) := ⟨by omega⟩
      have HQ3 : Box (q3 = q + 3) := ⟨by omega⟩
      have a0 : (0 : Int) ≤ (q : Int) := by omega
      have a1 : (0 : Int) ≤ (q1 : Int) := by omega
      have a2 : (0 : Int) ≤ (q2 : Int) := by omega
      have a3 : (0 : Int) ≤ (q3 : Int) := by omega
      have z0 : (q : Int) < 32 := by omega
      have z1 : (q1 : Int) < 32 := by omega
      have z2 : (q2 : Int) < 32 := by omega
      have z3 : (q3 : Int) < 32 := by omega
      clear hq hq1 hq2 hq3
      go_wp2_with fail
      have hS9 : S6 C X v ad q q1 q2 q3 b0 b1 b2 b3 wr.drew := ⟨hS0.ciph, hc0, hc1, hc2, hc3, hblk⟩
      have HKW := Box.mk hkw
      have HKL : Box (((keyWs l).take k).length ≤ 8) := ⟨by rw [List.length_take]; omega⟩
      obtain ⟨ks, hks⟩ : ∃ ks, ks = (keyWs l).take k := ⟨_, rfl⟩
      rw [← hks] at HKL
      have HKS := Box.mk hks
      have hO : OwnW wr.drew (C + 1) v ks := by rw [hks]; exact hS0.own
      have hB0 : Below (C + 1) wr.drew wr.drew := Below.refl _ _
      clear hc0 hc1 hc2 hc3 hkw hks hblk hb
      have v0 := u32_nat b0 (by omega)
      have v1 := u32_nat b1 (by omega)
      have v2 := u32_nat b2 (by omega)
      have v3 := u32_nat b3 (by omega)
      have u0 : IntKind.u32.wrap ((b0 : Int) * 16777216) = (b0 : Int) * 16777216 := by have := u32_nat (b0 * 16777216) (by omega); rw [Int.natCast_mul] at this; exact this
      have u1 : IntKind.u32.wrap ((b1 : Int) * 65536) = (b1 : Int) * 65536 := by have := u32_nat (b1 * 65536) (by omega); rw [Int.natCast_mul] at this; exact this
      have u2 : IntKind.u32.wrap ((b2 : Int) * 256) = (b2 : Int) * 256 := by have := u32_nat (b2 * 256) (by omega); rw [Int.natCast_mul] at this; exact this
      refine wp_region_Z 42 42 (S6 C X v ad q q1 q2 q3 b0 b1 b2 b3) (fun _ => True) (by kernel_rfl) ?_
      have hS : _ ∧ True := ⟨hS9, trivial⟩
      refine wpAnyZ_any (i := 0) (oi := ⟨some 22, _, _, _, _, _⟩) (v := .pointer (some ⟨C, 0, none⟩)) rfl (by kernel_rfl) (by kernel_rfl) (by kernel_rfl) (by kernel_rfl) (fun _ _ _ h => h) (Or.inl ⟨by kernel_rfl, fun w' _ => ?_⟩) ⟨.inr hS.1, .inr hS.2⟩ ?_
      · go_simp
      simp only [Act.put, List.setIfInBounds_toArray, List.set_cons_zero, List.set_cons_succ]
      refine wpAnyZ_any (i := 1) (oi := ⟨some 23, _, _, _, _, _⟩) (v := .pointer (some ⟨C, 0, none⟩)) rfl (by kernel_rfl) (by kernel_rfl) (by kernel_rfl) (by kernel_rfl) (fun _ _ _ h => h) (Or.inl ⟨by kernel_rfl, fun w' _ => ?_⟩) ⟨.inr hS.1, .inr hS.2⟩ ?_
      · go_simp
      simp only [Act.put, List.setIfInBounds_toArray, List.set_cons_zero, List.set_cons_succ]
      refine wpAnyZ_any (i := 2) (oi := ⟨some 24, _, _, _, _, _⟩) (v := .pointer (some ⟨C, 0, none⟩)) rfl (by kernel_rfl) (by kernel_rfl) (by kernel_rfl) (by kernel_rfl) (fun _ _ _ h => h) (Or.inl ⟨by kernel_rfl, fun w' _ => ?_⟩) ⟨.inr hS.1, .inr hS.2⟩ ?_
      · go_simp
      simp only [Act.put, List.setIfInBounds_toArray, List.set_cons_zero, List.set_cons_succ]
      refine wpAnyZ_any (i := 3) (oi := ⟨some 25, _, _, _, _, _⟩) (v := .pointer (some ⟨C, 1, none⟩)) rfl (by kernel_rfl) (by kernel_rfl) (by kernel_rfl) (by kernel_rfl) (fun _ _ _ h => h) (Or.inl ⟨by kernel_rfl, fun w' _ => ?_⟩) ⟨.inr hS.1, .inr hS.2⟩ ?_
      · go_simp
      simp only [Act.put, List.setIfInBounds_toArray, List.set_cons_zero, List.set_cons_succ]
      refine wpAnyZ_take (i := 4) (oi := ⟨some 26, _, _, _, _, _⟩) (v := v) rfl (by kernel_rfl) (by kernel_rfl) (by kernel_rfl) (by kernel_rfl) (fun _ _ _ h => h) (Or.inl ⟨by kernel_rfl, fun w' hSw => ?_⟩) hS ?_
      · (have c := hSw.ciph.keys; go_simp)
      simp only [Act.put, List.setIfInBounds_toArray, List.set_cons_zero, List.set_cons_succ]
      refine wpAnyZ_any (i := 5) (oi := ⟨some 27, _, _, _, _, _⟩) (v := .slice (some ad) 32 cap) rfl (by kernel_rfl) (by kernel_rfl) (by kernel_rfl) (by kernel_rfl) (fun _ _ _ h => h) (Or.inl ⟨by kernel_rfl, fun w' _ => ?_⟩) ⟨.inr hS.1, .inr hS.2⟩ ?_
      · go_simp
      simp only [Act.put, List.setIfInBounds_toArray, List.set_cons_zero, List.set_cons_succ]
      refine wpAnyZ_any (i := 6) (oi := ⟨some 28, _, _, _, _, _⟩) (v := .int .i64 (k : Int)) rfl (by kernel_rfl) (by kernel_rfl) (by kernel_rfl) (by kernel_rfl) (fun _ _ _ h => h) (Or.inl ⟨by kernel_rfl, fun w' _ => ?_⟩) ⟨.inr hS.1, .inr hS.2⟩ ?_
      · go_simp
      simp only [Act.put, List.setIfInBounds_toArray, List.set_cons_zero, List.set_cons_succ]
      refine wpAnyZ_any (i := 7) (oi := ⟨some 29, _, _, _, _, _⟩) (v := .int .i64 (q : Int)) rfl (by kernel_rfl) (by kernel_rfl) (by kernel_rfl) (by kernel_rfl) (fun _ _ _ h => h) (Or.inl ⟨by kernel_rfl, fun w' _ => ?_⟩) ⟨.inr hS.1, .inr hS.2⟩ ?_
      · (go_simp; rw [show 4 * (k : Int) = (q : Int) by have := HQ.out; omega]; exact IntWalk.i64_in _ (by omega))
      simp only [Act.put, List.setIfInBounds_toArray, List.set_cons_zero, List.set_cons_succ]
      refine wpAnyZ_any (i := 8) (oi := ⟨some 30, _, _, _, _, _⟩) (v := .pointer (some (ad.add q))) rfl (by kernel_rfl) (by kernel_rfl) (by kernel_rfl) (by kernel_rfl) (fun _ _ _ h => h) (Or.inl ⟨by kernel_rfl, fun w' _ => ?_⟩) ⟨.inr hS.1, .inr hS.2⟩ ?_
      · go_simp
      simp only [Act.put, List.setIfInBounds_toArray, List.set_cons_zero, List.set_cons_succ]
      refine wpAnyZ_take (i := 9) (oi := ⟨some 31, _, _, _, _, _⟩) (v := .int .u8 (b0 : Int)) rfl (by kernel_rfl) (by kernel_rfl) (by kernel_rfl) (by kernel_rfl) (fun _ _ _ h => h) (Or.inl ⟨by kernel_rfl, fun w' hSw => ?_⟩) hS ?_
      · (have c := hSw.c0; go_simp)
      simp only [Act.put, List.setIfInBounds_toArray, List.set_cons_zero, List.set_cons_succ]
      refine wpAnyZ_any (i := 10) (oi := ⟨some 32, _, _, _, _, _⟩) (v := .int .u32 (b0 : Int)) rfl (by kernel_rfl) (by kernel_rfl) (by kernel_rfl) (by kernel_rfl) (fun _ _ _ h => h) (Or.inl ⟨by kernel_rfl, fun w' _ => ?_⟩) ⟨.inr hS.1, .inr hS.2⟩ ?_
      · go_simp
      simp only [Act.put, List.setIfInBounds_toArray, List.set_cons_zero, List.set_cons_succ]
      refine wpAnyZ_any (i := 11) (oi := ⟨some 33, _, _, _, _, _⟩) (v := .int .u32 ((b0 : Int) * 16777216)) rfl (by kernel_rfl) (by kernel_rfl) (by kernel_rfl) (by kernel_rfl) (fun _ _ _ h => h) (Or.inl ⟨by kernel_rfl, fun w' _ => ?_⟩) ⟨.inr hS.1, .inr hS.2⟩ ?_
      · go_simp
      simp only [Act.put, List.setIfInBounds_toArray, List.set_cons_zero, List.set_cons_succ]
      refine wpAnyZ_any (i := 12) (oi := ⟨some 34, _, _, _, _, _⟩) (v := .slice (some ad) 32 cap) rfl (by kernel_rfl) (by kernel_rfl) (by kernel_rfl) (by kernel_rfl) (fun _ _ _ h => h) (Or.inl ⟨by kernel_rfl, fun w' _ => ?_⟩) ⟨.inr hS.1, .inr hS.2⟩ ?_
      · go_simp
      simp only [Act.put, List.setIfInBounds_toArray, List.set_cons_zero, List.set_cons_succ]
      refine wpAnyZ_any (i := 13) (oi := ⟨some 35, _, _, _, _, _⟩) (v := .int .i64 (k : Int)) rfl (by kernel_rfl) (by kernel_rfl) (by kernel_rfl) (by kernel_rfl) (fun _ _ _ h => h) (Or.inl ⟨by kernel_rfl, fun w' _ => ?_⟩) ⟨.inr hS.1, .inr hS.2⟩ ?_
      · go_simp
      simp only [Act.put, List.setIfInBounds_toArray, List.set_cons_zero, List.set_cons_succ]
      refine wpAnyZ_any (i := 14) (oi := ⟨some 36, _, _, _, _, _⟩) (v := .int .i64 (q : Int)) rfl (by kernel_rfl) (by kernel_rfl) (by kernel_rfl) (by kernel_rfl) (fun _ _ _ h => h) (Or.inl ⟨by kernel_rfl, fun w' _ => ?_⟩) ⟨.inr hS.1, .inr hS.2⟩ ?_
      · (go_simp; rw [show 4 * (k : Int) = (q : Int) by have := HQ.out; omega]; exact IntWalk.i64_in _ (by omega))
      simp only [Act.put, List.setIfInBounds_toArray, List.set_cons_zero, List.set_cons_succ]
      refine wpAnyZ_any (i := 15) (oi := ⟨some 37, _, _, _, _, _⟩) (v := .int .i64 (q1 : Int)) rfl (by kernel_rfl) (by kernel_rfl) (by kernel_rfl) (by kernel_rfl) (fun _ _ _ h => h) (Or.inl ⟨by kernel_rfl, fun w' _ => ?_⟩) ⟨.inr hS.1, .inr hS.2⟩ ?_
      · (go_simp; rw [show (q : Int) + 1 = (q1 : Int) by have := HQ1.out; omega]; exact IntWalk.i64_in _ (by omega))
      simp only [Act.put, List.setIfInBounds_toArray, List.set_cons_zero, List.set_cons_succ]
      refine wpAnyZ_any (i := 16) (oi := ⟨some 38, _, _, _, _, _⟩) (v := .pointer (some (ad.add q1))) rfl (by kernel_rfl) (by kernel_rfl) (by kernel_rfl) (by kernel_rfl) (fun _ _ _ h => h) (Or.inl ⟨by kernel_rfl, fun w' _ => ?_⟩) ⟨.inr hS.1, .inr hS.2⟩ ?_
      · go_simp
      simp only [Act.put, List.setIfInBounds_toArray, List.set_cons_zero, List.set_cons_succ]
      refine wpAnyZ_take (i := 17) (oi := ⟨some 39, _, _, _, _, _⟩) (v := .int .u8 (b1 : Int)) rfl (by kernel_rfl) (by kernel_rfl) (by kernel_rfl) (by kernel_rfl) (fun _ _ _ h => h) (Or.inl ⟨by kernel_rfl, fun w' hSw => ?_⟩) hS ?_
      · (have c := hSw.c1; go_simp)
      simp only [Act.put, List.setIfInBounds_toArray, List.set_cons_zero, List.set_cons_succ]
      refine wpAnyZ_any (i := 18) (oi := ⟨some 40, _, _, _, _, _⟩) (v := .int .u32 (b1 : Int)) rfl (by kernel_rfl) (by kernel_rfl) (by kernel_rfl) (by kernel_rfl) (fun _ _ _ h => h) (Or.inl ⟨by kernel_rfl, fun w' _ => ?_⟩) ⟨.inr hS.1, .inr hS.2⟩ ?_
      · go_simp
      simp only [Act.put, List.setIfInBounds_toArray, List.set_cons_zero, List.set_cons_succ]
      refine wpAnyZ_any (i := 19) (oi := ⟨some 41, _, _, _, _, _⟩) (v := .int .u32 ((b1 : Int) * 65536)) rfl (by kernel_rfl) (by kernel_rfl) (by kernel_rfl) (by kernel_rfl) (fun _ _ _ h => h) (Or.inl ⟨by kernel_rfl, fun w' _ => ?_⟩) ⟨.inr hS.1, .inr hS.2⟩ ?_
      · go_simp
      simp only [Act.put, List.setIfInBounds_toArray, List.set_cons_zero, List.set_cons_succ]
      refine wpAnyZ_any (i := 20) (oi := ⟨some 42, _, _, _, _, _⟩) (v := .int .u32 ((b0 : Int) * 16777216 + (b1 : Int) * 65536)) rfl (by kernel_rfl) (by kernel_rfl) (by kernel_rfl) (by kernel_rfl) (fun _ _ _ h => h) (Or.inl ⟨by kernel_rfl, fun w' _ => ?_⟩) ⟨.inr hS.1, .inr hS.2⟩ ?_
      · go_simp
      simp only [Act.put, List.setIfInBounds_toArray, List.set_cons_zero, List.set_cons_succ]
      refine wpAnyZ_any (i := 21) (oi := ⟨some 43, _, _, _, _, _⟩) (v := .slice (some ad) 32 cap) rfl (by kernel_rfl) (by kernel_rfl) (by kernel_rfl) (by kernel_rfl) (fun _ _ _ h => h) (Or.inl ⟨by kernel_rfl, fun w' _ => ?_⟩) ⟨.inr hS.1, .inr hS.2⟩ ?_
      · go_simp
      simp only [Act.put, List.setIfInBounds_toArray, List.set_cons_zero, List.set_cons_succ]
      refine wpAnyZ_any (i := 22) (oi := ⟨some 44, _, _, _, _, _⟩) (v := .int .i64 (k : Int)) rfl (by kernel_rfl) (by kernel_rfl) (by kernel_rfl) (by kernel_rfl) (fun _ _ _ h => h) (Or.inl ⟨by kernel_rfl, fun w' _ => ?_⟩) ⟨.inr hS.1, .inr hS.2⟩ ?_
      · go_simp
      simp only [Act.put, List.setIfInBounds_toArray, List.set_cons_zero, List.set_cons_succ]
      refine wpAnyZ_any (i := 23) (oi := ⟨some 45, _, _, _, _, _⟩) (v := .int .i64 (q : Int)) rfl (by kernel_rfl) (by kernel_rfl) (by kernel_rfl) (by kernel_rfl) (fun _ _ _ h => h) (Or.inl ⟨by kernel_rfl, fun w' _ => ?_⟩) ⟨.inr hS.1, .inr hS.2⟩ ?_
      · (go_simp; rw [show 4 * (k : Int) = (q : Int) by have := HQ.out; omega]; exact IntWalk.i64_in _ (by omega))
      simp only [Act.put, List.setIfInBounds_toArray, List.set_cons_zero, List.set_cons_succ]
      refine wpAnyZ_any (i := 24) (oi := ⟨some 46, _, _, _, _, _⟩) (v := .int .i64 (q2 : Int)) rfl (by kernel_rfl) (by kernel_rfl) (by kernel_rfl) (by kernel_rfl) (fun _ _ _ h => h) (Or.inl ⟨by kernel_rfl, fun w' _ => ?_⟩) ⟨.inr hS.1, .inr hS.2⟩ ?_
      · (go_simp; rw [show (q : Int) + 2 = (q2 : Int) by have := HQ2.out; omega]; exact IntWalk.i64_in _ (by omega))
      simp only [Act.put, List.setIfInBounds_toArray, List.set_cons_zero, List.set_cons_succ]
      refine wpAnyZ_any (i := 25) (oi := ⟨some 47, _, _, _, _, _⟩) (v := .pointer (some (ad.add q2))) rfl (by kernel_rfl) (by kernel_rfl) (by kernel_rfl) (by kernel_rfl) (fun _ _ _ h => h) (Or.inl ⟨by kernel_rfl, fun w' _ => ?_⟩) ⟨.inr hS.1, .inr hS.2⟩ ?_
      · go_simp
      simp only [Act.put, List.setIfInBounds_toArray, List.set_cons_zero, List.set_cons_succ]
      refine wpAnyZ_take (i := 26) (oi := ⟨some 48, _, _, _, _, _⟩) (v := .int .u8 (b2 : Int)) rfl (by kernel_rfl) (by kernel_rfl) (by kernel_rfl) (by kernel_rfl) (fun _ _ _ h => h) (Or.inl ⟨by kernel_rfl, fun w' hSw => ?_⟩) hS ?_
      · (have c := hSw.c2; go_simp)
      simp only [Act.put, List.setIfInBounds_toArray, List.set_cons_zero, List.set_cons_succ]
      refine wpAnyZ_any (i := 27) (oi := ⟨some 49, _, _, _, _, _⟩) (v := .int .u32 (b2 : Int)) rfl (by kernel_rfl) (by kernel_rfl) (by kernel_rfl) (by kernel_rfl) (fun _ _ _ h => h) (Or.inl ⟨by kernel_rfl, fun w' _ => ?_⟩) ⟨.inr hS.1, .inr hS.2⟩ ?_
      · go_simp
      simp only [Act.put, List.setIfInBounds_toArray, List.set_cons_zero, List.set_cons_succ]
      refine wpAnyZ_any (i := 28) (oi := ⟨some 50, _, _, _, _, _⟩) (v := .int .u32 ((b2 : Int) * 256)) rfl (by kernel_rfl) (by kernel_rfl) (by kernel_rfl) (by kernel_rfl) (fun _ _ _ h => h) (Or.inl ⟨by kernel_rfl, fun w' _ => ?_⟩) ⟨.inr hS.1, .inr hS.2⟩ ?_
      · go_simp
      simp only [Act.put, List.setIfInBounds_toArray, List.set_cons_zero, List.set_cons_succ]
      refine wpAnyZ_any (i := 29) (oi := ⟨some 51, _, _, _, _, _⟩) (v := .int .u32 ((b0 : Int) * 16777216 + (b1 : Int) * 65536 + (b2 : Int) * 256)) rfl (by kernel_rfl) (by kernel_rfl) (by kernel_rfl) (by kernel_rfl) (fun _ _ _ h => h) (Or.inl ⟨by kernel_rfl, fun w' _ => ?_⟩) ⟨.inr hS.1, .inr hS.2⟩ ?_
      · go_simp
      simp only [Act.put, List.setIfInBounds_toArray, List.set_cons_zero, List.set_cons_succ]
      refine wpAnyZ_any (i := 30) (oi := ⟨some 52, _, _, _, _, _⟩) (v := .slice (some ad) 32 cap) rfl (by kernel_rfl) (by kernel_rfl) (by kernel_rfl) (by kernel_rfl) (fun _ _ _ h => h) (Or.inl ⟨by kernel_rfl, fun w' _ => ?_⟩) ⟨.inr hS.1, .inr hS.2⟩ ?_
      · go_simp
      simp only [Act.put, List.setIfInBounds_toArray, List.set_cons_zero, List.set_cons_succ]
      refine wpAnyZ_any (i := 31) (oi := ⟨some 53, _, _, _, _, _⟩) (v := .int .i64 (k : Int)) rfl (by kernel_rfl) (by kernel_rfl) (by kernel_rfl) (by kernel_rfl) (fun _ _ _ h => h) (Or.inl ⟨by kernel_rfl, fun w' _ => ?_⟩) ⟨.inr hS.1, .inr hS.2⟩ ?_
      · go_simp
      simp only [Act.put, List.setIfInBounds_toArray, List.set_cons_zero, List.set_cons_succ]
      refine wpAnyZ_any (i := 32) (oi := ⟨some 54, _, _, _, _, _⟩) (v := .int .i64 (q : Int)) rfl (by kernel_rfl) (by kernel_rfl) (by kernel_rfl) (by kernel_rfl) (fun _ _ _ h => h) (Or.inl ⟨by kernel_rfl, fun w' _ => ?_⟩) ⟨.inr hS.1, .inr hS.2⟩ ?_
      · (go_simp; rw [show 4 * (k : Int) = (q : Int) by have := HQ.out; omega]; exact IntWalk.i64_in _ (by omega))
      simp only [Act.put, List.setIfInBounds_toArray, List.set_cons_zero, List.set_cons_succ]
      refine wpAnyZ_any (i := 33) (oi := ⟨some 55, _, _, _, _, _⟩) (v := .int .i64 (q3 : Int)) rfl (by kernel_rfl) (by kernel_rfl) (by kernel_rfl) (by kernel_rfl) (fun _ _ _ h => h) (Or.inl ⟨by kernel_rfl, fun w' _ => ?_⟩) ⟨.inr hS.1, .inr hS.2⟩ ?_
      · (go_simp; rw [show (q : Int) + 3 = (q3 : Int) by have := HQ3.out; omega]; exact IntWalk.i64_in _ (by omega))
      simp only [Act.put, List.setIfInBounds_toArray, List.set_cons_zero, List.set_cons_succ]
      refine wpAnyZ_any (i := 34) (oi := ⟨some 56, _, _, _, _, _⟩) (v := .pointer (some (ad.add q3))) rfl (by kernel_rfl) (by kernel_rfl) (by kernel_rfl) (by kernel_rfl) (fun _ _ _ h => h) (Or.inl ⟨by kernel_rfl, fun w' _ => ?_⟩) ⟨.inr hS.1, .inr hS.2⟩ ?_
      · go_simp
      simp only [Act.put, List.setIfInBounds_toArray, List.set_cons_zero, List.set_cons_succ]
      refine wpAnyZ_take (i := 35) (oi := ⟨some 57, _, _, _, _, _⟩) (v := .int .u8 (b3 : Int)) rfl (by kernel_rfl) (by kernel_rfl) (by kernel_rfl) (by kernel_rfl) (fun _ _ _ h => h) (Or.inl ⟨by kernel_rfl, fun w' hSw => ?_⟩) hS ?_
      · (have c := hSw.c3; go_simp)
      simp only [Act.put, List.setIfInBounds_toArray, List.set_cons_zero, List.set_cons_succ]
      refine wpAnyZ_any (i := 36) (oi := ⟨some 58, _, _, _, _, _⟩) (v := .int .u32 (b3 : Int)) rfl (by kernel_rfl) (by kernel_rfl) (by kernel_rfl) (by kernel_rfl) (fun _ _ _ h => h) (Or.inl ⟨by kernel_rfl, fun w' _ => ?_⟩) ⟨.inr hS.1, .inr hS.2⟩ ?_
      · go_simp
      simp only [Act.put, List.setIfInBounds_toArray, List.set_cons_zero, List.set_cons_succ]
      refine wpAnyZ_any (i := 37) (oi := ⟨some 59, _, _, _, _, _⟩) (v := .int .u32 (x : Int)) rfl (by kernel_rfl) (by kernel_rfl) (by kernel_rfl) (by kernel_rfl) (fun _ _ _ h => h) (Or.inl ⟨by kernel_rfl, fun w' _ => ?_⟩) ⟨.inr hS.1, .inr hS.2⟩ ?_
      · go_simp
      simp only [Act.put, List.setIfInBounds_toArray, List.set_cons_zero, List.set_cons_succ]
      refine wpAnyZ_one (i := 38) (o := ⟨some 60, _, _, _, _, _⟩) (by kernel_rfl) rfl (by kernel_rfl) (fun K hK => ?_)
      go_simp
      have hS := (show _ ∧ True from ⟨hS.1.below (hB0.alloc hS0.sz (.cells #[.int .u32 (x : Int)] 50)), trivial⟩)
      refine hK.out _ _ ⟨.inr hS.1, .inr hS.2⟩ ?_
      clear hK K
      refine wpAnyZ_one (i := 39) (o := ⟨some 61, _, _, _, _, _⟩) (by kernel_rfl) rfl (by kernel_rfl) (fun K hK => ?_)
      refine wpo_appW (.tmp 26) (.tmp 60) rfl (C + 1) v ks rfl (hO.alloc _) (some ⟨wr.heap.size, 0, none⟩) 1 1 [x] rfl (words_one _ _ x rfl hx) (by have := HKL.out; omega) (by have := hS0.sz; simp; omega) ?_
      intro v2 w3 g1 g2 g3
      obtain ⟨A2, n2, cc2, rfl⟩ := g1.slice_
      have hB3 : Below (C + 1) wr.drew w3 := grown_below (hB0.alloc hS0.sz _) g2 (by have := hS0.sz; simp; omega) (fun k hk => (hS0.own.ge k hk).1)
      have hC3 := (hS9.below hB3).ciph
      have hS := (show _ ∧ True from ⟨hS9.below hB3, trivial⟩)
      refine hK.out _ _ ⟨.inr hS.1, .inr hS.2⟩ ?_
      clear hK K
      simp only [Act.put, List.setIfInBounds_toArray, List.set_cons_zero, List.set_cons_succ]
      refine wpAnyZ_any (i := 40) (oi := ⟨some 62, _, _, _, _, _⟩) (v := .pointer (some ⟨C, 0, none⟩)) rfl (by kernel_rfl) (by kernel_rfl) (by kernel_rfl) (by kernel_rfl) (fun _ _ _ h => h) (Or.inl ⟨by kernel_rfl, fun w' _ => ?_⟩) ⟨.inr hS.1, .inr hS.2⟩ ?_
      · go_simp
      simp only [Act.put, List.setIfInBounds_toArray, List.set_cons_zero, List.set_cons_succ]
      refine wpAnyZ_any (i := 41) (oi := ⟨some 63, _, _, _, _, _⟩) (v := .pointer (some ⟨C, 1, none⟩)) rfl (by kernel_rfl) (by kernel_rfl) (by kernel_rfl) (by kernel_rfl) (fun _ _ _ h => h) (Or.inl ⟨by kernel_rfl, fun w' _ => ?_⟩) ⟨.inr hS.1, .inr hS.2⟩ ?_
      · go_simp
      simp only [Act.put, List.setIfInBounds_toArray, List.set_cons_zero, List.set_cons_succ]
      refine wpAnyZ_one (i := 42) (o := ⟨none, _, _, _, _, _⟩) (by kernel_rfl) rfl (by kernel_rfl) (fun K hK => ?_)
      have c := hS.1.ciph.keys
      have f := hS.1.ciph.free 1
      go_simp
      refine hK.out _ _ ⟨.inl (show _ = true by kernel_rfl), .inl (show _ = true by kernel_rfl)⟩ ?_
      clear hK K hS
      refine wpAnyZ_done (by kernel_rfl) ?_ _
      go_wp2_with fail
      have hS3 : RnS w C X (.slice A2 n2 cc2) (ks ++ [x]) (w3.setCell ⟨C, 1, none⟩ (.slice A2 n2 cc2)) :=
        ⟨hC3.set, g1.setCell (fun e => by have := (g1.ge C e).1; omega), (rowIs_below (w := wr.drew) hS0.box hB3 (by have := hS0.lt; have := hS0.xlt; omega)).setOther (show X ≠ C by have := hS0.lt; have := hS0.xlt; omega) _, ((hS0.bel.drew).trans (hB3.mono (by have := hS0.lt; omega))).setCell (show w.heap.size ≤ C by have := hS0.lt; omega) _, by have hz : wr.heap.size ≤ w3.heap.size := hB3.size; have := hS0.sz; simp only [World.size_setCell]; omega, hS0.lt, hS0.xlt⟩
      go_roundw
      case rel =>
        refine ⟨k + 1, .slice A2 n2 cc2, by go_num, by omega, ?_⟩
        rw [take_keyW hl.1 (by omega), ← HKS.out, ← HKW.out]
        exact hS3
      case measure => simp [intOf]; omega
theorem rnew_any (X : Nat) (A : Option Addr) (n cap : Nat) (l : List Nat) (w : World) (hl : Bytes w A n l) (hX : BoxM w X) (hn : n = 16 ∨ n = 32) :
    Calls Try.prog 63 #[.pointer (some ⟨X, 0, none⟩), .slice A n cap] w fun e w' => RnewQ l X w e w' := by
  rcases hn with rfl | rfl
  · exact rnew16 X A cap l w hl hX
  · exact rnew32 X A cap l w hl hX
end Go.Proofs.Ytibfihjcjohadaa
