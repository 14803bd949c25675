/-
  The walk of the law on each word of a schedule: it returns true, whatever the input, and writes nothing that was there.
-/
import Derived.Test.YtibfihjcjohadaaL22
namespace Go.Proofs.Ytibfihjcjohadaa
open Go.RowKit Go.Op
open Sbx (sub sub_lt word word_lt)
open Aes (words words_len words_next rot8 rot8_lt turnW)
set_option maxRecDepth 100000 in
set_option maxHeartbeats 1000000 in
theorem sched6_out (A : Option Addr) (n c : Nat) (w : World) (ap : ((n : Int) != 16) = true) (aq : ((n : Int) != 32) = true) :
    Calls Try.prog 23 #[.slice A n c] w fun e w' => e = .returned (.bool true) ∧ Below w.heap.size w w' := by
  go_enter Try.func23, Try.ntmps23
  go_wp2_with fail
  refine (awake6 _).mono ?_
  rintro e w' ⟨rfl, hbel⟩
  go_wp2_with fail
  go_ret
  exact ⟨rfl, hbel⟩
set_option maxRecDepth 100000 in
set_option maxHeartbeats 8000000 in
theorem sched6_in16 (A : Option Addr) (c : Nat) (l : List Nat) (w : World) (hl : Bytes w A 16 l) (hc : 16 ≤ c) :
    Calls Try.prog 23 #[.slice A 16 c] w fun e w' => e = .returned (.bool true) ∧ Below w.heap.size w w' := by
  have hwl : (words l).length = 44 := by rw [words_len, hl.1]
  have HNX : Box (∀ i, 4 ≤ i → i < 44 → (words l).getD i 0 = (words l).getD (i - 4) 0 ^^^ turnW 4 i ((words l).getD (i - 1) 0)) := ⟨fun i h1 h2 => by
    have e : l.length / 4 = 4 := by rw [hl.1]
    have h := words_next (l := l) (by rw [e]; decide) (i := i) (by rw [e]; exact h1) (by rw [e]; omega)
    rwa [e] at h⟩
  have HKY : Box (∀ (w : World) (C : Nat), Ciph w C (words l) → Calls Try.prog 64 #[.pointer (some ⟨C, 0, none⟩)] w (OwnWQ (words l) w)) := ⟨fun w C h => keys_any C (words l) w h (by omega) (by omega)⟩
  have HNW : Box (∀ (w : World) , Bytes w A 16 l → Calls Try.prog 59 #[.slice A 16 c] w fun e w' => NewQ l w e w') := ⟨fun w h => new_any A 16 c l w h hc (.inl rfl)⟩
  go_enter Try.func23, Try.ntmps23
  go_wp2_with fail
  refine (HNW.out _ hl).mono ?_
  rintro e w2 ⟨C, rfl, hC, hb2, hCF⟩
  clear hCF HNW hl
  go_wp2_with fail
  refine (HKY.out _ C hC).mono ?_
  rintro e w3 ⟨v5, rfl, h5, hb3⟩
  have hb3 := hb2.trans (hb3.mono hb2.size)
  obtain ⟨A5, c5, hv5⟩ := h5.form
  subst hv5
  rw [hwl] at h5
  obtain ⟨g5, hA5, hg50, hg51⟩ := h5.at0 (by omega)
  subst hA5
  rw [hwl]
  clear HKY hC hb2
  go_wp2_with fail
  refine (newBox_any _).mono ?_
  rintro e w4 ⟨rfl, hX, hb4, hz4⟩
  have h5 := h5.below hb4 (Nat.le_refl _)
  have hw4 := hb3.trans (hb4.mono hb3.size)
  clear hb4
  generalize hXe : w3.heap.size = X at *
  have hXl : X < w4.heap.size := hX.lt
  have hg5 : g5 < w4.heap.size := by omega
  clear hb3 hg51 hXe hz4
  go_wp2_with fail
  go_loopw [8, 9, 54, 73] (fun i _t _a _b wr => ∃ (k : Nat), i = .int .i64 (k : Int) ∧ 4 ≤ k ∧ k ≤ 44 ∧ Below w4.heap.size w4 wr) (fun i _ _ _ _ => 44 - (intOf i).toNat)
  case atStart => exact ⟨4, rfl, by omega, by omega, Below.refl _ _⟩
  case round =>
    obtain ⟨k, rfl, hk1, hk2, hB⟩ := hrel
    by_cases hkT : k = 44
    · subst hkT
      go_wp2_with fail
      refine (awake6 _).mono ?_
      rintro e w' ⟨rfl, hbel⟩
      go_wp2_with fail
      go_ret
      exact ⟨rfl, (hw4.trans (hB.mono hw4.size)).trans (hbel.mono (by have := hw4.size; have := hB.size; omega))⟩
    · have hk3 : k < 44 := by omega
      clear hkT
      obtain ⟨m, rfl⟩ : ∃ m, k = m + 1 := ⟨k - 1, by omega⟩
      obtain ⟨t, htq⟩ : ∃ t, (words l).getD m 0 = t := ⟨_, rfl⟩
      have ht : t < 4294967296 := by rw [← htq]; exact Aes.getD_lt h5.2.2 m
      have hct := (h5.below hB (Nat.le_refl _)).cellAt (j := m) (by omega)
      rw [htq] at hct
      have HT := Box.mk htq
      clear htq
      have j0 : (0 : Int) ≤ (m : Int) := by omega
      have j1 : (m : Int) < 44 := by omega
      rw [show ((m + 1 : Nat) : Int) = (m : Int) + 1 by omega]
      by_cases h0 : (m + 1) % 4 = 0
      · have h0' : (((m : Int) + 1) % 4 == 0) = true := by simp; omega
        have hrt := rot8_lt ht
        have HOR : Box (bits .or .u32 ((t : Int) * 256 % 4294967296) ((t : Int) / 16777216) = ((rot8 t : Nat) : Int)) := ⟨or_rot ht⟩
        have HRD := Box.mk (fun w => rround_any (((m + 1) / 4 : Nat) : Int) w (by omega) (by omega))
        obtain ⟨r, hr⟩ : ∃ r, Aes.rcon ((m + 1) / 4) = r := ⟨_, rfl⟩
        have hrl : r < 256 := by rw [← hr]; exact Aes.rcon_lt _
        have hrr : roundN (((m + 1) / 4 : Nat) : Int) = r := by rw [← hr]; exact round_rcon (by omega) (by omega)
        rw [hrr] at HRD
        clear hrr
        have v1 := u32_nat r (by omega)
        have v2 : IntKind.u32.wrap ((r : Int) * 16777216) = (r : Int) * 16777216 := by have := u32_nat (r * 16777216) (by omega); rw [Int.natCast_mul] at this; exact this
        have HWD := Box.mk (fun w h => rword_any X (rot8 t) hrt w h)
        have hwr := word_lt (w := rot8 t)
        obtain ⟨y, hye⟩ : ∃ y, word (rot8 t) ^^^ r * 16777216 = y := ⟨_, rfl⟩
        have hy : y < 4294967296 := by rw [← hye]; exact Aes.xor_lt32 hwr (by omega)
        have hxr : bits .xor .u32 ((word (rot8 t) : Nat) : Int) ((r : Int) * 16777216) = (y : Int) := by
          have := u32_xor_nat (word (rot8 t)) (r * 16777216) hwr (by omega)
          rw [hye, Int.natCast_mul] at this; exact this
        have HY : Box (turnW 4 (m + 1) ((words l).getD m 0) = y) := ⟨by unfold turnW; rw [if_pos h0, HT.out, hr, ← hye]⟩
        obtain ⟨z, hz⟩ : ∃ z, rot8 t = z := ⟨_, rfl⟩
        rw [hz] at HWD hxr HOR hrt
        obtain ⟨u, hu⟩ : ∃ u, word z = u := ⟨_, rfl⟩
        rw [hu] at HWD hxr
        have hX := rowIs_below hX hB hXl
        have hXl : X < wr.heap.size := by have := hB.size; omega
        clear hye h0 hz hu HT hwr hr
        go_wp2_with fail
        refine wp_region_held_drew (S := fun w' => Below wr.heap.size wr w') (by kernel_rfl) (Below.refl _ _).drew (fun hS => ?_)
        refine wpAnyH_take (i := 0) (oi := ⟨some 59, _, _, _, _, _⟩) (v := .pointer (some ⟨X, 0, none⟩)) rfl (by kernel_rfl) (by kernel_rfl) (by kernel_rfl) (fun _ _ _ h => h) (Or.inl ⟨by kernel_rfl, fun w' hSw => ?_⟩) hS ?_
        · go_simp
        simp only [Act.put, List.setIfInBounds_toArray, List.set_cons_zero, List.set_cons_succ]
        refine wpAnyH_take (i := 1) (oi := ⟨some 60, _, _, _, _, _⟩) (v := .int .u32 (t : Int)) rfl (by kernel_rfl) (by kernel_rfl) (by kernel_rfl) (fun _ _ _ h => h) (Or.inl ⟨by kernel_rfl, fun w' hSw => ?_⟩) hS ?_
        · go_simp
        simp only [Act.put, List.setIfInBounds_toArray, List.set_cons_zero, List.set_cons_succ]
        refine wpAnyH_take (i := 2) (oi := ⟨some 61, _, _, _, _, _⟩) (v := .int .u32 ((t : Int) * 256 % 4294967296)) rfl (by kernel_rfl) (by kernel_rfl) (by kernel_rfl) (fun _ _ _ h => h) (Or.inl ⟨by kernel_rfl, fun w' hSw => ?_⟩) hS ?_
        · (go_simp; rw [IntKind.wrap_u32])
        simp only [Act.put, List.setIfInBounds_toArray, List.set_cons_zero, List.set_cons_succ]
        refine wpAnyH_take (i := 3) (oi := ⟨some 62, _, _, _, _, _⟩) (v := .int .u32 (t : Int)) rfl (by kernel_rfl) (by kernel_rfl) (by kernel_rfl) (fun _ _ _ h => h) (Or.inl ⟨by kernel_rfl, fun w' hSw => ?_⟩) hS ?_
        · go_simp
        simp only [Act.put, List.setIfInBounds_toArray, List.set_cons_zero, List.set_cons_succ]
        refine wpAnyH_take (i := 4) (oi := ⟨some 63, _, _, _, _, _⟩) (v := .int .u32 ((t : Int) / 16777216)) rfl (by kernel_rfl) (by kernel_rfl) (by kernel_rfl) (fun _ _ _ h => h) (Or.inl ⟨by kernel_rfl, fun w' hSw => ?_⟩) hS ?_
        · go_simp
        simp only [Act.put, List.setIfInBounds_toArray, List.set_cons_zero, List.set_cons_succ]
        refine wpAnyH_take (i := 5) (oi := ⟨some 64, _, _, _, _, _⟩) (v := .int .u32 (z : Int)) rfl (by kernel_rfl) (by kernel_rfl) (by kernel_rfl) (fun _ _ _ h => h) (Or.inl ⟨by kernel_rfl, fun w' hSw => ?_⟩) hS ?_
        · (have h := HOR.out; go_simp)
        simp only [Act.put, List.setIfInBounds_toArray, List.set_cons_zero, List.set_cons_succ]
        refine wpAnyH_take (i := 7) (oi := ⟨some 66, _, _, _, _, _⟩) (v := .int .i64 ((m : Int) + 1)) rfl (by kernel_rfl) (by kernel_rfl) (by kernel_rfl) (fun _ _ _ h => h) (Or.inl ⟨by kernel_rfl, fun w' hSw => ?_⟩) hS ?_
        · go_simp
        simp only [Act.put, List.setIfInBounds_toArray, List.set_cons_zero, List.set_cons_succ]
        refine wpAnyH_take (i := 8) (oi := ⟨some 67, _, _, _, _, _⟩) (v := .int .i64 4) rfl (by kernel_rfl) (by kernel_rfl) (by kernel_rfl) (fun _ _ _ h => h) (Or.inl ⟨by kernel_rfl, fun w' hSw => ?_⟩) hS ?_
        · go_simp
        simp only [Act.put, List.setIfInBounds_toArray, List.set_cons_zero, List.set_cons_succ]
        refine wpAnyH_take (i := 9) (oi := ⟨some 68, _, _, _, _, _⟩) (v := .int .i64 (((m + 1) / 4 : Nat) : Int)) rfl (by kernel_rfl) (by kernel_rfl) (by kernel_rfl) (fun _ _ _ h => h) (Or.inl ⟨by kernel_rfl, fun w' hSw => ?_⟩) hS ?_
        · (go_simp; try first | exact IntWalk.i64_in _ (by omega) | (rw [Int.tdiv_eq_ediv_of_nonneg (by omega)]; exact IntWalk.i64_in _ (by omega)))
        simp only [Act.put, List.setIfInBounds_toArray, List.set_cons_zero, List.set_cons_succ]
        refine wpAnyH_ready (rs := [6]) (by kernel_rfl) (by simp) ?_
        refine (AllReadyH.cons (o := ⟨some 65, _, _, _, _, _⟩) rfl (fun K hK => ?_) AllReadyH.nil)
        rw [if_pos (by kernel_rfl)]
        go_simp
        refine (HWD.out _ (rowIs_below hX hS hXl)).mono ?_
        rintro e v1 ⟨rfl, j, hj⟩
        have hS : Below wr.heap.size wr v1 := by rw [hj]; exact below_drewN hS j
        clear hj
        refine hK.out _ _ hS (fun hS => ?_)
        clear hK K
        refine wpAnyH_ready (rs := [10]) (by kernel_rfl) (by simp) ?_
        refine (AllReadyH.cons (o := ⟨some 69, _, _, _, _, _⟩) rfl (fun K hK => ?_) AllReadyH.nil)
        rw [if_pos (by kernel_rfl)]
        go_simp
        refine (HRD.out _).mono ?_
        rintro e q ⟨rfl, rfl⟩
        refine hK.out _ _ hS (fun hS => ?_)
        clear hK K
        refine wpAnyH_take (i := 11) (oi := ⟨some 70, _, _, _, _, _⟩) (v := .int .u32 (r : Int)) rfl (by kernel_rfl) (by kernel_rfl) (by kernel_rfl) (fun _ _ _ h => h) (Or.inl ⟨by kernel_rfl, fun w' hSw => ?_⟩) hS ?_
        · go_simp
        simp only [Act.put, List.setIfInBounds_toArray, List.set_cons_zero, List.set_cons_succ]
        refine wpAnyH_take (i := 12) (oi := ⟨some 71, _, _, _, _, _⟩) (v := .int .u32 ((r : Int) * 16777216)) rfl (by kernel_rfl) (by kernel_rfl) (by kernel_rfl) (fun _ _ _ h => h) (Or.inl ⟨by kernel_rfl, fun w' hSw => ?_⟩) hS ?_
        · go_simp
        simp only [Act.put, List.setIfInBounds_toArray, List.set_cons_zero, List.set_cons_succ]
        refine wpAnyH_take (i := 13) (oi := ⟨some 72, _, _, _, _, _⟩) (v := .int .u32 (y : Int)) rfl (by kernel_rfl) (by kernel_rfl) (by kernel_rfl) (fun _ _ _ h => h) (Or.inl ⟨by kernel_rfl, fun w' hSw => ?_⟩) hS ?_
        · go_simp
        simp only [Act.put, List.setIfInBounds_toArray, List.set_cons_zero, List.set_cons_succ]
        refine wpAnyH_take (i := 14) (oi := ⟨some 9, _, _, _, _, _⟩) (v := .int .u32 (y : Int)) rfl (by kernel_rfl) (by kernel_rfl) (by kernel_rfl) (fun _ _ _ h => h) (Or.inl ⟨by kernel_rfl, fun w' hSw => ?_⟩) hS ?_
        · go_simp
        simp only [Act.put, List.setIfInBounds_toArray, List.set_cons_zero, List.set_cons_succ]
        refine wpAnyH_done (by kernel_rfl) ?_ _
        go_wp2_with fail
        have hBV := hB.trans (hS.mono hB.size)
        clear hS
        obtain ⟨q, hq, hq2⟩ : ∃ q : Nat, q = m + 1 - 4 ∧ q < m + 1 := ⟨_, rfl, by omega⟩
        have hqi : (m : Int) + 1 - 4 = (q : Int) := by omega
        have HQ := Box.mk hqi
        obtain ⟨b, hbq⟩ : ∃ b, (words l).getD q 0 = b := ⟨_, rfl⟩
        have hbl : b < 4294967296 := by rw [← hbq]; exact Aes.getD_lt h5.2.2 q
        have h5V : OwnW v1 w2.heap.size (.slice (some ⟨g5, 0, none⟩) 44 c5) (words l) := h5.below hBV (Nat.le_refl _)
        have hcq := h5V.cellAt (j := q) (by omega)
        have hcx := h5V.cellAt (j := m + 1) (by omega)
        have hx : (words l).getD (m + 1) 0 = b ^^^ y := by rw [HNX.out (m + 1) (by omega) (by omega), ← hq, hbq, Nat.add_sub_cancel, HY.out]
        rw [hx] at hcx
        rw [hbq] at hcq
        have hxy := u32_xor_nat b y hbl hy
        have h5lt : g5 < (v1).heap.size := by have := hBV.size; omega
        have i0 : (0 : Int) ≤ (q : Int) := by omega
        have i1 : (q : Int) < 44 := by omega
        have i2 : (0 : Int) ≤ (m : Int) + 1 := by omega
        have i3 : (m : Int) + 1 < 44 := by omega
        clear hqi hbq hq hx h5V
        go_wp2_with fail
        refine wp_region_held_drew (S := fun w' => Below v1.heap.size v1 w') (by kernel_rfl) (Below.refl _ _).drew (fun hS => ?_)
        refine wpAnyH_take (i := 0) (oi := ⟨some 84, _, _, _, _, _⟩) (v := .slice (some ⟨g5, 0, none⟩) 44 c5) rfl (by kernel_rfl) (by kernel_rfl) (by kernel_rfl) (fun _ _ _ h => h) (Or.inl ⟨by kernel_rfl, fun w' hSw => ?_⟩) hS ?_
        · go_simp
        simp only [Act.put, List.setIfInBounds_toArray, List.set_cons_zero, List.set_cons_succ]
        refine wpAnyH_take (i := 1) (oi := ⟨some 85, _, _, _, _, _⟩) (v := .int .i64 ((m : Int) + 1)) rfl (by kernel_rfl) (by kernel_rfl) (by kernel_rfl) (fun _ _ _ h => h) (Or.inl ⟨by kernel_rfl, fun w' hSw => ?_⟩) hS ?_
        · go_simp
        simp only [Act.put, List.setIfInBounds_toArray, List.set_cons_zero, List.set_cons_succ]
        refine wpAnyH_take (i := 2) (oi := ⟨some 86, _, _, _, _, _⟩) (v := .pointer (some ⟨g5, m + 1, none⟩)) rfl (by kernel_rfl) (by kernel_rfl) (by kernel_rfl) (fun _ _ _ h => h) (Or.inl ⟨by kernel_rfl, fun w' hSw => ?_⟩) hS ?_
        · go_simp
        simp only [Act.put, List.setIfInBounds_toArray, List.set_cons_zero, List.set_cons_succ]
        refine wpAnyH_take (i := 3) (oi := ⟨some 87, _, _, _, _, _⟩) (v := .int .u32 ((b ^^^ y : Nat) : Int)) rfl (by kernel_rfl) (by kernel_rfl) (by kernel_rfl) (fun _ _ _ h => h) (Or.inl ⟨by kernel_rfl, fun w' hSw => ?_⟩) hS ?_
        · (have c := (hSw.cell (p := ⟨g5, m + 1, none⟩) h5lt).trans hcx; go_simp)
        simp only [Act.put, List.setIfInBounds_toArray, List.set_cons_zero, List.set_cons_succ]
        refine wpAnyH_take (i := 4) (oi := ⟨some 88, _, _, _, _, _⟩) (v := .slice (some ⟨g5, 0, none⟩) 44 c5) rfl (by kernel_rfl) (by kernel_rfl) (by kernel_rfl) (fun _ _ _ h => h) (Or.inl ⟨by kernel_rfl, fun w' hSw => ?_⟩) hS ?_
        · go_simp
        simp only [Act.put, List.setIfInBounds_toArray, List.set_cons_zero, List.set_cons_succ]
        refine wpAnyH_take (i := 5) (oi := ⟨some 89, _, _, _, _, _⟩) (v := .int .i64 ((m : Int) + 1)) rfl (by kernel_rfl) (by kernel_rfl) (by kernel_rfl) (fun _ _ _ h => h) (Or.inl ⟨by kernel_rfl, fun w' hSw => ?_⟩) hS ?_
        · go_simp
        simp only [Act.put, List.setIfInBounds_toArray, List.set_cons_zero, List.set_cons_succ]
        refine wpAnyH_take (i := 6) (oi := ⟨some 90, _, _, _, _, _⟩) (v := .int .i64 4) rfl (by kernel_rfl) (by kernel_rfl) (by kernel_rfl) (fun _ _ _ h => h) (Or.inl ⟨by kernel_rfl, fun w' hSw => ?_⟩) hS ?_
        · go_simp
        simp only [Act.put, List.setIfInBounds_toArray, List.set_cons_zero, List.set_cons_succ]
        refine wpAnyH_take (i := 7) (oi := ⟨some 91, _, _, _, _, _⟩) (v := .int .i64 (q : Int)) rfl (by kernel_rfl) (by kernel_rfl) (by kernel_rfl) (fun _ _ _ h => h) (Or.inl ⟨by kernel_rfl, fun w' hSw => ?_⟩) hS ?_
        · (go_simp; have h := HQ.out; rw [h]; exact IntWalk.i64_in _ (by omega))
        simp only [Act.put, List.setIfInBounds_toArray, List.set_cons_zero, List.set_cons_succ]
        refine wpAnyH_take (i := 8) (oi := ⟨some 92, _, _, _, _, _⟩) (v := .pointer (some ⟨g5, q, none⟩)) rfl (by kernel_rfl) (by kernel_rfl) (by kernel_rfl) (fun _ _ _ h => h) (Or.inl ⟨by kernel_rfl, fun w' hSw => ?_⟩) hS ?_
        · go_simp
        simp only [Act.put, List.setIfInBounds_toArray, List.set_cons_zero, List.set_cons_succ]
        refine wpAnyH_take (i := 9) (oi := ⟨some 93, _, _, _, _, _⟩) (v := .int .u32 (b : Int)) rfl (by kernel_rfl) (by kernel_rfl) (by kernel_rfl) (fun _ _ _ h => h) (Or.inl ⟨by kernel_rfl, fun w' hSw => ?_⟩) hS ?_
        · (have c := (hSw.cell (p := ⟨g5, q, none⟩) h5lt).trans hcq; go_simp)
        simp only [Act.put, List.setIfInBounds_toArray, List.set_cons_zero, List.set_cons_succ]
        refine wpAnyH_take (i := 10) (oi := ⟨some 94, _, _, _, _, _⟩) (v := .int .u32 (y : Int)) rfl (by kernel_rfl) (by kernel_rfl) (by kernel_rfl) (fun _ _ _ h => h) (Or.inl ⟨by kernel_rfl, fun w' hSw => ?_⟩) hS ?_
        · go_simp
        simp only [Act.put, List.setIfInBounds_toArray, List.set_cons_zero, List.set_cons_succ]
        refine wpAnyH_take (i := 11) (oi := ⟨some 95, _, _, _, _, _⟩) (v := .int .u32 ((b ^^^ y : Nat) : Int)) rfl (by kernel_rfl) (by kernel_rfl) (by kernel_rfl) (fun _ _ _ h => h) (Or.inl ⟨by kernel_rfl, fun w' hSw => ?_⟩) hS ?_
        · go_simp
        simp only [Act.put, List.setIfInBounds_toArray, List.set_cons_zero, List.set_cons_succ]
        refine wpAnyH_take (i := 12) (oi := ⟨some 96, _, _, _, _, _⟩) (v := .bool false) rfl (by kernel_rfl) (by kernel_rfl) (by kernel_rfl) (fun _ _ _ h => h) (Or.inl ⟨by kernel_rfl, fun w' hSw => ?_⟩) hS ?_
        · go_simp
        simp only [Act.put, List.setIfInBounds_toArray, List.set_cons_zero, List.set_cons_succ]
        refine wpAnyH_done (by kernel_rfl) ?_ _
        go_wp2_with fail
        go_roundw
        case rel => exact ⟨m + 1 + 1, by go_num, by omega, by omega, hBV.trans (hS.mono hBV.size)⟩
        case measure => simp [intOf]; omega
      · have h0' : (((m : Int) + 1) % 4 == 0) = false := by simp; omega
        have HY : Box (turnW 4 (m + 1) ((words l).getD m 0) = t) := ⟨by unfold turnW; rw [if_neg h0, if_neg (by omega), HT.out]⟩
        have hy := ht
        have hBV := hB
        clear h0 HT
        go_wp2_with fail
        obtain ⟨q, hq, hq2⟩ : ∃ q : Nat, q = m + 1 - 4 ∧ q < m + 1 := ⟨_, rfl, by omega⟩
        have hqi : (m : Int) + 1 - 4 = (q : Int) := by omega
        have HQ := Box.mk hqi
        obtain ⟨b, hbq⟩ : ∃ b, (words l).getD q 0 = b := ⟨_, rfl⟩
        have hbl : b < 4294967296 := by rw [← hbq]; exact Aes.getD_lt h5.2.2 q
        have h5V : OwnW wr w2.heap.size (.slice (some ⟨g5, 0, none⟩) 44 c5) (words l) := h5.below hBV (Nat.le_refl _)
        have hcq := h5V.cellAt (j := q) (by omega)
        have hcx := h5V.cellAt (j := m + 1) (by omega)
        have hx : (words l).getD (m + 1) 0 = b ^^^ t := by rw [HNX.out (m + 1) (by omega) (by omega), ← hq, hbq, Nat.add_sub_cancel, HY.out]
        rw [hx] at hcx
        rw [hbq] at hcq
        have hxy := u32_xor_nat b t hbl hy
        have h5lt : g5 < (wr).heap.size := by have := hBV.size; omega
        have i0 : (0 : Int) ≤ (q : Int) := by omega
        have i1 : (q : Int) < 44 := by omega
        have i2 : (0 : Int) ≤ (m : Int) + 1 := by omega
        have i3 : (m : Int) + 1 < 44 := by omega
        clear hqi hbq hq hx h5V
        go_wp2_with fail
        refine wp_region_held_drew (S := fun w' => Below wr.heap.size wr w') (by kernel_rfl) (Below.refl _ _).drew (fun hS => ?_)
        refine wpAnyH_take (i := 0) (oi := ⟨some 84, _, _, _, _, _⟩) (v := .slice (some ⟨g5, 0, none⟩) 44 c5) rfl (by kernel_rfl) (by kernel_rfl) (by kernel_rfl) (fun _ _ _ h => h) (Or.inl ⟨by kernel_rfl, fun w' hSw => ?_⟩) hS ?_
        · go_simp
        simp only [Act.put, List.setIfInBounds_toArray, List.set_cons_zero, List.set_cons_succ]
        refine wpAnyH_take (i := 1) (oi := ⟨some 85, _, _, _, _, _⟩) (v := .int .i64 ((m : Int) + 1)) rfl (by kernel_rfl) (by kernel_rfl) (by kernel_rfl) (fun _ _ _ h => h) (Or.inl ⟨by kernel_rfl, fun w' hSw => ?_⟩) hS ?_
        · go_simp
        simp only [Act.put, List.setIfInBounds_toArray, List.set_cons_zero, List.set_cons_succ]
        refine wpAnyH_take (i := 2) (oi := ⟨some 86, _, _, _, _, _⟩) (v := .pointer (some ⟨g5, m + 1, none⟩)) rfl (by kernel_rfl) (by kernel_rfl) (by kernel_rfl) (fun _ _ _ h => h) (Or.inl ⟨by kernel_rfl, fun w' hSw => ?_⟩) hS ?_
        · go_simp
        simp only [Act.put, List.setIfInBounds_toArray, List.set_cons_zero, List.set_cons_succ]
        refine wpAnyH_take (i := 3) (oi := ⟨some 87, _, _, _, _, _⟩) (v := .int .u32 ((b ^^^ t : Nat) : Int)) rfl (by kernel_rfl) (by kernel_rfl) (by kernel_rfl) (fun _ _ _ h => h) (Or.inl ⟨by kernel_rfl, fun w' hSw => ?_⟩) hS ?_
        · (have c := (hSw.cell (p := ⟨g5, m + 1, none⟩) h5lt).trans hcx; go_simp)
        simp only [Act.put, List.setIfInBounds_toArray, List.set_cons_zero, List.set_cons_succ]
        refine wpAnyH_take (i := 4) (oi := ⟨some 88, _, _, _, _, _⟩) (v := .slice (some ⟨g5, 0, none⟩) 44 c5) rfl (by kernel_rfl) (by kernel_rfl) (by kernel_rfl) (fun _ _ _ h => h) (Or.inl ⟨by kernel_rfl, fun w' hSw => ?_⟩) hS ?_
        · go_simp
        simp only [Act.put, List.setIfInBounds_toArray, List.set_cons_zero, List.set_cons_succ]
        refine wpAnyH_take (i := 5) (oi := ⟨some 89, _, _, _, _, _⟩) (v := .int .i64 ((m : Int) + 1)) rfl (by kernel_rfl) (by kernel_rfl) (by kernel_rfl) (fun _ _ _ h => h) (Or.inl ⟨by kernel_rfl, fun w' hSw => ?_⟩) hS ?_
        · go_simp
        simp only [Act.put, List.setIfInBounds_toArray, List.set_cons_zero, List.set_cons_succ]
        refine wpAnyH_take (i := 6) (oi := ⟨some 90, _, _, _, _, _⟩) (v := .int .i64 4) rfl (by kernel_rfl) (by kernel_rfl) (by kernel_rfl) (fun _ _ _ h => h) (Or.inl ⟨by kernel_rfl, fun w' hSw => ?_⟩) hS ?_
        · go_simp
        simp only [Act.put, List.setIfInBounds_toArray, List.set_cons_zero, List.set_cons_succ]
        refine wpAnyH_take (i := 7) (oi := ⟨some 91, _, _, _, _, _⟩) (v := .int .i64 (q : Int)) rfl (by kernel_rfl) (by kernel_rfl) (by kernel_rfl) (fun _ _ _ h => h) (Or.inl ⟨by kernel_rfl, fun w' hSw => ?_⟩) hS ?_
        · (go_simp; have h := HQ.out; rw [h]; exact IntWalk.i64_in _ (by omega))
        simp only [Act.put, List.setIfInBounds_toArray, List.set_cons_zero, List.set_cons_succ]
        refine wpAnyH_take (i := 8) (oi := ⟨some 92, _, _, _, _, _⟩) (v := .pointer (some ⟨g5, q, none⟩)) rfl (by kernel_rfl) (by kernel_rfl) (by kernel_rfl) (fun _ _ _ h => h) (Or.inl ⟨by kernel_rfl, fun w' hSw => ?_⟩) hS ?_
        · go_simp
        simp only [Act.put, List.setIfInBounds_toArray, List.set_cons_zero, List.set_cons_succ]
        refine wpAnyH_take (i := 9) (oi := ⟨some 93, _, _, _, _, _⟩) (v := .int .u32 (b : Int)) rfl (by kernel_rfl) (by kernel_rfl) (by kernel_rfl) (fun _ _ _ h => h) (Or.inl ⟨by kernel_rfl, fun w' hSw => ?_⟩) hS ?_
        · (have c := (hSw.cell (p := ⟨g5, q, none⟩) h5lt).trans hcq; go_simp)
        simp only [Act.put, List.setIfInBounds_toArray, List.set_cons_zero, List.set_cons_succ]
        refine wpAnyH_take (i := 10) (oi := ⟨some 94, _, _, _, _, _⟩) (v := .int .u32 (t : Int)) rfl (by kernel_rfl) (by kernel_rfl) (by kernel_rfl) (fun _ _ _ h => h) (Or.inl ⟨by kernel_rfl, fun w' hSw => ?_⟩) hS ?_
        · go_simp
        simp only [Act.put, List.setIfInBounds_toArray, List.set_cons_zero, List.set_cons_succ]
        refine wpAnyH_take (i := 11) (oi := ⟨some 95, _, _, _, _, _⟩) (v := .int .u32 ((b ^^^ t : Nat) : Int)) rfl (by kernel_rfl) (by kernel_rfl) (by kernel_rfl) (fun _ _ _ h => h) (Or.inl ⟨by kernel_rfl, fun w' hSw => ?_⟩) hS ?_
        · go_simp
        simp only [Act.put, List.setIfInBounds_toArray, List.set_cons_zero, List.set_cons_succ]
        refine wpAnyH_take (i := 12) (oi := ⟨some 96, _, _, _, _, _⟩) (v := .bool false) rfl (by kernel_rfl) (by kernel_rfl) (by kernel_rfl) (fun _ _ _ h => h) (Or.inl ⟨by kernel_rfl, fun w' hSw => ?_⟩) hS ?_
        · go_simp
        simp only [Act.put, List.setIfInBounds_toArray, List.set_cons_zero, List.set_cons_succ]
        refine wpAnyH_done (by kernel_rfl) ?_ _
        go_wp2_with fail
        go_roundw
        case rel => exact ⟨m + 1 + 1, by go_num, by omega, by omega, hBV.trans (hS.mono hBV.size)⟩
        case measure => simp [intOf]; omega
set_option maxRecDepth 100000 in
set_option maxHeartbeats 8000000 in
theorem sched6_in32 (A : Option Addr) (c : Nat) (l : List Nat) (w : World) (hl : Bytes w A 32 l) (hc : 32 ≤ c) :
    Calls Try.prog 23 #[.slice A 32 c] w fun e w' => e = .returned (.bool true) ∧ Below w.heap.size w w' := by
  have hwl : (words l).length = 60 := by rw [words_len, hl.1]
  have HNX : Box (∀ i, 8 ≤ i → i < 60 → (words l).getD i 0 = (words l).getD (i - 8) 0 ^^^ turnW 8 i ((words l).getD (i - 1) 0)) := ⟨fun i h1 h2 => by
    have e : l.length / 4 = 8 := by rw [hl.1]
    have h := words_next (l := l) (by rw [e]; decide) (i := i) (by rw [e]; exact h1) (by rw [e]; omega)
    rwa [e] at h⟩
  have HKY : Box (∀ (w : World) (C : Nat), Ciph w C (words l) → Calls Try.prog 64 #[.pointer (some ⟨C, 0, none⟩)] w (OwnWQ (words l) w)) := ⟨fun w C h => keys_any C (words l) w h (by omega) (by omega)⟩
  have HNW : Box (∀ (w : World) , Bytes w A 32 l → Calls Try.prog 59 #[.slice A 32 c] w fun e w' => NewQ l w e w') := ⟨fun w h => new_any A 32 c l w h hc (.inr rfl)⟩
  go_enter Try.func23, Try.ntmps23
  go_wp2_with fail
  refine (HNW.out _ hl).mono ?_
  rintro e w2 ⟨C, rfl, hC, hb2, hCF⟩
  clear hCF HNW hl
  go_wp2_with fail
  refine (HKY.out _ C hC).mono ?_
  rintro e w3 ⟨v5, rfl, h5, hb3⟩
  have hb3 := hb2.trans (hb3.mono hb2.size)
  obtain ⟨A5, c5, hv5⟩ := h5.form
  subst hv5
  rw [hwl] at h5
  obtain ⟨g5, hA5, hg50, hg51⟩ := h5.at0 (by omega)
  subst hA5
  rw [hwl]
  clear HKY hC hb2
  go_wp2_with fail
  refine (newBox_any _).mono ?_
  rintro e w4 ⟨rfl, hX, hb4, hz4⟩
  have h5 := h5.below hb4 (Nat.le_refl _)
  have hw4 := hb3.trans (hb4.mono hb3.size)
  clear hb4
  generalize hXe : w3.heap.size = X at *
  have hXl : X < w4.heap.size := hX.lt
  have hg5 : g5 < w4.heap.size := by omega
  clear hb3 hg51 hXe hz4
  go_wp2_with fail
  go_loopw [8, 9, 54, 73] (fun i _t _a _b wr => ∃ (k : Nat), i = .int .i64 (k : Int) ∧ 8 ≤ k ∧ k ≤ 60 ∧ Below w4.heap.size w4 wr) (fun i _ _ _ _ => 60 - (intOf i).toNat)
  case atStart => exact ⟨8, rfl, by omega, by omega, Below.refl _ _⟩
  case round =>
    obtain ⟨k, rfl, hk1, hk2, hB⟩ := hrel
    by_cases hkT : k = 60
    · subst hkT
      go_wp2_with fail
      refine (awake6 _).mono ?_
      rintro e w' ⟨rfl, hbel⟩
      go_wp2_with fail
      go_ret
      exact ⟨rfl, (hw4.trans (hB.mono hw4.size)).trans (hbel.mono (by have := hw4.size; have := hB.size; omega))⟩
    · have hk3 : k < 60 := by omega
      clear hkT
      obtain ⟨m, rfl⟩ : ∃ m, k = m + 1 := ⟨k - 1, by omega⟩
      obtain ⟨t, htq⟩ : ∃ t, (words l).getD m 0 = t := ⟨_, rfl⟩
      have ht : t < 4294967296 := by rw [← htq]; exact Aes.getD_lt h5.2.2 m
      have hct := (h5.below hB (Nat.le_refl _)).cellAt (j := m) (by omega)
      rw [htq] at hct
      have HT := Box.mk htq
      clear htq
      have j0 : (0 : Int) ≤ (m : Int) := by omega
      have j1 : (m : Int) < 60 := by omega
      rw [show ((m + 1 : Nat) : Int) = (m : Int) + 1 by omega]
      by_cases h0 : (m + 1) % 8 = 0
      · have h0' : (((m : Int) + 1) % 8 == 0) = true := by simp; omega
        have hrt := rot8_lt ht
        have HOR : Box (bits .or .u32 ((t : Int) * 256 % 4294967296) ((t : Int) / 16777216) = ((rot8 t : Nat) : Int)) := ⟨or_rot ht⟩
        have HRD := Box.mk (fun w => rround_any (((m + 1) / 8 : Nat) : Int) w (by omega) (by omega))
        obtain ⟨r, hr⟩ : ∃ r, Aes.rcon ((m + 1) / 8) = r := ⟨_, rfl⟩
        have hrl : r < 256 := by rw [← hr]; exact Aes.rcon_lt _
        have hrr : roundN (((m + 1) / 8 : Nat) : Int) = r := by rw [← hr]; exact round_rcon (by omega) (by omega)
        rw [hrr] at HRD
        clear hrr
        have v1 := u32_nat r (by omega)
        have v2 : IntKind.u32.wrap ((r : Int) * 16777216) = (r : Int) * 16777216 := by have := u32_nat (r * 16777216) (by omega); rw [Int.natCast_mul] at this; exact this
        have HWD := Box.mk (fun w h => rword_any X (rot8 t) hrt w h)
        have hwr := word_lt (w := rot8 t)
        obtain ⟨y, hye⟩ : ∃ y, word (rot8 t) ^^^ r * 16777216 = y := ⟨_, rfl⟩
        have hy : y < 4294967296 := by rw [← hye]; exact Aes.xor_lt32 hwr (by omega)
        have hxr : bits .xor .u32 ((word (rot8 t) : Nat) : Int) ((r : Int) * 16777216) = (y : Int) := by
          have := u32_xor_nat (word (rot8 t)) (r * 16777216) hwr (by omega)
          rw [hye, Int.natCast_mul] at this; exact this
        have HY : Box (turnW 8 (m + 1) ((words l).getD m 0) = y) := ⟨by unfold turnW; rw [if_pos h0, HT.out, hr, ← hye]⟩
        obtain ⟨z, hz⟩ : ∃ z, rot8 t = z := ⟨_, rfl⟩
        rw [hz] at HWD hxr HOR hrt
        obtain ⟨u, hu⟩ : ∃ u, word z = u := ⟨_, rfl⟩
        rw [hu] at HWD hxr
        have hX := rowIs_below hX hB hXl
        have hXl : X < wr.heap.size := by have := hB.size; omega
        clear hye h0 hz hu HT hwr hr
        go_wp2_with fail
        refine wp_region_held_drew (S := fun w' => Below wr.heap.size wr w') (by kernel_rfl) (Below.refl _ _).drew (fun hS => ?_)
        refine wpAnyH_take (i := 0) (oi := ⟨some 59, _, _, _, _, _⟩) (v := .pointer (some ⟨X, 0, none⟩)) rfl (by kernel_rfl) (by kernel_rfl) (by kernel_rfl) (fun _ _ _ h => h) (Or.inl ⟨by kernel_rfl, fun w' hSw => ?_⟩) hS ?_
        · go_simp
        simp only [Act.put, List.setIfInBounds_toArray, List.set_cons_zero, List.set_cons_succ]
        refine wpAnyH_take (i := 1) (oi := ⟨some 60, _, _, _, _, _⟩) (v := .int .u32 (t : Int)) rfl (by kernel_rfl) (by kernel_rfl) (by kernel_rfl) (fun _ _ _ h => h) (Or.inl ⟨by kernel_rfl, fun w' hSw => ?_⟩) hS ?_
        · go_simp
        simp only [Act.put, List.setIfInBounds_toArray, List.set_cons_zero, List.set_cons_succ]
        refine wpAnyH_take (i := 2) (oi := ⟨some 61, _, _, _, _, _⟩) (v := .int .u32 ((t : Int) * 256 % 4294967296)) rfl (by kernel_rfl) (by kernel_rfl) (by kernel_rfl) (fun _ _ _ h => h) (Or.inl ⟨by kernel_rfl, fun w' hSw => ?_⟩) hS ?_
        · (go_simp; rw [IntKind.wrap_u32])
        simp only [Act.put, List.setIfInBounds_toArray, List.set_cons_zero, List.set_cons_succ]
        refine wpAnyH_take (i := 3) (oi := ⟨some 62, _, _, _, _, _⟩) (v := .int .u32 (t : Int)) rfl (by kernel_rfl) (by kernel_rfl) (by kernel_rfl) (fun _ _ _ h => h) (Or.inl ⟨by kernel_rfl, fun w' hSw => ?_⟩) hS ?_
        · go_simp
        simp only [Act.put, List.setIfInBounds_toArray, List.set_cons_zero, List.set_cons_succ]
        refine wpAnyH_take (i := 4) (oi := ⟨some 63, _, _, _, _, _⟩) (v := .int .u32 ((t : Int) / 16777216)) rfl (by kernel_rfl) (by kernel_rfl) (by kernel_rfl) (fun _ _ _ h => h) (Or.inl ⟨by kernel_rfl, fun w' hSw => ?_⟩) hS ?_
        · go_simp
        simp only [Act.put, List.setIfInBounds_toArray, List.set_cons_zero, List.set_cons_succ]
        refine wpAnyH_take (i := 5) (oi := ⟨some 64, _, _, _, _, _⟩) (v := .int .u32 (z : Int)) rfl (by kernel_rfl) (by kernel_rfl) (by kernel_rfl) (fun _ _ _ h => h) (Or.inl ⟨by kernel_rfl, fun w' hSw => ?_⟩) hS ?_
        · (have h := HOR.out; go_simp)
        simp only [Act.put, List.setIfInBounds_toArray, List.set_cons_zero, List.set_cons_succ]
        refine wpAnyH_take (i := 7) (oi := ⟨some 66, _, _, _, _, _⟩) (v := .int .i64 ((m : Int) + 1)) rfl (by kernel_rfl) (by kernel_rfl) (by kernel_rfl) (fun _ _ _ h => h) (Or.inl ⟨by kernel_rfl, fun w' hSw => ?_⟩) hS ?_
        · go_simp
        simp only [Act.put, List.setIfInBounds_toArray, List.set_cons_zero, List.set_cons_succ]
        refine wpAnyH_take (i := 8) (oi := ⟨some 67, _, _, _, _, _⟩) (v := .int .i64 8) rfl (by kernel_rfl) (by kernel_rfl) (by kernel_rfl) (fun _ _ _ h => h) (Or.inl ⟨by kernel_rfl, fun w' hSw => ?_⟩) hS ?_
        · go_simp
        simp only [Act.put, List.setIfInBounds_toArray, List.set_cons_zero, List.set_cons_succ]
        refine wpAnyH_take (i := 9) (oi := ⟨some 68, _, _, _, _, _⟩) (v := .int .i64 (((m + 1) / 8 : Nat) : Int)) rfl (by kernel_rfl) (by kernel_rfl) (by kernel_rfl) (fun _ _ _ h => h) (Or.inl ⟨by kernel_rfl, fun w' hSw => ?_⟩) hS ?_
        · (go_simp; try first | exact IntWalk.i64_in _ (by omega) | (rw [Int.tdiv_eq_ediv_of_nonneg (by omega)]; exact IntWalk.i64_in _ (by omega)))
        simp only [Act.put, List.setIfInBounds_toArray, List.set_cons_zero, List.set_cons_succ]
        refine wpAnyH_ready (rs := [6]) (by kernel_rfl) (by simp) ?_
        refine (AllReadyH.cons (o := ⟨some 65, _, _, _, _, _⟩) rfl (fun K hK => ?_) AllReadyH.nil)
        rw [if_pos (by kernel_rfl)]
        go_simp
        refine (HWD.out _ (rowIs_below hX hS hXl)).mono ?_
        rintro e v1 ⟨rfl, j, hj⟩
        have hS : Below wr.heap.size wr v1 := by rw [hj]; exact below_drewN hS j
        clear hj
        refine hK.out _ _ hS (fun hS => ?_)
        clear hK K
        refine wpAnyH_ready (rs := [10]) (by kernel_rfl) (by simp) ?_
        refine (AllReadyH.cons (o := ⟨some 69, _, _, _, _, _⟩) rfl (fun K hK => ?_) AllReadyH.nil)
        rw [if_pos (by kernel_rfl)]
        go_simp
        refine (HRD.out _).mono ?_
        rintro e q ⟨rfl, rfl⟩
        refine hK.out _ _ hS (fun hS => ?_)
        clear hK K
        refine wpAnyH_take (i := 11) (oi := ⟨some 70, _, _, _, _, _⟩) (v := .int .u32 (r : Int)) rfl (by kernel_rfl) (by kernel_rfl) (by kernel_rfl) (fun _ _ _ h => h) (Or.inl ⟨by kernel_rfl, fun w' hSw => ?_⟩) hS ?_
        · go_simp
        simp only [Act.put, List.setIfInBounds_toArray, List.set_cons_zero, List.set_cons_succ]
        refine wpAnyH_take (i := 12) (oi := ⟨some 71, _, _, _, _, _⟩) (v := .int .u32 ((r : Int) * 16777216)) rfl (by kernel_rfl) (by kernel_rfl) (by kernel_rfl) (fun _ _ _ h => h) (Or.inl ⟨by kernel_rfl, fun w' hSw => ?_⟩) hS ?_
        · go_simp
        simp only [Act.put, List.setIfInBounds_toArray, List.set_cons_zero, List.set_cons_succ]
        refine wpAnyH_take (i := 13) (oi := ⟨some 72, _, _, _, _, _⟩) (v := .int .u32 (y : Int)) rfl (by kernel_rfl) (by kernel_rfl) (by kernel_rfl) (fun _ _ _ h => h) (Or.inl ⟨by kernel_rfl, fun w' hSw => ?_⟩) hS ?_
        · go_simp
        simp only [Act.put, List.setIfInBounds_toArray, List.set_cons_zero, List.set_cons_succ]
        refine wpAnyH_take (i := 14) (oi := ⟨some 9, _, _, _, _, _⟩) (v := .int .u32 (y : Int)) rfl (by kernel_rfl) (by kernel_rfl) (by kernel_rfl) (fun _ _ _ h => h) (Or.inl ⟨by kernel_rfl, fun w' hSw => ?_⟩) hS ?_
        · go_simp
        simp only [Act.put, List.setIfInBounds_toArray, List.set_cons_zero, List.set_cons_succ]
        refine wpAnyH_done (by kernel_rfl) ?_ _
        go_wp2_with fail
        have hBV := hB.trans (hS.mono hB.size)
        clear hS
        obtain ⟨q, hq, hq2⟩ : ∃ q : Nat, q = m + 1 - 8 ∧ q < m + 1 := ⟨_, rfl, by omega⟩
        have hqi : (m : Int) + 1 - 8 = (q : Int) := by omega
        have HQ := Box.mk hqi
        obtain ⟨b, hbq⟩ : ∃ b, (words l).getD q 0 = b := ⟨_, rfl⟩
        have hbl : b < 4294967296 := by rw [← hbq]; exact Aes.getD_lt h5.2.2 q
        have h5V : OwnW v1 w2.heap.size (.slice (some ⟨g5, 0, none⟩) 60 c5) (words l) := h5.below hBV (Nat.le_refl _)
        have hcq := h5V.cellAt (j := q) (by omega)
        have hcx := h5V.cellAt (j := m + 1) (by omega)
        have hx : (words l).getD (m + 1) 0 = b ^^^ y := by rw [HNX.out (m + 1) (by omega) (by omega), ← hq, hbq, Nat.add_sub_cancel, HY.out]
        rw [hx] at hcx
        rw [hbq] at hcq
        have hxy := u32_xor_nat b y hbl hy
        have h5lt : g5 < (v1).heap.size := by have := hBV.size; omega
        have i0 : (0 : Int) ≤ (q : Int) := by omega
        have i1 : (q : Int) < 60 := by omega
        have i2 : (0 : Int) ≤ (m : Int) + 1 := by omega
        have i3 : (m : Int) + 1 < 60 := by omega
        clear hqi hbq hq hx h5V
        go_wp2_with fail
        refine wp_region_held_drew (S := fun w' => Below v1.heap.size v1 w') (by kernel_rfl) (Below.refl _ _).drew (fun hS => ?_)
        refine wpAnyH_take (i := 0) (oi := ⟨some 84, _, _, _, _, _⟩) (v := .slice (some ⟨g5, 0, none⟩) 60 c5) rfl (by kernel_rfl) (by kernel_rfl) (by kernel_rfl) (fun _ _ _ h => h) (Or.inl ⟨by kernel_rfl, fun w' hSw => ?_⟩) hS ?_
        · go_simp
        simp only [Act.put, List.setIfInBounds_toArray, List.set_cons_zero, List.set_cons_succ]
        refine wpAnyH_take (i := 1) (oi := ⟨some 85, _, _, _, _, _⟩) (v := .int .i64 ((m : Int) + 1)) rfl (by kernel_rfl) (by kernel_rfl) (by kernel_rfl) (fun _ _ _ h => h) (Or.inl ⟨by kernel_rfl, fun w' hSw => ?_⟩) hS ?_
        · go_simp
        simp only [Act.put, List.setIfInBounds_toArray, List.set_cons_zero, List.set_cons_succ]
        refine wpAnyH_take (i := 2) (oi := ⟨some 86, _, _, _, _, _⟩) (v := .pointer (some ⟨g5, m + 1, none⟩)) rfl (by kernel_rfl) (by kernel_rfl) (by kernel_rfl) (fun _ _ _ h => h) (Or.inl ⟨by kernel_rfl, fun w' hSw => ?_⟩) hS ?_
        · go_simp
        simp only [Act.put, List.setIfInBounds_toArray, List.set_cons_zero, List.set_cons_succ]
        refine wpAnyH_take (i := 3) (oi := ⟨some 87, _, _, _, _, _⟩) (v := .int .u32 ((b ^^^ y : Nat) : Int)) rfl (by kernel_rfl) (by kernel_rfl) (by kernel_rfl) (fun _ _ _ h => h) (Or.inl ⟨by kernel_rfl, fun w' hSw => ?_⟩) hS ?_
        · (have c := (hSw.cell (p := ⟨g5, m + 1, none⟩) h5lt).trans hcx; go_simp)
        simp only [Act.put, List.setIfInBounds_toArray, List.set_cons_zero, List.set_cons_succ]
        refine wpAnyH_take (i := 4) (oi := ⟨some 88, _, _, _, _, _⟩) (v := .slice (some ⟨g5, 0, none⟩) 60 c5) rfl (by kernel_rfl) (by kernel_rfl) (by kernel_rfl) (fun _ _ _ h => h) (Or.inl ⟨by kernel_rfl, fun w' hSw => ?_⟩) hS ?_
        · go_simp
        simp only [Act.put, List.setIfInBounds_toArray, List.set_cons_zero, List.set_cons_succ]
        refine wpAnyH_take (i := 5) (oi := ⟨some 89, _, _, _, _, _⟩) (v := .int .i64 ((m : Int) + 1)) rfl (by kernel_rfl) (by kernel_rfl) (by kernel_rfl) (fun _ _ _ h => h) (Or.inl ⟨by kernel_rfl, fun w' hSw => ?_⟩) hS ?_
        · go_simp
        simp only [Act.put, List.setIfInBounds_toArray, List.set_cons_zero, List.set_cons_succ]
        refine wpAnyH_take (i := 6) (oi := ⟨some 90, _, _, _, _, _⟩) (v := .int .i64 8) rfl (by kernel_rfl) (by kernel_rfl) (by kernel_rfl) (fun _ _ _ h => h) (Or.inl ⟨by kernel_rfl, fun w' hSw => ?_⟩) hS ?_
        · go_simp
        simp only [Act.put, List.setIfInBounds_toArray, List.set_cons_zero, List.set_cons_succ]
        refine wpAnyH_take (i := 7) (oi := ⟨some 91, _, _, _, _, _⟩) (v := .int .i64 (q : Int)) rfl (by kernel_rfl) (by kernel_rfl) (by kernel_rfl) (fun _ _ _ h => h) (Or.inl ⟨by kernel_rfl, fun w' hSw => ?_⟩) hS ?_
        · (go_simp; have h := HQ.out; rw [h]; exact IntWalk.i64_in _ (by omega))
        simp only [Act.put, List.setIfInBounds_toArray, List.set_cons_zero, List.set_cons_succ]
        refine wpAnyH_take (i := 8) (oi := ⟨some 92, _, _, _, _, _⟩) (v := .pointer (some ⟨g5, q, none⟩)) rfl (by kernel_rfl) (by kernel_rfl) (by kernel_rfl) (fun _ _ _ h => h) (Or.inl ⟨by kernel_rfl, fun w' hSw => ?_⟩) hS ?_
        · go_simp
        simp only [Act.put, List.setIfInBounds_toArray, List.set_cons_zero, List.set_cons_succ]
        refine wpAnyH_take (i := 9) (oi := ⟨some 93, _, _, _, _, _⟩) (v := .int .u32 (b : Int)) rfl (by kernel_rfl) (by kernel_rfl) (by kernel_rfl) (fun _ _ _ h => h) (Or.inl ⟨by kernel_rfl, fun w' hSw => ?_⟩) hS ?_
        · (have c := (hSw.cell (p := ⟨g5, q, none⟩) h5lt).trans hcq; go_simp)
        simp only [Act.put, List.setIfInBounds_toArray, List.set_cons_zero, List.set_cons_succ]
        refine wpAnyH_take (i := 10) (oi := ⟨some 94, _, _, _, _, _⟩) (v := .int .u32 (y : Int)) rfl (by kernel_rfl) (by kernel_rfl) (by kernel_rfl) (fun _ _ _ h => h) (Or.inl ⟨by kernel_rfl, fun w' hSw => ?_⟩) hS ?_
        · go_simp
        simp only [Act.put, List.setIfInBounds_toArray, List.set_cons_zero, List.set_cons_succ]
        refine wpAnyH_take (i := 11) (oi := ⟨some 95, _, _, _, _, _⟩) (v := .int .u32 ((b ^^^ y : Nat) : Int)) rfl (by kernel_rfl) (by kernel_rfl) (by kernel_rfl) (fun _ _ _ h => h) (Or.inl ⟨by kernel_rfl, fun w' hSw => ?_⟩) hS ?_
        · go_simp
        simp only [Act.put, List.setIfInBounds_toArray, List.set_cons_zero, List.set_cons_succ]
        refine wpAnyH_take (i := 12) (oi := ⟨some 96, _, _, _, _, _⟩) (v := .bool false) rfl (by kernel_rfl) (by kernel_rfl) (by kernel_rfl) (fun _ _ _ h => h) (Or.inl ⟨by kernel_rfl, fun w' hSw => ?_⟩) hS ?_
        · go_simp
        simp only [Act.put, List.setIfInBounds_toArray, List.set_cons_zero, List.set_cons_succ]
        refine wpAnyH_done (by kernel_rfl) ?_ _
        go_wp2_with fail
        go_roundw
        case rel => exact ⟨m + 1 + 1, by go_num, by omega, by omega, hBV.trans (hS.mono hBV.size)⟩
        case measure => simp [intOf]; omega
      · have h0' : (((m : Int) + 1) % 8 == 0) = false := by simp; omega
        by_cases h4 : (m + 1) % 8 = 4
        · have h4' : (((m : Int) + 1) % 8 == 4) = true := by simp; omega
          have HY : Box (turnW 8 (m + 1) ((words l).getD m 0) = word t) := ⟨by unfold turnW; rw [if_neg h0, if_pos ⟨by omega, h4⟩, HT.out]⟩
          have hy := word_lt (w := t)
          have HWD := Box.mk (fun w h => rword_any X t ht w h)
          revert HY hy HWD
          generalize word t = y
          intro HY hy HWD
          clear h0 h4 HT
          go_wp2_with fail
          refine (HWD.out _ (rowIs_below hX hB hXl)).mono ?_
          rintro e w' ⟨rfl, j, rfl⟩
          have hBV := below_drewN hB j
          clear HWD hct
          revert hBV
          generalize wr.drewN j = wv
          intro hBV
          go_wp2_with fail
          obtain ⟨q, hq, hq2⟩ : ∃ q : Nat, q = m + 1 - 8 ∧ q < m + 1 := ⟨_, rfl, by omega⟩
          have hqi : (m : Int) + 1 - 8 = (q : Int) := by omega
          have HQ := Box.mk hqi
          obtain ⟨b, hbq⟩ : ∃ b, (words l).getD q 0 = b := ⟨_, rfl⟩
          have hbl : b < 4294967296 := by rw [← hbq]; exact Aes.getD_lt h5.2.2 q
          have h5V : OwnW wv w2.heap.size (.slice (some ⟨g5, 0, none⟩) 60 c5) (words l) := h5.below hBV (Nat.le_refl _)
          have hcq := h5V.cellAt (j := q) (by omega)
          have hcx := h5V.cellAt (j := m + 1) (by omega)
          have hx : (words l).getD (m + 1) 0 = b ^^^ y := by rw [HNX.out (m + 1) (by omega) (by omega), ← hq, hbq, Nat.add_sub_cancel, HY.out]
          rw [hx] at hcx
          rw [hbq] at hcq
          have hxy := u32_xor_nat b y hbl hy
          have h5lt : g5 < (wv).heap.size := by have := hBV.size; omega
          have i0 : (0 : Int) ≤ (q : Int) := by omega
          have i1 : (q : Int) < 60 := by omega
          have i2 : (0 : Int) ≤ (m : Int) + 1 := by omega
          have i3 : (m : Int) + 1 < 60 := by omega
          clear hqi hbq hq hx h5V
          go_wp2_with fail
          refine wp_region_held_drew (S := fun w' => Below wv.heap.size wv w') (by kernel_rfl) (Below.refl _ _).drew (fun hS => ?_)
          refine wpAnyH_take (i := 0) (oi := ⟨some 84, _, _, _, _, _⟩) (v := .slice (some ⟨g5, 0, none⟩) 60 c5) rfl (by kernel_rfl) (by kernel_rfl) (by kernel_rfl) (fun _ _ _ h => h) (Or.inl ⟨by kernel_rfl, fun w' hSw => ?_⟩) hS ?_
          · go_simp
          simp only [Act.put, List.setIfInBounds_toArray, List.set_cons_zero, List.set_cons_succ]
          refine wpAnyH_take (i := 1) (oi := ⟨some 85, _, _, _, _, _⟩) (v := .int .i64 ((m : Int) + 1)) rfl (by kernel_rfl) (by kernel_rfl) (by kernel_rfl) (fun _ _ _ h => h) (Or.inl ⟨by kernel_rfl, fun w' hSw => ?_⟩) hS ?_
          · go_simp
          simp only [Act.put, List.setIfInBounds_toArray, List.set_cons_zero, List.set_cons_succ]
          refine wpAnyH_take (i := 2) (oi := ⟨some 86, _, _, _, _, _⟩) (v := .pointer (some ⟨g5, m + 1, none⟩)) rfl (by kernel_rfl) (by kernel_rfl) (by kernel_rfl) (fun _ _ _ h => h) (Or.inl ⟨by kernel_rfl, fun w' hSw => ?_⟩) hS ?_
          · go_simp
          simp only [Act.put, List.setIfInBounds_toArray, List.set_cons_zero, List.set_cons_succ]
          refine wpAnyH_take (i := 3) (oi := ⟨some 87, _, _, _, _, _⟩) (v := .int .u32 ((b ^^^ y : Nat) : Int)) rfl (by kernel_rfl) (by kernel_rfl) (by kernel_rfl) (fun _ _ _ h => h) (Or.inl ⟨by kernel_rfl, fun w' hSw => ?_⟩) hS ?_
          · (have c := (hSw.cell (p := ⟨g5, m + 1, none⟩) h5lt).trans hcx; go_simp)
          simp only [Act.put, List.setIfInBounds_toArray, List.set_cons_zero, List.set_cons_succ]
          refine wpAnyH_take (i := 4) (oi := ⟨some 88, _, _, _, _, _⟩) (v := .slice (some ⟨g5, 0, none⟩) 60 c5) rfl (by kernel_rfl) (by kernel_rfl) (by kernel_rfl) (fun _ _ _ h => h) (Or.inl ⟨by kernel_rfl, fun w' hSw => ?_⟩) hS ?_
          · go_simp
          simp only [Act.put, List.setIfInBounds_toArray, List.set_cons_zero, List.set_cons_succ]
          refine wpAnyH_take (i := 5) (oi := ⟨some 89, _, _, _, _, _⟩) (v := .int .i64 ((m : Int) + 1)) rfl (by kernel_rfl) (by kernel_rfl) (by kernel_rfl) (fun _ _ _ h => h) (Or.inl ⟨by kernel_rfl, fun w' hSw => ?_⟩) hS ?_
          · go_simp
          simp only [Act.put, List.setIfInBounds_toArray, List.set_cons_zero, List.set_cons_succ]
          refine wpAnyH_take (i := 6) (oi := ⟨some 90, _, _, _, _, _⟩) (v := .int .i64 8) rfl (by kernel_rfl) (by kernel_rfl) (by kernel_rfl) (fun _ _ _ h => h) (Or.inl ⟨by kernel_rfl, fun w' hSw => ?_⟩) hS ?_
          · go_simp
          simp only [Act.put, List.setIfInBounds_toArray, List.set_cons_zero, List.set_cons_succ]
          refine wpAnyH_take (i := 7) (oi := ⟨some 91, _, _, _, _, _⟩) (v := .int .i64 (q : Int)) rfl (by kernel_rfl) (by kernel_rfl) (by kernel_rfl) (fun _ _ _ h => h) (Or.inl ⟨by kernel_rfl, fun w' hSw => ?_⟩) hS ?_
          · (go_simp; have h := HQ.out; rw [h]; exact IntWalk.i64_in _ (by omega))
          simp only [Act.put, List.setIfInBounds_toArray, List.set_cons_zero, List.set_cons_succ]
          refine wpAnyH_take (i := 8) (oi := ⟨some 92, _, _, _, _, _⟩) (v := .pointer (some ⟨g5, q, none⟩)) rfl (by kernel_rfl) (by kernel_rfl) (by kernel_rfl) (fun _ _ _ h => h) (Or.inl ⟨by kernel_rfl, fun w' hSw => ?_⟩) hS ?_
          · go_simp
          simp only [Act.put, List.setIfInBounds_toArray, List.set_cons_zero, List.set_cons_succ]
          refine wpAnyH_take (i := 9) (oi := ⟨some 93, _, _, _, _, _⟩) (v := .int .u32 (b : Int)) rfl (by kernel_rfl) (by kernel_rfl) (by kernel_rfl) (fun _ _ _ h => h) (Or.inl ⟨by kernel_rfl, fun w' hSw => ?_⟩) hS ?_
          · (have c := (hSw.cell (p := ⟨g5, q, none⟩) h5lt).trans hcq; go_simp)
          simp only [Act.put, List.setIfInBounds_toArray, List.set_cons_zero, List.set_cons_succ]
          refine wpAnyH_take (i := 10) (oi := ⟨some 94, _, _, _, _, _⟩) (v := .int .u32 (y : Int)) rfl (by kernel_rfl) (by kernel_rfl) (by kernel_rfl) (fun _ _ _ h => h) (Or.inl ⟨by kernel_rfl, fun w' hSw => ?_⟩) hS ?_
          · go_simp
          simp only [Act.put, List.setIfInBounds_toArray, List.set_cons_zero, List.set_cons_succ]
          refine wpAnyH_take (i := 11) (oi := ⟨some 95, _, _, _, _, _⟩) (v := .int .u32 ((b ^^^ y : Nat) : Int)) rfl (by kernel_rfl) (by kernel_rfl) (by kernel_rfl) (fun _ _ _ h => h) (Or.inl ⟨by kernel_rfl, fun w' hSw => ?_⟩) hS ?_
          · go_simp
          simp only [Act.put, List.setIfInBounds_toArray, List.set_cons_zero, List.set_cons_succ]
          refine wpAnyH_take (i := 12) (oi := ⟨some 96, _, _, _, _, _⟩) (v := .bool false) rfl (by kernel_rfl) (by kernel_rfl) (by kernel_rfl) (fun _ _ _ h => h) (Or.inl ⟨by kernel_rfl, fun w' hSw => ?_⟩) hS ?_
          · go_simp
          simp only [Act.put, List.setIfInBounds_toArray, List.set_cons_zero, List.set_cons_succ]
          refine wpAnyH_done (by kernel_rfl) ?_ _
          go_wp2_with fail
          go_roundw
          case rel => exact ⟨m + 1 + 1, by go_num, by omega, by omega, hBV.trans (hS.mono hBV.size)⟩
          case measure => simp [intOf]; omega
        · have h4' : (((m : Int) + 1) % 8 == 4) = false := by simp; omega
          have HY : Box (turnW 8 (m + 1) ((words l).getD m 0) = t) := ⟨by unfold turnW; rw [if_neg h0, if_neg (fun h => h4 h.2), HT.out]⟩
          have hy := ht
          have hBV := hB
          clear h0 h4 HT
          go_wp2_with fail
          obtain ⟨q, hq, hq2⟩ : ∃ q : Nat, q = m + 1 - 8 ∧ q < m + 1 := ⟨_, rfl, by omega⟩
          have hqi : (m : Int) + 1 - 8 = (q : Int) := by omega
          have HQ := Box.mk hqi
          obtain ⟨b, hbq⟩ : ∃ b, (words l).getD q 0 = b := ⟨_, rfl⟩
          have hbl : b < 4294967296 := by rw [← hbq]; exact Aes.getD_lt h5.2.2 q
          have h5V : OwnW wr w2.heap.size (.slice (some ⟨g5, 0, none⟩) 60 c5) (words l) := h5.below hBV (Nat.le_refl _)
          have hcq := h5V.cellAt (j := q) (by omega)
          have hcx := h5V.cellAt (j := m + 1) (by omega)
          have hx : (words l).getD (m + 1) 0 = b ^^^ t := by rw [HNX.out (m + 1) (by omega) (by omega), ← hq, hbq, Nat.add_sub_cancel, HY.out]
          rw [hx] at hcx
          rw [hbq] at hcq
          have hxy := u32_xor_nat b t hbl hy
          have h5lt : g5 < (wr).heap.size := by have := hBV.size; omega
          have i0 : (0 : Int) ≤ (q : Int) := by omega
          have i1 : (q : Int) < 60 := by omega
          have i2 : (0 : Int) ≤ (m : Int) + 1 := by omega
          have i3 : (m : Int) + 1 < 60 := by omega
          clear hqi hbq hq hx h5V
          go_wp2_with fail
          refine wp_region_held_drew (S := fun w' => Below wr.heap.size wr w') (by kernel_rfl) (Below.refl _ _).drew (fun hS => ?_)
          refine wpAnyH_take (i := 0) (oi := ⟨some 84, _, _, _, _, _⟩) (v := .slice (some ⟨g5, 0, none⟩) 60 c5) rfl (by kernel_rfl) (by kernel_rfl) (by kernel_rfl) (fun _ _ _ h => h) (Or.inl ⟨by kernel_rfl, fun w' hSw => ?_⟩) hS ?_
          · go_simp
          simp only [Act.put, List.setIfInBounds_toArray, List.set_cons_zero, List.set_cons_succ]
          refine wpAnyH_take (i := 1) (oi := ⟨some 85, _, _, _, _, _⟩) (v := .int .i64 ((m : Int) + 1)) rfl (by kernel_rfl) (by kernel_rfl) (by kernel_rfl) (fun _ _ _ h => h) (Or.inl ⟨by kernel_rfl, fun w' hSw => ?_⟩) hS ?_
          · go_simp
          simp only [Act.put, List.setIfInBounds_toArray, List.set_cons_zero, List.set_cons_succ]
          refine wpAnyH_take (i := 2) (oi := ⟨some 86, _, _, _, _, _⟩) (v := .pointer (some ⟨g5, m + 1, none⟩)) rfl (by kernel_rfl) (by kernel_rfl) (by kernel_rfl) (fun _ _ _ h => h) (Or.inl ⟨by kernel_rfl, fun w' hSw => ?_⟩) hS ?_
          · go_simp
          simp only [Act.put, List.setIfInBounds_toArray, List.set_cons_zero, List.set_cons_succ]
          refine wpAnyH_take (i := 3) (oi := ⟨some 87, _, _, _, _, _⟩) (v := .int .u32 ((b ^^^ t : Nat) : Int)) rfl (by kernel_rfl) (by kernel_rfl) (by kernel_rfl) (fun _ _ _ h => h) (Or.inl ⟨by kernel_rfl, fun w' hSw => ?_⟩) hS ?_
          · (have c := (hSw.cell (p := ⟨g5, m + 1, none⟩) h5lt).trans hcx; go_simp)
          simp only [Act.put, List.setIfInBounds_toArray, List.set_cons_zero, List.set_cons_succ]
          refine wpAnyH_take (i := 4) (oi := ⟨some 88, _, _, _, _, _⟩) (v := .slice (some ⟨g5, 0, none⟩) 60 c5) rfl (by kernel_rfl) (by kernel_rfl) (by kernel_rfl) (fun _ _ _ h => h) (Or.inl ⟨by kernel_rfl, fun w' hSw => ?_⟩) hS ?_
          · go_simp
          simp only [Act.put, List.setIfInBounds_toArray, List.set_cons_zero, List.set_cons_succ]
          refine wpAnyH_take (i := 5) (oi := ⟨some 89, _, _, _, _, _⟩) (v := .int .i64 ((m : Int) + 1)) rfl (by kernel_rfl) (by kernel_rfl) (by kernel_rfl) (fun _ _ _ h => h) (Or.inl ⟨by kernel_rfl, fun w' hSw => ?_⟩) hS ?_
          · go_simp
          simp only [Act.put, List.setIfInBounds_toArray, List.set_cons_zero, List.set_cons_succ]
          refine wpAnyH_take (i := 6) (oi := ⟨some 90, _, _, _, _, _⟩) (v := .int .i64 8) rfl (by kernel_rfl) (by kernel_rfl) (by kernel_rfl) (fun _ _ _ h => h) (Or.inl ⟨by kernel_rfl, fun w' hSw => ?_⟩) hS ?_
          · go_simp
          simp only [Act.put, List.setIfInBounds_toArray, List.set_cons_zero, List.set_cons_succ]
          refine wpAnyH_take (i := 7) (oi := ⟨some 91, _, _, _, _, _⟩) (v := .int .i64 (q : Int)) rfl (by kernel_rfl) (by kernel_rfl) (by kernel_rfl) (fun _ _ _ h => h) (Or.inl ⟨by kernel_rfl, fun w' hSw => ?_⟩) hS ?_
          · (go_simp; have h := HQ.out; rw [h]; exact IntWalk.i64_in _ (by omega))
          simp only [Act.put, List.setIfInBounds_toArray, List.set_cons_zero, List.set_cons_succ]
          refine wpAnyH_take (i := 8) (oi := ⟨some 92, _, _, _, _, _⟩) (v := .pointer (some ⟨g5, q, none⟩)) rfl (by kernel_rfl) (by kernel_rfl) (by kernel_rfl) (fun _ _ _ h => h) (Or.inl ⟨by kernel_rfl, fun w' hSw => ?_⟩) hS ?_
          · go_simp
          simp only [Act.put, List.setIfInBounds_toArray, List.set_cons_zero, List.set_cons_succ]
          refine wpAnyH_take (i := 9) (oi := ⟨some 93, _, _, _, _, _⟩) (v := .int .u32 (b : Int)) rfl (by kernel_rfl) (by kernel_rfl) (by kernel_rfl) (fun _ _ _ h => h) (Or.inl ⟨by kernel_rfl, fun w' hSw => ?_⟩) hS ?_
          · (have c := (hSw.cell (p := ⟨g5, q, none⟩) h5lt).trans hcq; go_simp)
          simp only [Act.put, List.setIfInBounds_toArray, List.set_cons_zero, List.set_cons_succ]
          refine wpAnyH_take (i := 10) (oi := ⟨some 94, _, _, _, _, _⟩) (v := .int .u32 (t : Int)) rfl (by kernel_rfl) (by kernel_rfl) (by kernel_rfl) (fun _ _ _ h => h) (Or.inl ⟨by kernel_rfl, fun w' hSw => ?_⟩) hS ?_
          · go_simp
          simp only [Act.put, List.setIfInBounds_toArray, List.set_cons_zero, List.set_cons_succ]
          refine wpAnyH_take (i := 11) (oi := ⟨some 95, _, _, _, _, _⟩) (v := .int .u32 ((b ^^^ t : Nat) : Int)) rfl (by kernel_rfl) (by kernel_rfl) (by kernel_rfl) (fun _ _ _ h => h) (Or.inl ⟨by kernel_rfl, fun w' hSw => ?_⟩) hS ?_
          · go_simp
          simp only [Act.put, List.setIfInBounds_toArray, List.set_cons_zero, List.set_cons_succ]
          refine wpAnyH_take (i := 12) (oi := ⟨some 96, _, _, _, _, _⟩) (v := .bool false) rfl (by kernel_rfl) (by kernel_rfl) (by kernel_rfl) (fun _ _ _ h => h) (Or.inl ⟨by kernel_rfl, fun w' hSw => ?_⟩) hS ?_
          · go_simp
          simp only [Act.put, List.setIfInBounds_toArray, List.set_cons_zero, List.set_cons_succ]
          refine wpAnyH_done (by kernel_rfl) ?_ _
          go_wp2_with fail
          go_roundw
          case rel => exact ⟨m + 1 + 1, by go_num, by omega, by omega, hBV.trans (hS.mono hBV.size)⟩
          case measure => simp [intOf]; omega
theorem aesSchedule_walk {w : World} (A : Option Addr) (n c : Nat) (l : List Nat) (hc : n ≤ c) (hl : Bytes w A n l) :
    Calls Try.prog 23 #[.slice A n c] w fun e w' => e = .returned (.bool true) ∧ Below w.heap.size w w' := by
  by_cases h16 : n = 16
  · subst h16
    exact sched6_in16 A c l w hl hc
  · by_cases h32 : n = 32
    · subst h32
      exact sched6_in32 A c l w hl hc
    · exact sched6_out A n c w (by simp; omega) (by simp; omega)
end Go.Proofs.Ytibfihjcjohadaa
