/-
  The walk of the law on schedule and blocks against the reference: it returns true, whatever the input, and writes nothing that was there.
-/
import Derived.Test.YtibfihjcjohadaaL22
import Derived.Test.YtibfihjcjohadaaMR
namespace Go.Proofs.Ytibfihjcjohadaa
open Go.RowKit Go.Op
open Aes (words words_len)
set_option maxRecDepth 100000 in
set_option maxHeartbeats 1000000 in
theorem blocks6_outA (A : Option Addr) (n c : Nat) (B : Option Addr) (n1 c1 : Nat) (w : World) (h : 100 < n) :
    Calls Try.prog 21 #[.slice A n c, .slice B n1 c1] w fun e w' => e = .returned (.bool true) ∧ Below w.heap.size w w' := by
  go_enter Try.func21, Try.ntmps21
  go_wp2_with fail
  refine (awake6 _).mono ?_
  rintro e w' ⟨rfl, hbel⟩
  go_wp2_with fail
  go_ret
  exact ⟨rfl, hbel⟩
set_option maxRecDepth 100000 in
set_option maxHeartbeats 1000000 in
theorem blocks6_outB (A : Option Addr) (n c : Nat) (B : Option Addr) (n1 c1 : Nat) (w : World) (h : n ≤ 100) (h1 : 100 < n1) :
    Calls Try.prog 21 #[.slice A n c, .slice B n1 c1] w fun e w' => e = .returned (.bool true) ∧ Below w.heap.size w w' := by
  go_enter Try.func21, Try.ntmps21
  go_wp2_with fail
  refine (awake6 _).mono ?_
  rintro e w' ⟨rfl, hbel⟩
  go_wp2_with fail
  go_ret
  exact ⟨rfl, hbel⟩
set_option maxRecDepth 100000 in
set_option maxHeartbeats 1000000 in
theorem blocks6_no (A : Option Addr) (n c : Nat) (B : Option Addr) (n1 c1 : Nat) (w : World) (h : n ≤ 100) (h1 : n1 ≤ 100) (p : ((n : Int) != 16) = true) (q : ((n : Int) != 32) = true) (d : decide (n = 16 ∨ n = 32) = false) :
    Calls Try.prog 21 #[.slice A n c, .slice B n1 c1] w fun e w' => e = .returned (.bool true) ∧ Below w.heap.size w w' := by
  have HM := Box.mk (fun w => mayKey_any A n c w)
  rw [d] at HM
  have HN := Box.mk (fun w => new_no A n c w p q)
  clear d p q
  go_enter Try.func21, Try.ntmps21
  go_wp2_with fail
  refine (HN.out _).mono ?_
  rintro e w' ⟨rfl, rfl⟩
  go_wp2_with fail
  refine (HM.out _).mono ?_
  rintro e w' ⟨rfl, rfl⟩
  go_wp2_with fail
  refine (awake6 _).mono ?_
  rintro e w' ⟨rfl, hbel⟩
  go_wp2_with fail
  go_ret
  exact ⟨rfl, hbel⟩
set_option maxRecDepth 100000 in
set_option maxHeartbeats 8000000 in
theorem blocks6_in16 (A : Option Addr) (c : Nat) (l : List Nat) (B : Option Addr) (n1 c1 : Nat) (l1 : List Nat) (w : World) (hl : Bytes w A 16 l) (hc : 16 ≤ c) (hl1 : Bytes w B n1 l1) (h1 : n1 ≤ 100) :
    Calls Try.prog 21 #[.slice A 16 c, .slice B n1 c1] w fun e w' => e = .returned (.bool true) ∧ Below w.heap.size w w' := by
  have hk : MayK l.length := by rw [hl.1]; exact .inl rfl
  have hwl : (words l).length = 44 := by rw [words_len, hl.1]
  have HC := Box.mk (fun w hl => block_walk B n1 c1 l1 w hl)
  have Hf : Box (∀ i, ofL l1 i < 256) := ⟨ofL_lt hl1.2.2.1⟩
  revert HC Hf
  generalize ofL l1 = f
  intro HC Hf
  have HE : Box (∀ (w : World) (C : Nat), Ciph w C (words l) → Calls Try.prog 61 #[.pointer (some ⟨C, 0, none⟩), .agg (bv f)] w fun e w' => e = .returned (.agg (bv (encK l f))) ∧ Below w.heap.size w w') := ⟨fun w C h => encrypt_key C l f hk Hf.out w h⟩
  have HD : Box (∀ (w : World) (C : Nat), Ciph w C (words l) → Calls Try.prog 60 #[.pointer (some ⟨C, 0, none⟩), .agg (bv f)] w fun e w' => e = .returned (.agg (bv (decK l f))) ∧ Below w.heap.size w w') := ⟨fun w C h => decrypt_key C l f hk Hf.out w h⟩
  have HRE0 : Box (∀ (X R : Nat) (w : World), Rciph w R X (words l) → Calls Try.prog 66 #[.pointer (some ⟨R, 0, none⟩), .agg (bv f)] w fun e w' => e = .returned (.agg (bv (encK l f))) ∧ Below w.heap.size w w') := ⟨fun X R w h => rencrypt_key R X l f hk Hf.out w h⟩
  have HRD0 : Box (∀ (X R : Nat) (w : World), Rciph w R X (words l) → Calls Try.prog 67 #[.pointer (some ⟨R, 0, none⟩), .agg (bv f)] w fun e w' => e = .returned (.agg (bv (decK l f))) ∧ Below w.heap.size w w') := ⟨fun X R w h => rdecrypt_key R X l f hk Hf.out w h⟩
  have HR : Box (∀ {w : World} {C : Nat}, Ciph w C (words l) → Calls Try.prog 65 #[.pointer (some ⟨C, 0, none⟩)] w fun e w' => e = .returned (.int .i64 10) ∧ w = w') := ⟨fun h => by have h := rounds_key _ l hk _ h; rwa [hl.1] at h⟩
  have HR : Box (∀ (w : World), ∀ {C : Nat}, Ciph w C (words l) → Calls Try.prog 65 #[.pointer (some ⟨C, 0, none⟩)] w fun e w' => e = .returned (.int .i64 10) ∧ w = w') := ⟨fun w _ h => HR.out h⟩
  have HKY : Box (∀ (w : World) (C : Nat), Ciph w C (words l) → Calls Try.prog 64 #[.pointer (some ⟨C, 0, none⟩)] w (OwnWQ (words l) w)) := ⟨fun w C h => keys_any C (words l) w h (by omega) (by omega)⟩
  have HNW : Box (∀ (w : World), Bytes w A 16 l → Calls Try.prog 59 #[.slice A 16 c] w fun e w' => NewQ l w e w') := ⟨fun w h => new_any A 16 c l w h hc (.inl rfl)⟩
  have HRN : Box (∀ (w : World) (X : Nat), Bytes w A 16 l → BoxM w X → Calls Try.prog 63 #[.pointer (some ⟨X, 0, none⟩), .slice A 16 c] w fun e w' => RnewQ l X w e w') := ⟨fun w X h hX => rnew_any X A 16 c l w h hX (.inl rfl)⟩
  have HM : Box (∀ w, Calls Try.prog 62 #[.slice A 16 c] w fun e w' => e = .returned (.bool true) ∧ w = w') := ⟨fun w => mayKey_any A 16 c w⟩
  clear hk Hf
  revert HE HD HRE0 HRD0
  generalize encK l f = y
  generalize decK l f = z
  intro HE HD HRE0 HRD0
  go_enter Try.func21, Try.ntmps21
  go_wp2_with fail
  refine (HNW.out _ hl).mono ?_
  rintro e w1 ⟨C, rfl, hC, hb1, hCF⟩
  clear hCF HNW
  go_wp2_with fail
  refine (HM.out _).mono ?_
  rintro e w' ⟨rfl, rfl⟩
  go_wp2_with fail
  refine (newBox_any _).mono ?_
  rintro e w2 ⟨rfl, hX, hb2, hz2⟩
  have hC := hC.below hb2
  have hw2 := hb1.trans (hb2.mono hb1.size)
  clear hb1 hb2 hz2 HM
  generalize hXe : w1.heap.size = X at *
  clear hXe
  go_wp2_with fail
  refine (HRN.out _ X (hl.below hw2) hX).mono ?_
  rintro e w4 ⟨R, rfl, hR, hb4, hR0⟩
  have hC := hC.below hb4
  have hb4 := hw2.trans (hb4.mono hw2.size)
  clear hw2 HRN hX hR0
  go_wp2_with fail
  refine (HKY.out _ C hC).mono ?_
  rintro e w5 ⟨v8, rfl, h8, hb5⟩
  have hC := hC.below hb5
  have hR := hR.below hb5
  have hb5 := hb4.trans (hb5.mono hb4.size)
  obtain ⟨A8, c8, hv8⟩ := h8.form
  subst hv8
  rw [hwl] at h8
  obtain ⟨g8, hA8, hg80, hg81⟩ := h8.at0 (by omega)
  subst hA8
  rw [hwl]
  have HRE : Box (∀ (w : World), Rciph w R X (words l) → Calls Try.prog 66 #[.pointer (some ⟨R, 0, none⟩), .agg (bv f)] w fun e w' => e = .returned (.agg (bv y)) ∧ Below w.heap.size w w') := ⟨fun w h => HRE0.out X R w h⟩
  have HRD : Box (∀ (w : World), Rciph w R X (words l) → Calls Try.prog 67 #[.pointer (some ⟨R, 0, none⟩), .agg (bv f)] w fun e w' => e = .returned (.agg (bv z)) ∧ Below w.heap.size w w') := ⟨fun w h => HRD0.out X R w h⟩
  have hRc := hR
  obtain ⟨A7, c7, r1, r2, r3⟩ := hR
  have hRk := r1.keys
  have hRlt := r1.lt
  rw [hwl] at hRk r3
  obtain ⟨ad7, hA7⟩ := words_some r3 (by omega)
  subst hA7
  clear HKY hb4 HRE0 HRD0
  go_wp2_with fail
  refine wp_region_held_drew (S := fun w' => Below w5.heap.size w5 w') (by kernel_rfl) (Below.refl _ _).drew (fun hS => ?_)
  refine wpAnyH_take (i := 0) (oi := ⟨some 48, _, _, _, _, _⟩) (v := .slice (some ⟨g8, 0, none⟩) 44 c8) rfl (by kernel_rfl) (by kernel_rfl) (by kernel_rfl) (fun _ _ _ h => h) (Or.inl ⟨by kernel_rfl, fun w' hSw => ?_⟩) hS ?_
  · go_simp
  simp only [Act.put, List.setIfInBounds_toArray, List.set_cons_zero, List.set_cons_succ]
  refine wpAnyH_take (i := 1) (oi := ⟨some 49, _, _, _, _, _⟩) (v := .int .i64 44) rfl (by kernel_rfl) (by kernel_rfl) (by kernel_rfl) (fun _ _ _ h => h) (Or.inl ⟨by kernel_rfl, fun w' hSw => ?_⟩) hS ?_
  · go_simp
  simp only [Act.put, List.setIfInBounds_toArray, List.set_cons_zero, List.set_cons_succ]
  refine wpAnyH_take (i := 2) (oi := ⟨some 50, _, _, _, _, _⟩) (v := .pointer (some ⟨R, 0, none⟩)) rfl (by kernel_rfl) (by kernel_rfl) (by kernel_rfl) (fun _ _ _ h => h) (Or.inl ⟨by kernel_rfl, fun w' hSw => ?_⟩) hS ?_
  · go_simp
  simp only [Act.put, List.setIfInBounds_toArray, List.set_cons_zero, List.set_cons_succ]
  refine wpAnyH_take (i := 3) (oi := ⟨some 51, _, _, _, _, _⟩) (v := .pointer (some ⟨R, 0, none⟩)) rfl (by kernel_rfl) (by kernel_rfl) (by kernel_rfl) (fun _ _ _ h => h) (Or.inl ⟨by kernel_rfl, fun w' hSw => ?_⟩) hS ?_
  · go_simp
  simp only [Act.put, List.setIfInBounds_toArray, List.set_cons_zero, List.set_cons_succ]
  refine wpAnyH_take (i := 4) (oi := ⟨some 52, _, _, _, _, _⟩) (v := .pointer (some ⟨R, 1, none⟩)) rfl (by kernel_rfl) (by kernel_rfl) (by kernel_rfl) (fun _ _ _ h => h) (Or.inl ⟨by kernel_rfl, fun w' hSw => ?_⟩) hS ?_
  · go_simp
  simp only [Act.put, List.setIfInBounds_toArray, List.set_cons_zero, List.set_cons_succ]
  refine wpAnyH_take (i := 5) (oi := ⟨some 53, _, _, _, _, _⟩) (v := .slice (some ad7) 44 c7) rfl (by kernel_rfl) (by kernel_rfl) (by kernel_rfl) (fun _ _ _ h => h) (Or.inl ⟨by kernel_rfl, fun w' hSw => ?_⟩) hS ?_
  · (have c := (hSw.cell (p := ⟨R, 1, none⟩) hRlt).trans hRk; go_simp)
  simp only [Act.put, List.setIfInBounds_toArray, List.set_cons_zero, List.set_cons_succ]
  refine wpAnyH_take (i := 6) (oi := ⟨some 54, _, _, _, _, _⟩) (v := .int .i64 44) rfl (by kernel_rfl) (by kernel_rfl) (by kernel_rfl) (fun _ _ _ h => h) (Or.inl ⟨by kernel_rfl, fun w' hSw => ?_⟩) hS ?_
  · go_simp
  simp only [Act.put, List.setIfInBounds_toArray, List.set_cons_zero, List.set_cons_succ]
  refine wpAnyH_take (i := 7) (oi := ⟨some 55, _, _, _, _, _⟩) (v := .bool false) rfl (by kernel_rfl) (by kernel_rfl) (by kernel_rfl) (fun _ _ _ h => h) (Or.inl ⟨by kernel_rfl, fun w' hSw => ?_⟩) hS ?_
  · go_simp
  simp only [Act.put, List.setIfInBounds_toArray, List.set_cons_zero, List.set_cons_succ]
  refine wpAnyH_take (i := 8) (oi := ⟨some 56, _, _, _, _, _⟩) (v := .bool false) rfl (by kernel_rfl) (by kernel_rfl) (by kernel_rfl) (fun _ _ _ h => h) (Or.inl ⟨by kernel_rfl, fun w' hSw => ?_⟩) hS ?_
  · go_simp
  simp only [Act.put, List.setIfInBounds_toArray, List.set_cons_zero, List.set_cons_succ]
  refine wpAnyH_take (i := 9) (oi := ⟨some 57, _, _, _, _, _⟩) (v := .pointer (some ⟨C, 0, none⟩)) rfl (by kernel_rfl) (by kernel_rfl) (by kernel_rfl) (fun _ _ _ h => h) (Or.inl ⟨by kernel_rfl, fun w' hSw => ?_⟩) hS ?_
  · go_simp
  simp only [Act.put, List.setIfInBounds_toArray, List.set_cons_zero, List.set_cons_succ]
  refine wpAnyH_take (i := 11) (oi := ⟨some 59, _, _, _, _, _⟩) (v := .pointer (some ⟨R, 0, none⟩)) rfl (by kernel_rfl) (by kernel_rfl) (by kernel_rfl) (fun _ _ _ h => h) (Or.inl ⟨by kernel_rfl, fun w' hSw => ?_⟩) hS ?_
  · go_simp
  simp only [Act.put, List.setIfInBounds_toArray, List.set_cons_zero, List.set_cons_succ]
  refine wpAnyH_take (i := 12) (oi := ⟨some 60, _, _, _, _, _⟩) (v := .pointer (some ⟨R, 0, none⟩)) rfl (by kernel_rfl) (by kernel_rfl) (by kernel_rfl) (fun _ _ _ h => h) (Or.inl ⟨by kernel_rfl, fun w' hSw => ?_⟩) hS ?_
  · go_simp
  simp only [Act.put, List.setIfInBounds_toArray, List.set_cons_zero, List.set_cons_succ]
  refine wpAnyH_take (i := 13) (oi := ⟨some 61, _, _, _, _, _⟩) (v := .pointer (some ⟨R, 1, none⟩)) rfl (by kernel_rfl) (by kernel_rfl) (by kernel_rfl) (fun _ _ _ h => h) (Or.inl ⟨by kernel_rfl, fun w' hSw => ?_⟩) hS ?_
  · go_simp
  simp only [Act.put, List.setIfInBounds_toArray, List.set_cons_zero, List.set_cons_succ]
  refine wpAnyH_take (i := 14) (oi := ⟨some 62, _, _, _, _, _⟩) (v := .slice (some ad7) 44 c7) rfl (by kernel_rfl) (by kernel_rfl) (by kernel_rfl) (fun _ _ _ h => h) (Or.inl ⟨by kernel_rfl, fun w' hSw => ?_⟩) hS ?_
  · (have c := (hSw.cell (p := ⟨R, 1, none⟩) hRlt).trans hRk; go_simp)
  simp only [Act.put, List.setIfInBounds_toArray, List.set_cons_zero, List.set_cons_succ]
  refine wpAnyH_take (i := 15) (oi := ⟨some 63, _, _, _, _, _⟩) (v := .int .i64 44) rfl (by kernel_rfl) (by kernel_rfl) (by kernel_rfl) (fun _ _ _ h => h) (Or.inl ⟨by kernel_rfl, fun w' hSw => ?_⟩) hS ?_
  · go_simp
  simp only [Act.put, List.setIfInBounds_toArray, List.set_cons_zero, List.set_cons_succ]
  refine wpAnyH_take (i := 16) (oi := ⟨some 64, _, _, _, _, _⟩) (v := .int .i64 11) rfl (by kernel_rfl) (by kernel_rfl) (by kernel_rfl) (fun _ _ _ h => h) (Or.inl ⟨by kernel_rfl, fun w' hSw => ?_⟩) hS ?_
  · (go_simp; first | done | decide | rfl)
  simp only [Act.put, List.setIfInBounds_toArray, List.set_cons_zero, List.set_cons_succ]
  refine wpAnyH_take (i := 17) (oi := ⟨some 65, _, _, _, _, _⟩) (v := .int .i64 10) rfl (by kernel_rfl) (by kernel_rfl) (by kernel_rfl) (fun _ _ _ h => h) (Or.inl ⟨by kernel_rfl, fun w' hSw => ?_⟩) hS ?_
  · (go_simp; first | done | decide | rfl)
  simp only [Act.put, List.setIfInBounds_toArray, List.set_cons_zero, List.set_cons_succ]
  refine wpAnyH_ready (rs := [10]) (by kernel_rfl) (by simp) ?_
  refine (AllReadyH.cons (o := ⟨some 58, _, _, _, _, _⟩) rfl (fun K hK => ?_) AllReadyH.nil)
  rw [if_pos (by kernel_rfl)]
  go_simp
  refine (HR.out _ (hC.below hS)).mono ?_
  rintro e q ⟨rfl, rfl⟩
  refine hK.out _ _ hS (fun hS => ?_)
  clear hK K
  refine wpAnyH_take (i := 18) (oi := ⟨some 66, _, _, _, _, _⟩) (v := .bool false) rfl (by kernel_rfl) (by kernel_rfl) (by kernel_rfl) (fun _ _ _ h => h) (Or.inl ⟨by kernel_rfl, fun w' hSw => ?_⟩) hS ?_
  · go_simp
  simp only [Act.put, List.setIfInBounds_toArray, List.set_cons_zero, List.set_cons_succ]
  refine wpAnyH_take (i := 19) (oi := ⟨some 67, _, _, _, _, _⟩) (v := .bool false) rfl (by kernel_rfl) (by kernel_rfl) (by kernel_rfl) (fun _ _ _ h => h) (Or.inl ⟨by kernel_rfl, fun w' hSw => ?_⟩) hS ?_
  · go_simp
  simp only [Act.put, List.setIfInBounds_toArray, List.set_cons_zero, List.set_cons_succ]
  refine wpAnyH_done (by kernel_rfl) ?_ _
  go_wp2_with fail
  have hCc := hC
  go_loopw [9] (fun i wr => ∃ (k : Nat), i = .int .i64 (k : Int) ∧ k ≤ 44 ∧ Below w5.heap.size w5 wr) (fun i _ => 44 - (intOf i).toNat)
  case atStart => exact ⟨0, rfl, by omega, hS⟩
  case round =>
    clear hS
    obtain ⟨k, rfl, hk, hB⟩ := hrel
    by_cases hkL : k = 44
    · subst hkL
      have hCc := hCc.below hB
      have hRc := hRc.below hB
      have hbr := hb5.trans (hB.mono hb5.size)
      clear hB hC h8 r1 r2 r3 hRk hRlt HR hg80 hg81
      go_wp2_with fail
      refine (HC.out _ (hl1.below hbr)).mono ?_
      rintro e w6 ⟨rfl, hb6⟩
      have hCc := hCc.below hb6
      have hRc := hRc.below hb6
      have hb6 := hbr.trans (hb6.mono hbr.size)
      clear hbr
      go_wp2_with (first
          | ((with_reducible show wpList _ _ _ (⟨_, Op.store 36 (.tmp 10) (.tmp 87), _, _, _, _⟩ :: _) _ _); refine wp_store_arr rfl (.tmp 10) (.tmp 87) rfl (w6.heap.size) (fun _ => 0) (f) rfl rfl (Arr.zero _ _ rfl) ?_))
      have hF : Arr ((w6.alloc (.cells #[.int .u8 0, .int .u8 0, .int .u8 0, .int .u8 0, .int .u8 0, .int .u8 0, .int .u8 0, .int .u8 0, .int .u8 0, .int .u8 0, .int .u8 0, .int .u8 0, .int .u8 0, .int .u8 0, .int .u8 0, .int .u8 0] 36)).setRow w6.heap.size (bv f)) w6.heap.size f := (Arr.zero _ _ rfl).setRow
      have hbW : Below w6.heap.size w6 ((w6.alloc (.cells #[.int .u8 0, .int .u8 0, .int .u8 0, .int .u8 0, .int .u8 0, .int .u8 0, .int .u8 0, .int .u8 0, .int .u8 0, .int .u8 0, .int .u8 0, .int .u8 0, .int .u8 0, .int .u8 0, .int .u8 0, .int .u8 0] 36)).setRow w6.heap.size (bv f)) := below_setRow ((Below.refl _ _).alloc (Nat.le_refl _) _) (Nat.le_refl _) _
      revert hF hbW
      generalize ((w6.alloc (.cells #[.int .u8 0, .int .u8 0, .int .u8 0, .int .u8 0, .int .u8 0, .int .u8 0, .int .u8 0, .int .u8 0, .int .u8 0, .int .u8 0, .int .u8 0, .int .u8 0, .int .u8 0, .int .u8 0, .int .u8 0, .int .u8 0] 36)).setRow w6.heap.size (bv f)) = w7
      intro hF hbW
      have hCc := hCc.below hbW
      have hRc := hRc.below hbW
      have hb7 := hb6.trans (hbW.mono hb6.size)
      clear hbW hb6
      refine wp_region_held_drew (S := fun w' => Below w7.heap.size w7 w') (by kernel_rfl) (Below.refl _ _).drew (fun hS => ?_)
      refine wpAnyH_take (i := 0) (oi := ⟨some 88, _, _, _, _, _⟩) (v := .pointer (some ⟨C, 0, none⟩)) rfl (by kernel_rfl) (by kernel_rfl) (by kernel_rfl) (fun _ _ _ h => h) (Or.inl ⟨by kernel_rfl, fun w' hSw => ?_⟩) hS ?_
      · go_simp
      simp only [Act.put, List.setIfInBounds_toArray, List.set_cons_zero, List.set_cons_succ]
      refine wpAnyH_take (i := 1) (oi := ⟨some 89, _, _, _, _, _⟩) (v := .agg (bv (f))) rfl (by kernel_rfl) (by kernel_rfl) (by kernel_rfl) (fun _ _ _ h => h) (yields_arr (by kernel_rfl) (.tmp 10) rfl (w6.heap.size) (f) rfl fun w' h => hF.below h hF.lt) hS ?_
      simp only [Act.put, List.setIfInBounds_toArray, List.set_cons_zero, List.set_cons_succ]
      refine wpAnyH_take (i := 3) (oi := ⟨some 91, _, _, _, _, _⟩) (v := .pointer (some ⟨R, 0, none⟩)) rfl (by kernel_rfl) (by kernel_rfl) (by kernel_rfl) (fun _ _ _ h => h) (Or.inl ⟨by kernel_rfl, fun w' hSw => ?_⟩) hS ?_
      · go_simp
      simp only [Act.put, List.setIfInBounds_toArray, List.set_cons_zero, List.set_cons_succ]
      refine wpAnyH_take (i := 4) (oi := ⟨some 92, _, _, _, _, _⟩) (v := .agg (bv (f))) rfl (by kernel_rfl) (by kernel_rfl) (by kernel_rfl) (fun _ _ _ h => h) (yields_arr (by kernel_rfl) (.tmp 10) rfl (w6.heap.size) (f) rfl fun w' h => hF.below h hF.lt) hS ?_
      simp only [Act.put, List.setIfInBounds_toArray, List.set_cons_zero, List.set_cons_succ]
      refine wpAnyH_ready (rs := [2]) (by kernel_rfl) (by simp) ?_
      refine (AllReadyH.cons (o := ⟨some 90, _, _, _, _, _⟩) rfl (fun K hK => ?_) AllReadyH.nil)
      rw [if_pos (by kernel_rfl)]
      go_simp
      refine (HE.out _ C (hCc.below hS)).mono ?_
      rintro e v1 ⟨rfl, hq1⟩
      have hqz1 := hq1.size
      refine hK.out _ _ (hS.trans (hq1.mono (by first | exact hS.size | (have := hS.size; simp at this ⊢; omega)))) (fun hS => ?_)
      clear hK K
      refine wpAnyH_ready (rs := [5]) (by kernel_rfl) (by simp) ?_
      refine (AllReadyH.cons (o := ⟨some 93, _, _, _, _, _⟩) rfl (fun K hK => ?_) AllReadyH.nil)
      rw [if_pos (by kernel_rfl)]
      go_simp
      refine (HRE.out _ (hRc.below hS)).mono ?_
      rintro e v2 ⟨rfl, hq2⟩
      have hqz2 := hq2.size
      refine hK.out _ _ (hS.trans (hq2.mono (by first | exact hS.size | (have := hS.size; simp at this ⊢; omega)))) (fun hS => ?_)
      clear hK K
      refine wpAnyH_take (i := 6) (oi := ⟨some 94, _, _, _, _, _⟩) (v := .bool true) rfl (by kernel_rfl) (by kernel_rfl) (by kernel_rfl) (fun _ _ _ h => h) (yields_same (by kernel_rfl) (.tmp 90) (.tmp 93) rfl (y) rfl rfl) hS ?_
      simp only [Act.put, List.setIfInBounds_toArray, List.set_cons_zero, List.set_cons_succ]
      refine wpAnyH_take (i := 7) (oi := ⟨some 95, _, _, _, _, _⟩) (v := .bool true) rfl (by kernel_rfl) (by kernel_rfl) (by kernel_rfl) (fun _ _ _ h => h) (Or.inl ⟨by kernel_rfl, fun w' hSw => ?_⟩) hS ?_
      · go_simp
      simp only [Act.put, List.setIfInBounds_toArray, List.set_cons_zero, List.set_cons_succ]
      refine wpAnyH_take (i := 8) (oi := ⟨some 96, _, _, _, _, _⟩) (v := .pointer (some ⟨C, 0, none⟩)) rfl (by kernel_rfl) (by kernel_rfl) (by kernel_rfl) (fun _ _ _ h => h) (Or.inl ⟨by kernel_rfl, fun w' hSw => ?_⟩) hS ?_
      · go_simp
      simp only [Act.put, List.setIfInBounds_toArray, List.set_cons_zero, List.set_cons_succ]
      refine wpAnyH_take (i := 9) (oi := ⟨some 97, _, _, _, _, _⟩) (v := .agg (bv (f))) rfl (by kernel_rfl) (by kernel_rfl) (by kernel_rfl) (fun _ _ _ h => h) (yields_arr (by kernel_rfl) (.tmp 10) rfl (w6.heap.size) (f) rfl fun w' h => hF.below h hF.lt) hS ?_
      simp only [Act.put, List.setIfInBounds_toArray, List.set_cons_zero, List.set_cons_succ]
      refine wpAnyH_take (i := 11) (oi := ⟨some 99, _, _, _, _, _⟩) (v := .pointer (some ⟨R, 0, none⟩)) rfl (by kernel_rfl) (by kernel_rfl) (by kernel_rfl) (fun _ _ _ h => h) (Or.inl ⟨by kernel_rfl, fun w' hSw => ?_⟩) hS ?_
      · go_simp
      simp only [Act.put, List.setIfInBounds_toArray, List.set_cons_zero, List.set_cons_succ]
      refine wpAnyH_take (i := 12) (oi := ⟨some 100, _, _, _, _, _⟩) (v := .agg (bv (f))) rfl (by kernel_rfl) (by kernel_rfl) (by kernel_rfl) (fun _ _ _ h => h) (yields_arr (by kernel_rfl) (.tmp 10) rfl (w6.heap.size) (f) rfl fun w' h => hF.below h hF.lt) hS ?_
      simp only [Act.put, List.setIfInBounds_toArray, List.set_cons_zero, List.set_cons_succ]
      refine wpAnyH_ready (rs := [10]) (by kernel_rfl) (by simp) ?_
      refine (AllReadyH.cons (o := ⟨some 98, _, _, _, _, _⟩) rfl (fun K hK => ?_) AllReadyH.nil)
      rw [if_pos (by kernel_rfl)]
      go_simp
      refine (HD.out _ C (hCc.below hS)).mono ?_
      rintro e v3 ⟨rfl, hq3⟩
      have hqz3 := hq3.size
      refine hK.out _ _ (hS.trans (hq3.mono (by first | exact hS.size | (have := hS.size; simp at this ⊢; omega)))) (fun hS => ?_)
      clear hK K
      refine wpAnyH_ready (rs := [13]) (by kernel_rfl) (by simp) ?_
      refine (AllReadyH.cons (o := ⟨some 101, _, _, _, _, _⟩) rfl (fun K hK => ?_) AllReadyH.nil)
      rw [if_pos (by kernel_rfl)]
      go_simp
      refine (HRD.out _ (hRc.below hS)).mono ?_
      rintro e v4 ⟨rfl, hq4⟩
      have hqz4 := hq4.size
      refine hK.out _ _ (hS.trans (hq4.mono (by first | exact hS.size | (have := hS.size; simp at this ⊢; omega)))) (fun hS => ?_)
      clear hK K
      refine wpAnyH_take (i := 14) (oi := ⟨some 102, _, _, _, _, _⟩) (v := .bool true) rfl (by kernel_rfl) (by kernel_rfl) (by kernel_rfl) (fun _ _ _ h => h) (yields_same (by kernel_rfl) (.tmp 98) (.tmp 101) rfl (z) rfl rfl) hS ?_
      simp only [Act.put, List.setIfInBounds_toArray, List.set_cons_zero, List.set_cons_succ]
      refine wpAnyH_take (i := 15) (oi := ⟨some 103, _, _, _, _, _⟩) (v := .bool true) rfl (by kernel_rfl) (by kernel_rfl) (by kernel_rfl) (fun _ _ _ h => h) (Or.inl ⟨by kernel_rfl, fun w' hSw => ?_⟩) hS ?_
      · go_simp
      simp only [Act.put, List.setIfInBounds_toArray, List.set_cons_zero, List.set_cons_succ]
      refine wpAnyH_take (i := 16) (oi := ⟨some 104, _, _, _, _, _⟩) (v := .bool true) rfl (by kernel_rfl) (by kernel_rfl) (by kernel_rfl) (fun _ _ _ h => h) (Or.inl ⟨by kernel_rfl, fun w' hSw => ?_⟩) hS ?_
      · go_simp
      simp only [Act.put, List.setIfInBounds_toArray, List.set_cons_zero, List.set_cons_succ]
      refine wpAnyH_ready (rs := [17]) (by kernel_rfl) (by simp) ?_
      refine (AllReadyH.cons (o := ⟨some 105, _, _, _, _, _⟩) rfl (fun K hK => ?_) AllReadyH.nil)
      rw [if_pos (by kernel_rfl)]
      go_simp
      refine (awake6 _).mono ?_
      rintro e v5 ⟨rfl, hq5⟩
      have hqz5 := hq5.size
      refine hK.out _ _ (hS.trans (hq5.mono (by first | exact hS.size | (have := hS.size; simp at this ⊢; omega)))) (fun hS => ?_)
      clear hK K
      refine wpAnyH_take (i := 18) (oi := ⟨some 106, _, _, _, _, _⟩) (v := .bool true) rfl (by kernel_rfl) (by kernel_rfl) (by kernel_rfl) (fun _ _ _ h => h) (Or.inl ⟨by kernel_rfl, fun w' hSw => ?_⟩) hS ?_
      · go_simp
      simp only [Act.put, List.setIfInBounds_toArray, List.set_cons_zero, List.set_cons_succ]
      refine wpAnyH_take (i := 19) (oi := ⟨some 4, _, _, _, _, _⟩) (v := .bool true) rfl (by kernel_rfl) (by kernel_rfl) (by kernel_rfl) (fun _ _ _ h => h) (Or.inl ⟨by kernel_rfl, fun w' hSw => ?_⟩) hS ?_
      · go_simp
      simp only [Act.put, List.setIfInBounds_toArray, List.set_cons_zero, List.set_cons_succ]
      refine wpAnyH_done (by kernel_rfl) ?_ _
      go_wp2_with fail
      go_ret
      exact ⟨rfl, hb7.trans (hS.mono hb7.size)⟩
    · have hk2 : k < 44 := by omega
      clear hkL
      obtain ⟨x, hx⟩ : ∃ x, (words l).getD k 0 = x := ⟨_, rfl⟩
      have hc8 := (h8.below hB (Nat.le_refl _)).cellAt (j := k) (by omega)
      have hc7 := words_cell (r3.below hB) (show k < 44 by omega)
      have h7lt : ad7.block < wr.heap.size := by
        have := World.block_lt_of_cell? wr _ hc7
        rwa [block_of_add] at this
      rw [hx] at hc8 hc7
      have h8lt : g8 < wr.heap.size := by have := hB.size; omega
      have hRk2 := (hB.cell (p := ⟨R, 1, none⟩) hRlt).trans hRk
      have hRlt2 : R < wr.heap.size := by have := hB.size; omega
      have k0 : (0 : Int) ≤ (k : Int) := by omega
      have k1 : (k : Int) < 44 := by omega
      clear hx
      go_wp2_with fail
      refine wp_region_held_drew (S := fun w' => Below wr.heap.size wr w') (by kernel_rfl) (Below.refl _ _).drew (fun hS => ?_)
      refine wpAnyH_take (i := 0) (oi := ⟨some 74, _, _, _, _, _⟩) (v := .slice (some ⟨g8, 0, none⟩) 44 c8) rfl (by kernel_rfl) (by kernel_rfl) (by kernel_rfl) (fun _ _ _ h => h) (Or.inl ⟨by kernel_rfl, fun w' hSw => ?_⟩) hS ?_
      · go_simp
      simp only [Act.put, List.setIfInBounds_toArray, List.set_cons_zero, List.set_cons_succ]
      refine wpAnyH_take (i := 1) (oi := ⟨some 75, _, _, _, _, _⟩) (v := .int .i64 (k : Int)) rfl (by kernel_rfl) (by kernel_rfl) (by kernel_rfl) (fun _ _ _ h => h) (Or.inl ⟨by kernel_rfl, fun w' hSw => ?_⟩) hS ?_
      · go_simp
      simp only [Act.put, List.setIfInBounds_toArray, List.set_cons_zero, List.set_cons_succ]
      refine wpAnyH_take (i := 2) (oi := ⟨some 76, _, _, _, _, _⟩) (v := .pointer (some ⟨g8, k, none⟩)) rfl (by kernel_rfl) (by kernel_rfl) (by kernel_rfl) (fun _ _ _ h => h) (Or.inl ⟨by kernel_rfl, fun w' hSw => ?_⟩) hS ?_
      · go_simp
      simp only [Act.put, List.setIfInBounds_toArray, List.set_cons_zero, List.set_cons_succ]
      refine wpAnyH_take (i := 3) (oi := ⟨some 77, _, _, _, _, _⟩) (v := .int .u32 (x : Int)) rfl (by kernel_rfl) (by kernel_rfl) (by kernel_rfl) (fun _ _ _ h => h) (Or.inl ⟨by kernel_rfl, fun w' hSw => ?_⟩) hS ?_
      · (have c := (hSw.cell (p := ⟨g8, k, none⟩) h8lt).trans hc8; go_simp)
      simp only [Act.put, List.setIfInBounds_toArray, List.set_cons_zero, List.set_cons_succ]
      refine wpAnyH_take (i := 4) (oi := ⟨some 78, _, _, _, _, _⟩) (v := .pointer (some ⟨R, 0, none⟩)) rfl (by kernel_rfl) (by kernel_rfl) (by kernel_rfl) (fun _ _ _ h => h) (Or.inl ⟨by kernel_rfl, fun w' hSw => ?_⟩) hS ?_
      · go_simp
      simp only [Act.put, List.setIfInBounds_toArray, List.set_cons_zero, List.set_cons_succ]
      refine wpAnyH_take (i := 5) (oi := ⟨some 79, _, _, _, _, _⟩) (v := .pointer (some ⟨R, 0, none⟩)) rfl (by kernel_rfl) (by kernel_rfl) (by kernel_rfl) (fun _ _ _ h => h) (Or.inl ⟨by kernel_rfl, fun w' hSw => ?_⟩) hS ?_
      · go_simp
      simp only [Act.put, List.setIfInBounds_toArray, List.set_cons_zero, List.set_cons_succ]
      refine wpAnyH_take (i := 6) (oi := ⟨some 80, _, _, _, _, _⟩) (v := .pointer (some ⟨R, 1, none⟩)) rfl (by kernel_rfl) (by kernel_rfl) (by kernel_rfl) (fun _ _ _ h => h) (Or.inl ⟨by kernel_rfl, fun w' hSw => ?_⟩) hS ?_
      · go_simp
      simp only [Act.put, List.setIfInBounds_toArray, List.set_cons_zero, List.set_cons_succ]
      refine wpAnyH_take (i := 7) (oi := ⟨some 81, _, _, _, _, _⟩) (v := .slice (some ad7) 44 c7) rfl (by kernel_rfl) (by kernel_rfl) (by kernel_rfl) (fun _ _ _ h => h) (Or.inl ⟨by kernel_rfl, fun w' hSw => ?_⟩) hS ?_
      · (have c := (hSw.cell (p := ⟨R, 1, none⟩) hRlt2).trans hRk2; go_simp)
      simp only [Act.put, List.setIfInBounds_toArray, List.set_cons_zero, List.set_cons_succ]
      refine wpAnyH_take (i := 8) (oi := ⟨some 82, _, _, _, _, _⟩) (v := .int .i64 (k : Int)) rfl (by kernel_rfl) (by kernel_rfl) (by kernel_rfl) (fun _ _ _ h => h) (Or.inl ⟨by kernel_rfl, fun w' hSw => ?_⟩) hS ?_
      · go_simp
      simp only [Act.put, List.setIfInBounds_toArray, List.set_cons_zero, List.set_cons_succ]
      refine wpAnyH_take (i := 9) (oi := ⟨some 83, _, _, _, _, _⟩) (v := .pointer (some (ad7.add k))) rfl (by kernel_rfl) (by kernel_rfl) (by kernel_rfl) (fun _ _ _ h => h) (Or.inl ⟨by kernel_rfl, fun w' hSw => ?_⟩) hS ?_
      · go_simp
      simp only [Act.put, List.setIfInBounds_toArray, List.set_cons_zero, List.set_cons_succ]
      refine wpAnyH_take (i := 10) (oi := ⟨some 84, _, _, _, _, _⟩) (v := .int .u32 (x : Int)) rfl (by kernel_rfl) (by kernel_rfl) (by kernel_rfl) (fun _ _ _ h => h) (Or.inl ⟨by kernel_rfl, fun w' hSw => ?_⟩) hS ?_
      · (have c := (hSw.cell (p := ad7.add k) (by rw [block_of_add]; exact h7lt)).trans hc7; go_simp)
      simp only [Act.put, List.setIfInBounds_toArray, List.set_cons_zero, List.set_cons_succ]
      refine wpAnyH_take (i := 11) (oi := ⟨some 85, _, _, _, _, _⟩) (v := .bool false) rfl (by kernel_rfl) (by kernel_rfl) (by kernel_rfl) (fun _ _ _ h => h) (Or.inl ⟨by kernel_rfl, fun w' hSw => ?_⟩) hS ?_
      · go_simp
      simp only [Act.put, List.setIfInBounds_toArray, List.set_cons_zero, List.set_cons_succ]
      refine wpAnyH_done (by kernel_rfl) ?_ _
      go_wp2_with fail
      go_roundw
      case rel => exact ⟨k + 1, by go_num, by omega, hB.drew⟩
      case measure => simp [intOf]; omega
set_option maxRecDepth 100000 in
set_option maxHeartbeats 8000000 in
theorem blocks6_in32 (A : Option Addr) (c : Nat) (l : List Nat) (B : Option Addr) (n1 c1 : Nat) (l1 : List Nat) (w : World) (hl : Bytes w A 32 l) (hc : 32 ≤ c) (hl1 : Bytes w B n1 l1) (h1 : n1 ≤ 100) :
    Calls Try.prog 21 #[.slice A 32 c, .slice B n1 c1] w fun e w' => e = .returned (.bool true) ∧ Below w.heap.size w w' := by
  have hk : MayK l.length := by rw [hl.1]; exact .inr rfl
  have hwl : (words l).length = 60 := by rw [words_len, hl.1]
  have HC := Box.mk (fun w hl => block_walk B n1 c1 l1 w hl)
  have Hf : Box (∀ i, ofL l1 i < 256) := ⟨ofL_lt hl1.2.2.1⟩
  revert HC Hf
  generalize ofL l1 = f
  intro HC Hf
  have HE : Box (∀ (w : World) (C : Nat), Ciph w C (words l) → Calls Try.prog 61 #[.pointer (some ⟨C, 0, none⟩), .agg (bv f)] w fun e w' => e = .returned (.agg (bv (encK l f))) ∧ Below w.heap.size w w') := ⟨fun w C h => encrypt_key C l f hk Hf.out w h⟩
  have HD : Box (∀ (w : World) (C : Nat), Ciph w C (words l) → Calls Try.prog 60 #[.pointer (some ⟨C, 0, none⟩), .agg (bv f)] w fun e w' => e = .returned (.agg (bv (decK l f))) ∧ Below w.heap.size w w') := ⟨fun w C h => decrypt_key C l f hk Hf.out w h⟩
  have HRE0 : Box (∀ (X R : Nat) (w : World), Rciph w R X (words l) → Calls Try.prog 66 #[.pointer (some ⟨R, 0, none⟩), .agg (bv f)] w fun e w' => e = .returned (.agg (bv (encK l f))) ∧ Below w.heap.size w w') := ⟨fun X R w h => rencrypt_key R X l f hk Hf.out w h⟩
  have HRD0 : Box (∀ (X R : Nat) (w : World), Rciph w R X (words l) → Calls Try.prog 67 #[.pointer (some ⟨R, 0, none⟩), .agg (bv f)] w fun e w' => e = .returned (.agg (bv (decK l f))) ∧ Below w.heap.size w w') := ⟨fun X R w h => rdecrypt_key R X l f hk Hf.out w h⟩
  have HR : Box (∀ {w : World} {C : Nat}, Ciph w C (words l) → Calls Try.prog 65 #[.pointer (some ⟨C, 0, none⟩)] w fun e w' => e = .returned (.int .i64 14) ∧ w = w') := ⟨fun h => by have h := rounds_key _ l hk _ h; rwa [hl.1] at h⟩
  have HR : Box (∀ (w : World), ∀ {C : Nat}, Ciph w C (words l) → Calls Try.prog 65 #[.pointer (some ⟨C, 0, none⟩)] w fun e w' => e = .returned (.int .i64 14) ∧ w = w') := ⟨fun w _ h => HR.out h⟩
  have HKY : Box (∀ (w : World) (C : Nat), Ciph w C (words l) → Calls Try.prog 64 #[.pointer (some ⟨C, 0, none⟩)] w (OwnWQ (words l) w)) := ⟨fun w C h => keys_any C (words l) w h (by omega) (by omega)⟩
  have HNW : Box (∀ (w : World), Bytes w A 32 l → Calls Try.prog 59 #[.slice A 32 c] w fun e w' => NewQ l w e w') := ⟨fun w h => new_any A 32 c l w h hc (.inr rfl)⟩
  have HRN : Box (∀ (w : World) (X : Nat), Bytes w A 32 l → BoxM w X → Calls Try.prog 63 #[.pointer (some ⟨X, 0, none⟩), .slice A 32 c] w fun e w' => RnewQ l X w e w') := ⟨fun w X h hX => rnew_any X A 32 c l w h hX (.inr rfl)⟩
  have HM : Box (∀ w, Calls Try.prog 62 #[.slice A 32 c] w fun e w' => e = .returned (.bool true) ∧ w = w') := ⟨fun w => mayKey_any A 32 c w⟩
  clear hk Hf
  revert HE HD HRE0 HRD0
  generalize encK l f = y
  generalize decK l f = z
  intro HE HD HRE0 HRD0
  go_enter Try.func21, Try.ntmps21
  go_wp2_with fail
  refine (HNW.out _ hl).mono ?_
  rintro e w1 ⟨C, rfl, hC, hb1, hCF⟩
  clear hCF HNW
  go_wp2_with fail
  refine (HM.out _).mono ?_
  rintro e w' ⟨rfl, rfl⟩
  go_wp2_with fail
  refine (newBox_any _).mono ?_
  rintro e w2 ⟨rfl, hX, hb2, hz2⟩
  have hC := hC.below hb2
  have hw2 := hb1.trans (hb2.mono hb1.size)
  clear hb1 hb2 hz2 HM
  generalize hXe : w1.heap.size = X at *
  clear hXe
  go_wp2_with fail
  refine (HRN.out _ X (hl.below hw2) hX).mono ?_
  rintro e w4 ⟨R, rfl, hR, hb4, hR0⟩
  have hC := hC.below hb4
  have hb4 := hw2.trans (hb4.mono hw2.size)
  clear hw2 HRN hX hR0
  go_wp2_with fail
  refine (HKY.out _ C hC).mono ?_
  rintro e w5 ⟨v8, rfl, h8, hb5⟩
  have hC := hC.below hb5
  have hR := hR.below hb5
  have hb5 := hb4.trans (hb5.mono hb4.size)
  obtain ⟨A8, c8, hv8⟩ := h8.form
  subst hv8
  rw [hwl] at h8
  obtain ⟨g8, hA8, hg80, hg81⟩ := h8.at0 (by omega)
  subst hA8
  rw [hwl]
  have HRE : Box (∀ (w : World), Rciph w R X (words l) → Calls Try.prog 66 #[.pointer (some ⟨R, 0, none⟩), .agg (bv f)] w fun e w' => e = .returned (.agg (bv y)) ∧ Below w.heap.size w w') := ⟨fun w h => HRE0.out X R w h⟩
  have HRD : Box (∀ (w : World), Rciph w R X (words l) → Calls Try.prog 67 #[.pointer (some ⟨R, 0, none⟩), .agg (bv f)] w fun e w' => e = .returned (.agg (bv z)) ∧ Below w.heap.size w w') := ⟨fun w h => HRD0.out X R w h⟩
  have hRc := hR
  obtain ⟨A7, c7, r1, r2, r3⟩ := hR
  have hRk := r1.keys
  have hRlt := r1.lt
  rw [hwl] at hRk r3
  obtain ⟨ad7, hA7⟩ := words_some r3 (by omega)
  subst hA7
  clear HKY hb4 HRE0 HRD0
  go_wp2_with fail
  refine wp_region_held_drew (S := fun w' => Below w5.heap.size w5 w') (by kernel_rfl) (Below.refl _ _).drew (fun hS => ?_)
  refine wpAnyH_take (i := 0) (oi := ⟨some 48, _, _, _, _, _⟩) (v := .slice (some ⟨g8, 0, none⟩) 60 c8) rfl (by kernel_rfl) (by kernel_rfl) (by kernel_rfl) (fun _ _ _ h => h) (Or.inl ⟨by kernel_rfl, fun w' hSw => ?_⟩) hS ?_
  · go_simp
  simp only [Act.put, List.setIfInBounds_toArray, List.set_cons_zero, List.set_cons_succ]
  refine wpAnyH_take (i := 1) (oi := ⟨some 49, _, _, _, _, _⟩) (v := .int .i64 60) rfl (by kernel_rfl) (by kernel_rfl) (by kernel_rfl) (fun _ _ _ h => h) (Or.inl ⟨by kernel_rfl, fun w' hSw => ?_⟩) hS ?_
  · go_simp
  simp only [Act.put, List.setIfInBounds_toArray, List.set_cons_zero, List.set_cons_succ]
  refine wpAnyH_take (i := 2) (oi := ⟨some 50, _, _, _, _, _⟩) (v := .pointer (some ⟨R, 0, none⟩)) rfl (by kernel_rfl) (by kernel_rfl) (by kernel_rfl) (fun _ _ _ h => h) (Or.inl ⟨by kernel_rfl, fun w' hSw => ?_⟩) hS ?_
  · go_simp
  simp only [Act.put, List.setIfInBounds_toArray, List.set_cons_zero, List.set_cons_succ]
  refine wpAnyH_take (i := 3) (oi := ⟨some 51, _, _, _, _, _⟩) (v := .pointer (some ⟨R, 0, none⟩)) rfl (by kernel_rfl) (by kernel_rfl) (by kernel_rfl) (fun _ _ _ h => h) (Or.inl ⟨by kernel_rfl, fun w' hSw => ?_⟩) hS ?_
  · go_simp
  simp only [Act.put, List.setIfInBounds_toArray, List.set_cons_zero, List.set_cons_succ]
  refine wpAnyH_take (i := 4) (oi := ⟨some 52, _, _, _, _, _⟩) (v := .pointer (some ⟨R, 1, none⟩)) rfl (by kernel_rfl) (by kernel_rfl) (by kernel_rfl) (fun _ _ _ h => h) (Or.inl ⟨by kernel_rfl, fun w' hSw => ?_⟩) hS ?_
  · go_simp
  simp only [Act.put, List.setIfInBounds_toArray, List.set_cons_zero, List.set_cons_succ]
  refine wpAnyH_take (i := 5) (oi := ⟨some 53, _, _, _, _, _⟩) (v := .slice (some ad7) 60 c7) rfl (by kernel_rfl) (by kernel_rfl) (by kernel_rfl) (fun _ _ _ h => h) (Or.inl ⟨by kernel_rfl, fun w' hSw => ?_⟩) hS ?_
  · (have c := (hSw.cell (p := ⟨R, 1, none⟩) hRlt).trans hRk; go_simp)
  simp only [Act.put, List.setIfInBounds_toArray, List.set_cons_zero, List.set_cons_succ]
  refine wpAnyH_take (i := 6) (oi := ⟨some 54, _, _, _, _, _⟩) (v := .int .i64 60) rfl (by kernel_rfl) (by kernel_rfl) (by kernel_rfl) (fun _ _ _ h => h) (Or.inl ⟨by kernel_rfl, fun w' hSw => ?_⟩) hS ?_
  · go_simp
  simp only [Act.put, List.setIfInBounds_toArray, List.set_cons_zero, List.set_cons_succ]
  refine wpAnyH_take (i := 7) (oi := ⟨some 55, _, _, _, _, _⟩) (v := .bool false) rfl (by kernel_rfl) (by kernel_rfl) (by kernel_rfl) (fun _ _ _ h => h) (Or.inl ⟨by kernel_rfl, fun w' hSw => ?_⟩) hS ?_
  · go_simp
  simp only [Act.put, List.setIfInBounds_toArray, List.set_cons_zero, List.set_cons_succ]
  refine wpAnyH_take (i := 8) (oi := ⟨some 56, _, _, _, _, _⟩) (v := .bool false) rfl (by kernel_rfl) (by kernel_rfl) (by kernel_rfl) (fun _ _ _ h => h) (Or.inl ⟨by kernel_rfl, fun w' hSw => ?_⟩) hS ?_
  · go_simp
  simp only [Act.put, List.setIfInBounds_toArray, List.set_cons_zero, List.set_cons_succ]
  refine wpAnyH_take (i := 9) (oi := ⟨some 57, _, _, _, _, _⟩) (v := .pointer (some ⟨C, 0, none⟩)) rfl (by kernel_rfl) (by kernel_rfl) (by kernel_rfl) (fun _ _ _ h => h) (Or.inl ⟨by kernel_rfl, fun w' hSw => ?_⟩) hS ?_
  · go_simp
  simp only [Act.put, List.setIfInBounds_toArray, List.set_cons_zero, List.set_cons_succ]
  refine wpAnyH_take (i := 11) (oi := ⟨some 59, _, _, _, _, _⟩) (v := .pointer (some ⟨R, 0, none⟩)) rfl (by kernel_rfl) (by kernel_rfl) (by kernel_rfl) (fun _ _ _ h => h) (Or.inl ⟨by kernel_rfl, fun w' hSw => ?_⟩) hS ?_
  · go_simp
  simp only [Act.put, List.setIfInBounds_toArray, List.set_cons_zero, List.set_cons_succ]
  refine wpAnyH_take (i := 12) (oi := ⟨some 60, _, _, _, _, _⟩) (v := .pointer (some ⟨R, 0, none⟩)) rfl (by kernel_rfl) (by kernel_rfl) (by kernel_rfl) (fun _ _ _ h => h) (Or.inl ⟨by kernel_rfl, fun w' hSw => ?_⟩) hS ?_
  · go_simp
  simp only [Act.put, List.setIfInBounds_toArray, List.set_cons_zero, List.set_cons_succ]
  refine wpAnyH_take (i := 13) (oi := ⟨some 61, _, _, _, _, _⟩) (v := .pointer (some ⟨R, 1, none⟩)) rfl (by kernel_rfl) (by kernel_rfl) (by kernel_rfl) (fun _ _ _ h => h) (Or.inl ⟨by kernel_rfl, fun w' hSw => ?_⟩) hS ?_
  · go_simp
  simp only [Act.put, List.setIfInBounds_toArray, List.set_cons_zero, List.set_cons_succ]
  refine wpAnyH_take (i := 14) (oi := ⟨some 62, _, _, _, _, _⟩) (v := .slice (some ad7) 60 c7) rfl (by kernel_rfl) (by kernel_rfl) (by kernel_rfl) (fun _ _ _ h => h) (Or.inl ⟨by kernel_rfl, fun w' hSw => ?_⟩) hS ?_
  · (have c := (hSw.cell (p := ⟨R, 1, none⟩) hRlt).trans hRk; go_simp)
  simp only [Act.put, List.setIfInBounds_toArray, List.set_cons_zero, List.set_cons_succ]
  refine wpAnyH_take (i := 15) (oi := ⟨some 63, _, _, _, _, _⟩) (v := .int .i64 60) rfl (by kernel_rfl) (by kernel_rfl) (by kernel_rfl) (fun _ _ _ h => h) (Or.inl ⟨by kernel_rfl, fun w' hSw => ?_⟩) hS ?_
  · go_simp
  simp only [Act.put, List.setIfInBounds_toArray, List.set_cons_zero, List.set_cons_succ]
  refine wpAnyH_take (i := 16) (oi := ⟨some 64, _, _, _, _, _⟩) (v := .int .i64 15) rfl (by kernel_rfl) (by kernel_rfl) (by kernel_rfl) (fun _ _ _ h => h) (Or.inl ⟨by kernel_rfl, fun w' hSw => ?_⟩) hS ?_
  · (go_simp; first | done | decide | rfl)
  simp only [Act.put, List.setIfInBounds_toArray, List.set_cons_zero, List.set_cons_succ]
  refine wpAnyH_take (i := 17) (oi := ⟨some 65, _, _, _, _, _⟩) (v := .int .i64 14) rfl (by kernel_rfl) (by kernel_rfl) (by kernel_rfl) (fun _ _ _ h => h) (Or.inl ⟨by kernel_rfl, fun w' hSw => ?_⟩) hS ?_
  · (go_simp; first | done | decide | rfl)
  simp only [Act.put, List.setIfInBounds_toArray, List.set_cons_zero, List.set_cons_succ]
  refine wpAnyH_ready (rs := [10]) (by kernel_rfl) (by simp) ?_
  refine (AllReadyH.cons (o := ⟨some 58, _, _, _, _, _⟩) rfl (fun K hK => ?_) AllReadyH.nil)
  rw [if_pos (by kernel_rfl)]
  go_simp
  refine (HR.out _ (hC.below hS)).mono ?_
  rintro e q ⟨rfl, rfl⟩
  refine hK.out _ _ hS (fun hS => ?_)
  clear hK K
  refine wpAnyH_take (i := 18) (oi := ⟨some 66, _, _, _, _, _⟩) (v := .bool false) rfl (by kernel_rfl) (by kernel_rfl) (by kernel_rfl) (fun _ _ _ h => h) (Or.inl ⟨by kernel_rfl, fun w' hSw => ?_⟩) hS ?_
  · go_simp
  simp only [Act.put, List.setIfInBounds_toArray, List.set_cons_zero, List.set_cons_succ]
  refine wpAnyH_take (i := 19) (oi := ⟨some 67, _, _, _, _, _⟩) (v := .bool false) rfl (by kernel_rfl) (by kernel_rfl) (by kernel_rfl) (fun _ _ _ h => h) (Or.inl ⟨by kernel_rfl, fun w' hSw => ?_⟩) hS ?_
  · go_simp
  simp only [Act.put, List.setIfInBounds_toArray, List.set_cons_zero, List.set_cons_succ]
  refine wpAnyH_done (by kernel_rfl) ?_ _
  go_wp2_with fail
  have hCc := hC
  go_loopw [9] (fun i wr => ∃ (k : Nat), i = .int .i64 (k : Int) ∧ k ≤ 60 ∧ Below w5.heap.size w5 wr) (fun i _ => 60 - (intOf i).toNat)
  case atStart => exact ⟨0, rfl, by omega, hS⟩
  case round =>
    clear hS
    obtain ⟨k, rfl, hk, hB⟩ := hrel
    by_cases hkL : k = 60
    · subst hkL
      have hCc := hCc.below hB
      have hRc := hRc.below hB
      have hbr := hb5.trans (hB.mono hb5.size)
      clear hB hC h8 r1 r2 r3 hRk hRlt HR hg80 hg81
      go_wp2_with fail
      refine (HC.out _ (hl1.below hbr)).mono ?_
      rintro e w6 ⟨rfl, hb6⟩
      have hCc := hCc.below hb6
      have hRc := hRc.below hb6
      have hb6 := hbr.trans (hb6.mono hbr.size)
      clear hbr
      go_wp2_with (first
          | ((with_reducible show wpList _ _ _ (⟨_, Op.store 36 (.tmp 10) (.tmp 87), _, _, _, _⟩ :: _) _ _); refine wp_store_arr rfl (.tmp 10) (.tmp 87) rfl (w6.heap.size) (fun _ => 0) (f) rfl rfl (Arr.zero _ _ rfl) ?_))
      have hF : Arr ((w6.alloc (.cells #[.int .u8 0, .int .u8 0, .int .u8 0, .int .u8 0, .int .u8 0, .int .u8 0, .int .u8 0, .int .u8 0, .int .u8 0, .int .u8 0, .int .u8 0, .int .u8 0, .int .u8 0, .int .u8 0, .int .u8 0, .int .u8 0] 36)).setRow w6.heap.size (bv f)) w6.heap.size f := (Arr.zero _ _ rfl).setRow
      have hbW : Below w6.heap.size w6 ((w6.alloc (.cells #[.int .u8 0, .int .u8 0, .int .u8 0, .int .u8 0, .int .u8 0, .int .u8 0, .int .u8 0, .int .u8 0, .int .u8 0, .int .u8 0, .int .u8 0, .int .u8 0, .int .u8 0, .int .u8 0, .int .u8 0, .int .u8 0] 36)).setRow w6.heap.size (bv f)) := below_setRow ((Below.refl _ _).alloc (Nat.le_refl _) _) (Nat.le_refl _) _
      revert hF hbW
      generalize ((w6.alloc (.cells #[.int .u8 0, .int .u8 0, .int .u8 0, .int .u8 0, .int .u8 0, .int .u8 0, .int .u8 0, .int .u8 0, .int .u8 0, .int .u8 0, .int .u8 0, .int .u8 0, .int .u8 0, .int .u8 0, .int .u8 0, .int .u8 0] 36)).setRow w6.heap.size (bv f)) = w7
      intro hF hbW
      have hCc := hCc.below hbW
      have hRc := hRc.below hbW
      have hb7 := hb6.trans (hbW.mono hb6.size)
      clear hbW hb6
      refine wp_region_held_drew (S := fun w' => Below w7.heap.size w7 w') (by kernel_rfl) (Below.refl _ _).drew (fun hS => ?_)
      refine wpAnyH_take (i := 0) (oi := ⟨some 88, _, _, _, _, _⟩) (v := .pointer (some ⟨C, 0, none⟩)) rfl (by kernel_rfl) (by kernel_rfl) (by kernel_rfl) (fun _ _ _ h => h) (Or.inl ⟨by kernel_rfl, fun w' hSw => ?_⟩) hS ?_
      · go_simp
      simp only [Act.put, List.setIfInBounds_toArray, List.set_cons_zero, List.set_cons_succ]
      refine wpAnyH_take (i := 1) (oi := ⟨some 89, _, _, _, _, _⟩) (v := .agg (bv (f))) rfl (by kernel_rfl) (by kernel_rfl) (by kernel_rfl) (fun _ _ _ h => h) (yields_arr (by kernel_rfl) (.tmp 10) rfl (w6.heap.size) (f) rfl fun w' h => hF.below h hF.lt) hS ?_
      simp only [Act.put, List.setIfInBounds_toArray, List.set_cons_zero, List.set_cons_succ]
      refine wpAnyH_take (i := 3) (oi := ⟨some 91, _, _, _, _, _⟩) (v := .pointer (some ⟨R, 0, none⟩)) rfl (by kernel_rfl) (by kernel_rfl) (by kernel_rfl) (fun _ _ _ h => h) (Or.inl ⟨by kernel_rfl, fun w' hSw => ?_⟩) hS ?_
      · go_simp
      simp only [Act.put, List.setIfInBounds_toArray, List.set_cons_zero, List.set_cons_succ]
      refine wpAnyH_take (i := 4) (oi := ⟨some 92, _, _, _, _, _⟩) (v := .agg (bv (f))) rfl (by kernel_rfl) (by kernel_rfl) (by kernel_rfl) (fun _ _ _ h => h) (yields_arr (by kernel_rfl) (.tmp 10) rfl (w6.heap.size) (f) rfl fun w' h => hF.below h hF.lt) hS ?_
      simp only [Act.put, List.setIfInBounds_toArray, List.set_cons_zero, List.set_cons_succ]
      refine wpAnyH_ready (rs := [2]) (by kernel_rfl) (by simp) ?_
      refine (AllReadyH.cons (o := ⟨some 90, _, _, _, _, _⟩) rfl (fun K hK => ?_) AllReadyH.nil)
      rw [if_pos (by kernel_rfl)]
      go_simp
      refine (HE.out _ C (hCc.below hS)).mono ?_
      rintro e v1 ⟨rfl, hq1⟩
      have hqz1 := hq1.size
      refine hK.out _ _ (hS.trans (hq1.mono (by first | exact hS.size | (have := hS.size; simp at this ⊢; omega)))) (fun hS => ?_)
      clear hK K
      refine wpAnyH_ready (rs := [5]) (by kernel_rfl) (by simp) ?_
      refine (AllReadyH.cons (o := ⟨some 93, _, _, _, _, _⟩) rfl (fun K hK => ?_) AllReadyH.nil)
      rw [if_pos (by kernel_rfl)]
      go_simp
      refine (HRE.out _ (hRc.below hS)).mono ?_
      rintro e v2 ⟨rfl, hq2⟩
      have hqz2 := hq2.size
      refine hK.out _ _ (hS.trans (hq2.mono (by first | exact hS.size | (have := hS.size; simp at this ⊢; omega)))) (fun hS => ?_)
      clear hK K
      refine wpAnyH_take (i := 6) (oi := ⟨some 94, _, _, _, _, _⟩) (v := .bool true) rfl (by kernel_rfl) (by kernel_rfl) (by kernel_rfl) (fun _ _ _ h => h) (yields_same (by kernel_rfl) (.tmp 90) (.tmp 93) rfl (y) rfl rfl) hS ?_
      simp only [Act.put, List.setIfInBounds_toArray, List.set_cons_zero, List.set_cons_succ]
      refine wpAnyH_take (i := 7) (oi := ⟨some 95, _, _, _, _, _⟩) (v := .bool true) rfl (by kernel_rfl) (by kernel_rfl) (by kernel_rfl) (fun _ _ _ h => h) (Or.inl ⟨by kernel_rfl, fun w' hSw => ?_⟩) hS ?_
      · go_simp
      simp only [Act.put, List.setIfInBounds_toArray, List.set_cons_zero, List.set_cons_succ]
      refine wpAnyH_take (i := 8) (oi := ⟨some 96, _, _, _, _, _⟩) (v := .pointer (some ⟨C, 0, none⟩)) rfl (by kernel_rfl) (by kernel_rfl) (by kernel_rfl) (fun _ _ _ h => h) (Or.inl ⟨by kernel_rfl, fun w' hSw => ?_⟩) hS ?_
      · go_simp
      simp only [Act.put, List.setIfInBounds_toArray, List.set_cons_zero, List.set_cons_succ]
      refine wpAnyH_take (i := 9) (oi := ⟨some 97, _, _, _, _, _⟩) (v := .agg (bv (f))) rfl (by kernel_rfl) (by kernel_rfl) (by kernel_rfl) (fun _ _ _ h => h) (yields_arr (by kernel_rfl) (.tmp 10) rfl (w6.heap.size) (f) rfl fun w' h => hF.below h hF.lt) hS ?_
      simp only [Act.put, List.setIfInBounds_toArray, List.set_cons_zero, List.set_cons_succ]
      refine wpAnyH_take (i := 11) (oi := ⟨some 99, _, _, _, _, _⟩) (v := .pointer (some ⟨R, 0, none⟩)) rfl (by kernel_rfl) (by kernel_rfl) (by kernel_rfl) (fun _ _ _ h => h) (Or.inl ⟨by kernel_rfl, fun w' hSw => ?_⟩) hS ?_
      · go_simp
      simp only [Act.put, List.setIfInBounds_toArray, List.set_cons_zero, List.set_cons_succ]
      refine wpAnyH_take (i := 12) (oi := ⟨some 100, _, _, _, _, _⟩) (v := .agg (bv (f))) rfl (by kernel_rfl) (by kernel_rfl) (by kernel_rfl) (fun _ _ _ h => h) (yields_arr (by kernel_rfl) (.tmp 10) rfl (w6.heap.size) (f) rfl fun w' h => hF.below h hF.lt) hS ?_
      simp only [Act.put, List.setIfInBounds_toArray, List.set_cons_zero, List.set_cons_succ]
      refine wpAnyH_ready (rs := [10]) (by kernel_rfl) (by simp) ?_
      refine (AllReadyH.cons (o := ⟨some 98, _, _, _, _, _⟩) rfl (fun K hK => ?_) AllReadyH.nil)
      rw [if_pos (by kernel_rfl)]
      go_simp
      refine (HD.out _ C (hCc.below hS)).mono ?_
      rintro e v3 ⟨rfl, hq3⟩
      have hqz3 := hq3.size
      refine hK.out _ _ (hS.trans (hq3.mono (by first | exact hS.size | (have := hS.size; simp at this ⊢; omega)))) (fun hS => ?_)
      clear hK K
      refine wpAnyH_ready (rs := [13]) (by kernel_rfl) (by simp) ?_
      refine (AllReadyH.cons (o := ⟨some 101, _, _, _, _, _⟩) rfl (fun K hK => ?_) AllReadyH.nil)
      rw [if_pos (by kernel_rfl)]
      go_simp
      refine (HRD.out _ (hRc.below hS)).mono ?_
      rintro e v4 ⟨rfl, hq4⟩
      have hqz4 := hq4.size
      refine hK.out _ _ (hS.trans (hq4.mono (by first | exact hS.size | (have := hS.size; simp at this ⊢; omega)))) (fun hS => ?_)
      clear hK K
      refine wpAnyH_take (i := 14) (oi := ⟨some 102, _, _, _, _, _⟩) (v := .bool true) rfl (by kernel_rfl) (by kernel_rfl) (by kernel_rfl) (fun _ _ _ h => h) (yields_same (by kernel_rfl) (.tmp 98) (.tmp 101) rfl (z) rfl rfl) hS ?_
      simp only [Act.put, List.setIfInBounds_toArray, List.set_cons_zero, List.set_cons_succ]
      refine wpAnyH_take (i := 15) (oi := ⟨some 103, _, _, _, _, _⟩) (v := .bool true) rfl (by kernel_rfl) (by kernel_rfl) (by kernel_rfl) (fun _ _ _ h => h) (Or.inl ⟨by kernel_rfl, fun w' hSw => ?_⟩) hS ?_
      · go_simp
      simp only [Act.put, List.setIfInBounds_toArray, List.set_cons_zero, List.set_cons_succ]
      refine wpAnyH_take (i := 16) (oi := ⟨some 104, _, _, _, _, _⟩) (v := .bool true) rfl (by kernel_rfl) (by kernel_rfl) (by kernel_rfl) (fun _ _ _ h => h) (Or.inl ⟨by kernel_rfl, fun w' hSw => ?_⟩) hS ?_
      · go_simp
      simp only [Act.put, List.setIfInBounds_toArray, List.set_cons_zero, List.set_cons_succ]
      refine wpAnyH_ready (rs := [17]) (by kernel_rfl) (by simp) ?_
      refine (AllReadyH.cons (o := ⟨some 105, _, _, _, _, _⟩) rfl (fun K hK => ?_) AllReadyH.nil)
      rw [if_pos (by kernel_rfl)]
      go_simp
      refine (awake6 _).mono ?_
      rintro e v5 ⟨rfl, hq5⟩
      have hqz5 := hq5.size
      refine hK.out _ _ (hS.trans (hq5.mono (by first | exact hS.size | (have := hS.size; simp at this ⊢; omega)))) (fun hS => ?_)
      clear hK K
      refine wpAnyH_take (i := 18) (oi := ⟨some 106, _, _, _, _, _⟩) (v := .bool true) rfl (by kernel_rfl) (by kernel_rfl) (by kernel_rfl) (fun _ _ _ h => h) (Or.inl ⟨by kernel_rfl, fun w' hSw => ?_⟩) hS ?_
      · go_simp
      simp only [Act.put, List.setIfInBounds_toArray, List.set_cons_zero, List.set_cons_succ]
      refine wpAnyH_take (i := 19) (oi := ⟨some 4, _, _, _, _, _⟩) (v := .bool true) rfl (by kernel_rfl) (by kernel_rfl) (by kernel_rfl) (fun _ _ _ h => h) (Or.inl ⟨by kernel_rfl, fun w' hSw => ?_⟩) hS ?_
      · go_simp
      simp only [Act.put, List.setIfInBounds_toArray, List.set_cons_zero, List.set_cons_succ]
      refine wpAnyH_done (by kernel_rfl) ?_ _
      go_wp2_with fail
      go_ret
      exact ⟨rfl, hb7.trans (hS.mono hb7.size)⟩
    · have hk2 : k < 60 := by omega
      clear hkL
      obtain ⟨x, hx⟩ : ∃ x, (words l).getD k 0 = x := ⟨_, rfl⟩
      have hc8 := (h8.below hB (Nat.le_refl _)).cellAt (j := k) (by omega)
      have hc7 := words_cell (r3.below hB) (show k < 60 by omega)
      have h7lt : ad7.block < wr.heap.size := by
        have := World.block_lt_of_cell? wr _ hc7
        rwa [block_of_add] at this
      rw [hx] at hc8 hc7
      have h8lt : g8 < wr.heap.size := by have := hB.size; omega
      have hRk2 := (hB.cell (p := ⟨R, 1, none⟩) hRlt).trans hRk
      have hRlt2 : R < wr.heap.size := by have := hB.size; omega
      have k0 : (0 : Int) ≤ (k : Int) := by omega
      have k1 : (k : Int) < 60 := by omega
      clear hx
      go_wp2_with fail
      refine wp_region_held_drew (S := fun w' => Below wr.heap.size wr w') (by kernel_rfl) (Below.refl _ _).drew (fun hS => ?_)
      refine wpAnyH_take (i := 0) (oi := ⟨some 74, _, _, _, _, _⟩) (v := .slice (some ⟨g8, 0, none⟩) 60 c8) rfl (by kernel_rfl) (by kernel_rfl) (by kernel_rfl) (fun _ _ _ h => h) (Or.inl ⟨by kernel_rfl, fun w' hSw => ?_⟩) hS ?_
      · go_simp
      simp only [Act.put, List.setIfInBounds_toArray, List.set_cons_zero, List.set_cons_succ]
      refine wpAnyH_take (i := 1) (oi := ⟨some 75, _, _, _, _, _⟩) (v := .int .i64 (k : Int)) rfl (by kernel_rfl) (by kernel_rfl) (by kernel_rfl) (fun _ _ _ h => h) (Or.inl ⟨by kernel_rfl, fun w' hSw => ?_⟩) hS ?_
      · go_simp
      simp only [Act.put, List.setIfInBounds_toArray, List.set_cons_zero, List.set_cons_succ]
      refine wpAnyH_take (i := 2) (oi := ⟨some 76, _, _, _, _, _⟩) (v := .pointer (some ⟨g8, k, none⟩)) rfl (by kernel_rfl) (by kernel_rfl) (by kernel_rfl) (fun _ _ _ h => h) (Or.inl ⟨by kernel_rfl, fun w' hSw => ?_⟩) hS ?_
      · go_simp
      simp only [Act.put, List.setIfInBounds_toArray, List.set_cons_zero, List.set_cons_succ]
      refine wpAnyH_take (i := 3) (oi := ⟨some 77, _, _, _, _, _⟩) (v := .int .u32 (x : Int)) rfl (by kernel_rfl) (by kernel_rfl) (by kernel_rfl) (fun _ _ _ h => h) (Or.inl ⟨by kernel_rfl, fun w' hSw => ?_⟩) hS ?_
      · (have c := (hSw.cell (p := ⟨g8, k, none⟩) h8lt).trans hc8; go_simp)
      simp only [Act.put, List.setIfInBounds_toArray, List.set_cons_zero, List.set_cons_succ]
      refine wpAnyH_take (i := 4) (oi := ⟨some 78, _, _, _, _, _⟩) (v := .pointer (some ⟨R, 0, none⟩)) rfl (by kernel_rfl) (by kernel_rfl) (by kernel_rfl) (fun _ _ _ h => h) (Or.inl ⟨by kernel_rfl, fun w' hSw => ?_⟩) hS ?_
      · go_simp
      simp only [Act.put, List.setIfInBounds_toArray, List.set_cons_zero, List.set_cons_succ]
      refine wpAnyH_take (i := 5) (oi := ⟨some 79, _, _, _, _, _⟩) (v := .pointer (some ⟨R, 0, none⟩)) rfl (by kernel_rfl) (by kernel_rfl) (by kernel_rfl) (fun _ _ _ h => h) (Or.inl ⟨by kernel_rfl, fun w' hSw => ?_⟩) hS ?_
      · go_simp
      simp only [Act.put, List.setIfInBounds_toArray, List.set_cons_zero, List.set_cons_succ]
      refine wpAnyH_take (i := 6) (oi := ⟨some 80, _, _, _, _, _⟩) (v := .pointer (some ⟨R, 1, none⟩)) rfl (by kernel_rfl) (by kernel_rfl) (by kernel_rfl) (fun _ _ _ h => h) (Or.inl ⟨by kernel_rfl, fun w' hSw => ?_⟩) hS ?_
      · go_simp
      simp only [Act.put, List.setIfInBounds_toArray, List.set_cons_zero, List.set_cons_succ]
      refine wpAnyH_take (i := 7) (oi := ⟨some 81, _, _, _, _, _⟩) (v := .slice (some ad7) 60 c7) rfl (by kernel_rfl) (by kernel_rfl) (by kernel_rfl) (fun _ _ _ h => h) (Or.inl ⟨by kernel_rfl, fun w' hSw => ?_⟩) hS ?_
      · (have c := (hSw.cell (p := ⟨R, 1, none⟩) hRlt2).trans hRk2; go_simp)
      simp only [Act.put, List.setIfInBounds_toArray, List.set_cons_zero, List.set_cons_succ]
      refine wpAnyH_take (i := 8) (oi := ⟨some 82, _, _, _, _, _⟩) (v := .int .i64 (k : Int)) rfl (by kernel_rfl) (by kernel_rfl) (by kernel_rfl) (fun _ _ _ h => h) (Or.inl ⟨by kernel_rfl, fun w' hSw => ?_⟩) hS ?_
      · go_simp
      simp only [Act.put, List.setIfInBounds_toArray, List.set_cons_zero, List.set_cons_succ]
      refine wpAnyH_take (i := 9) (oi := ⟨some 83, _, _, _, _, _⟩) (v := .pointer (some (ad7.add k))) rfl (by kernel_rfl) (by kernel_rfl) (by kernel_rfl) (fun _ _ _ h => h) (Or.inl ⟨by kernel_rfl, fun w' hSw => ?_⟩) hS ?_
      · go_simp
      simp only [Act.put, List.setIfInBounds_toArray, List.set_cons_zero, List.set_cons_succ]
      refine wpAnyH_take (i := 10) (oi := ⟨some 84, _, _, _, _, _⟩) (v := .int .u32 (x : Int)) rfl (by kernel_rfl) (by kernel_rfl) (by kernel_rfl) (fun _ _ _ h => h) (Or.inl ⟨by kernel_rfl, fun w' hSw => ?_⟩) hS ?_
      · (have c := (hSw.cell (p := ad7.add k) (by rw [block_of_add]; exact h7lt)).trans hc7; go_simp)
      simp only [Act.put, List.setIfInBounds_toArray, List.set_cons_zero, List.set_cons_succ]
      refine wpAnyH_take (i := 11) (oi := ⟨some 85, _, _, _, _, _⟩) (v := .bool false) rfl (by kernel_rfl) (by kernel_rfl) (by kernel_rfl) (fun _ _ _ h => h) (Or.inl ⟨by kernel_rfl, fun w' hSw => ?_⟩) hS ?_
      · go_simp
      simp only [Act.put, List.setIfInBounds_toArray, List.set_cons_zero, List.set_cons_succ]
      refine wpAnyH_done (by kernel_rfl) ?_ _
      go_wp2_with fail
      go_roundw
      case rel => exact ⟨k + 1, by go_num, by omega, hB.drew⟩
      case measure => simp [intOf]; omega
theorem aesBlocks_walk {w : World} (A : Option Addr) (n c : Nat) (l : List Nat) (hc : n ≤ c) (hl : Bytes w A n l) (B : Option Addr) (n1 c1 : Nat) (l1 : List Nat) (_hc1 : n1 ≤ c1) (hl1 : Bytes w B n1 l1) :
    Calls Try.prog 21 #[.slice A n c, .slice B n1 c1] w fun e w' => e = .returned (.bool true) ∧ Below w.heap.size w w' := by
  by_cases h : n ≤ 100
  · by_cases h1 : n1 ≤ 100
    · by_cases h16 : n = 16
      · subst h16
        exact blocks6_in16 A c l B n1 c1 l1 w hl hc hl1 h1
      · by_cases h32 : n = 32
        · subst h32
          exact blocks6_in32 A c l B n1 c1 l1 w hl hc hl1 h1
        · exact blocks6_no A n c B n1 c1 w h h1 (by simp; omega) (by simp; omega) (decide_eq_false (by omega))
    · exact blocks6_outB A n c B n1 c1 w h (by omega)
  · exact blocks6_outA A n c B n1 c1 w (by omega)
end Go.Proofs.Ytibfihjcjohadaa
