/-
  The walk of the law on several ciphers: it returns true, whatever the input, and writes nothing that was there.
-/
import Derived.Test.YtibfihjcjohadaaLawsB
namespace Go.Proofs.Ytibfihjcjohadaa
open Go.RowKit Go.Op
open Aes (words)
set_option maxRecDepth 100000 in
set_option maxHeartbeats 1000000 in
theorem apart6_outN (A : Option Addr) (n c : Nat) (B : Option Addr) (n1 c1 : Nat) (D : Option Addr) (n2 c2 : Nat) (w : World) (ap : ((n : Int) != 16) = true) (aq : ((n : Int) != 32) = true) :
    Calls Try.prog 20 #[.slice A n c, .slice B n1 c1, .slice D n2 c2] w fun e w' => e = .returned (.bool true) ∧ Below w.heap.size w w' := by
  go_enter Try.func20, Try.ntmps20
  go_wp2_with fail
  refine (awake6 _).mono ?_
  rintro e w' ⟨rfl, hbel⟩
  go_wp2_with fail
  go_ret
  exact ⟨rfl, hbel⟩
set_option maxRecDepth 100000 in
set_option maxHeartbeats 1000000 in
theorem apart6_out16N (A : Option Addr) (n c : Nat) (B : Option Addr) (n1 c1 : Nat) (D : Option Addr) (n2 c2 : Nat) (w : World) (ap : ((n : Int) != 16) = false) (bp : ((n1 : Int) != 16) = true) (bq : ((n1 : Int) != 32) = true) :
    Calls Try.prog 20 #[.slice A n c, .slice B n1 c1, .slice D n2 c2] w fun e w' => e = .returned (.bool true) ∧ Below w.heap.size w w' := by
  go_enter Try.func20, Try.ntmps20
  go_wp2_with fail
  refine (awake6 _).mono ?_
  rintro e w' ⟨rfl, hbel⟩
  go_wp2_with fail
  go_ret
  exact ⟨rfl, hbel⟩
set_option maxRecDepth 100000 in
set_option maxHeartbeats 1000000 in
theorem apart6_out16_16 (A : Option Addr) (n c : Nat) (B : Option Addr) (n1 c1 : Nat) (D : Option Addr) (n2 c2 : Nat) (w : World) (ap : ((n : Int) != 16) = false) (bp : ((n1 : Int) != 16) = false) (h2 : 100 < n2) :
    Calls Try.prog 20 #[.slice A n c, .slice B n1 c1, .slice D n2 c2] w fun e w' => e = .returned (.bool true) ∧ Below w.heap.size w w' := by
  go_enter Try.func20, Try.ntmps20
  go_wp2_with fail
  refine (awake6 _).mono ?_
  rintro e w' ⟨rfl, hbel⟩
  go_wp2_with fail
  go_ret
  exact ⟨rfl, hbel⟩
set_option maxRecDepth 100000 in
set_option maxHeartbeats 1000000 in
theorem apart6_out16_32 (A : Option Addr) (n c : Nat) (B : Option Addr) (n1 c1 : Nat) (D : Option Addr) (n2 c2 : Nat) (w : World) (ap : ((n : Int) != 16) = false) (bp : ((n1 : Int) != 16) = true) (bq : ((n1 : Int) != 32) = false) (h2 : 100 < n2) :
    Calls Try.prog 20 #[.slice A n c, .slice B n1 c1, .slice D n2 c2] w fun e w' => e = .returned (.bool true) ∧ Below w.heap.size w w' := by
  go_enter Try.func20, Try.ntmps20
  go_wp2_with fail
  refine (awake6 _).mono ?_
  rintro e w' ⟨rfl, hbel⟩
  go_wp2_with fail
  go_ret
  exact ⟨rfl, hbel⟩
set_option maxRecDepth 100000 in
set_option maxHeartbeats 1000000 in
theorem apart6_out32N (A : Option Addr) (n c : Nat) (B : Option Addr) (n1 c1 : Nat) (D : Option Addr) (n2 c2 : Nat) (w : World) (ap : ((n : Int) != 16) = true) (aq : ((n : Int) != 32) = false) (bp : ((n1 : Int) != 16) = true) (bq : ((n1 : Int) != 32) = true) :
    Calls Try.prog 20 #[.slice A n c, .slice B n1 c1, .slice D n2 c2] w fun e w' => e = .returned (.bool true) ∧ Below w.heap.size w w' := by
  go_enter Try.func20, Try.ntmps20
  go_wp2_with fail
  refine (awake6 _).mono ?_
  rintro e w' ⟨rfl, hbel⟩
  go_wp2_with fail
  go_ret
  exact ⟨rfl, hbel⟩
set_option maxRecDepth 100000 in
set_option maxHeartbeats 1000000 in
theorem apart6_out32_16 (A : Option Addr) (n c : Nat) (B : Option Addr) (n1 c1 : Nat) (D : Option Addr) (n2 c2 : Nat) (w : World) (ap : ((n : Int) != 16) = true) (aq : ((n : Int) != 32) = false) (bp : ((n1 : Int) != 16) = false) (h2 : 100 < n2) :
    Calls Try.prog 20 #[.slice A n c, .slice B n1 c1, .slice D n2 c2] w fun e w' => e = .returned (.bool true) ∧ Below w.heap.size w w' := by
  go_enter Try.func20, Try.ntmps20
  go_wp2_with fail
  refine (awake6 _).mono ?_
  rintro e w' ⟨rfl, hbel⟩
  go_wp2_with fail
  go_ret
  exact ⟨rfl, hbel⟩
set_option maxRecDepth 100000 in
set_option maxHeartbeats 1000000 in
theorem apart6_out32_32 (A : Option Addr) (n c : Nat) (B : Option Addr) (n1 c1 : Nat) (D : Option Addr) (n2 c2 : Nat) (w : World) (ap : ((n : Int) != 16) = true) (aq : ((n : Int) != 32) = false) (bp : ((n1 : Int) != 16) = true) (bq : ((n1 : Int) != 32) = false) (h2 : 100 < n2) :
    Calls Try.prog 20 #[.slice A n c, .slice B n1 c1, .slice D n2 c2] w fun e w' => e = .returned (.bool true) ∧ Below w.heap.size w w' := by
  go_enter Try.func20, Try.ntmps20
  go_wp2_with fail
  refine (awake6 _).mono ?_
  rintro e w' ⟨rfl, hbel⟩
  go_wp2_with fail
  go_ret
  exact ⟨rfl, hbel⟩
set_option maxRecDepth 100000 in
set_option maxHeartbeats 4000000 in
theorem apart6_in16_16 (A : Option Addr) (n c : Nat) (l : List Nat) (B : Option Addr) (n1 c1 : Nat) (l1 : List Nat) (D : Option Addr) (n2 c2 : Nat) (l2 : List Nat) (w : World) (hl : Bytes w A n l) (hc : n ≤ c) (hl1 : Bytes w B n1 l1) (hc1 : n1 ≤ c1) (hl2 : Bytes w D n2 l2)
    (hn : MayK n) (hn1 : MayK n1) (ap : ((n : Int) != 16) = false) (bp : ((n1 : Int) != 16) = false) (h2 : n2 ≤ 100) :
    Calls Try.prog 20 #[.slice A n c, .slice B n1 c1, .slice D n2 c2] w fun e w' => e = .returned (.bool true) ∧ Below w.heap.size w w' := by
  have hk : MayK l.length := by rw [hl.1]; exact hn
  have hk1 : MayK l1.length := by rw [hl1.1]; exact hn1
  have HC := Box.mk (fun w hl => block_walk D n2 c2 l2 w hl)
  have HK := Box.mk (fun w hl => new_any A n c l w hl hc hn)
  have HK1 := Box.mk (fun w hl => new_any B n1 c1 l1 w hl hc1 hn1)
  have Hf : Box (∀ i, ofL l2 i < 256) := ⟨ofL_lt hl2.2.2.1⟩
  revert HC Hf
  generalize ofL l2 = f
  intro HC Hf
  have HE : Box (∀ (w : World) (C : Nat), Ciph w C (words l) → Calls Try.prog 61 #[.pointer (some ⟨C, 0, none⟩), .agg (bv f)] w fun e w' => e = .returned (.agg (bv (encK l f))) ∧ Below w.heap.size w w') := ⟨fun w C h => encrypt_key C l f hk Hf.out w h⟩
  have HE1 : Box (∀ (w : World) (C : Nat), Ciph w C (words l1) → Calls Try.prog 61 #[.pointer (some ⟨C, 0, none⟩), .agg (bv f)] w fun e w' => e = .returned (.agg (bv (encK l1 f))) ∧ Below w.heap.size w w') := ⟨fun w C h => encrypt_key C l1 f hk1 Hf.out w h⟩
  have HD : Box (∀ (w : World) (C : Nat), Ciph w C (words l) → Calls Try.prog 60 #[.pointer (some ⟨C, 0, none⟩), .agg (bv (encK l f))] w fun e w' => e = .returned (.agg (bv f)) ∧ Below w.heap.size w w') := ⟨fun w C h => by have h := decrypt_key C l (encK l f) hk (encK_lt Hf.out) w h; rwa [dec_encK Hf.out] at h⟩
  clear hk hk1 Hf
  revert HE HD
  generalize encK l f = y
  intro HE HD
  go_enter Try.func20, Try.ntmps20
  go_wp2_with fail
  refine (HK.out _ hl).mono ?_
  rintro e w1 ⟨C, rfl, hC, hb1, hC0⟩
  go_wp2_with fail
  refine (HC.out _ (hl2.below hb1)).mono ?_
  rintro e w2 ⟨rfl, hb2⟩
  have hC := hC.below hb2
  have hb2 := hb1.trans (hb2.mono hb1.size)
  clear hb1 hC0 HC hl2
  go_wp2_with (first
      | ((with_reducible show wpList _ _ _ (⟨_, Op.store 36 (.tmp 9) (.tmp 51), _, _, _, _⟩ :: _) _ _); refine wp_store_arr rfl (.tmp 9) (.tmp 51) rfl (w2.heap.size) (fun _ => 0) (f) rfl rfl (Arr.zero _ _ rfl) ?_)
      | ((with_reducible show wpList _ _ _ (⟨some 53, Op.load 36 (.tmp 9), _, _, _, _⟩ :: _) _ _); refine wp_load_arr rfl (.tmp 9) rfl (w2.heap.size) (f) rfl ((Arr.zero _ _ rfl).setRow) ?_))
  have hF : Arr ((w2.alloc (.cells #[.int .u8 0, .int .u8 0, .int .u8 0, .int .u8 0, .int .u8 0, .int .u8 0, .int .u8 0, .int .u8 0, .int .u8 0, .int .u8 0, .int .u8 0, .int .u8 0, .int .u8 0, .int .u8 0, .int .u8 0, .int .u8 0] 36)).setRow w2.heap.size (bv f)) w2.heap.size f := (Arr.zero _ _ rfl).setRow
  have hbelW : Below w2.heap.size w2 ((w2.alloc (.cells #[.int .u8 0, .int .u8 0, .int .u8 0, .int .u8 0, .int .u8 0, .int .u8 0, .int .u8 0, .int .u8 0, .int .u8 0, .int .u8 0, .int .u8 0, .int .u8 0, .int .u8 0, .int .u8 0, .int .u8 0, .int .u8 0] 36)).setRow w2.heap.size (bv f)) := below_setRow ((Below.refl _ _).alloc (Nat.le_refl _) _) (Nat.le_refl _) _
  revert hF hbelW
  generalize ((w2.alloc (.cells #[.int .u8 0, .int .u8 0, .int .u8 0, .int .u8 0, .int .u8 0, .int .u8 0, .int .u8 0, .int .u8 0, .int .u8 0, .int .u8 0, .int .u8 0, .int .u8 0, .int .u8 0, .int .u8 0, .int .u8 0, .int .u8 0] 36)).setRow w2.heap.size (bv f)) = w3
  intro hF hbelW
  have hC := hC.below hbelW
  have hb3 := hb2.trans (hbelW.mono hb2.size)
  clear hbelW
  refine (HE.out _ C hC).mono ?_
  rintro e w4 ⟨rfl, hb4⟩
  have hC := hC.below hb4
  have hF := hF.below hb4 hF.lt
  have hb4 := hb3.trans (hb4.mono hb3.size)
  clear hb3
  go_wp2_with (first
      | ((with_reducible show wpList _ _ _ (⟨_, Op.store 36 (.tmp 10) (.tmp 54), _, _, _, _⟩ :: _) _ _); refine wp_store_arr rfl (.tmp 10) (.tmp 54) rfl (w4.heap.size) (fun _ => 0) (y) rfl rfl (Arr.zero _ _ rfl) ?_))
  have hY : Arr ((w4.alloc (.cells #[.int .u8 0, .int .u8 0, .int .u8 0, .int .u8 0, .int .u8 0, .int .u8 0, .int .u8 0, .int .u8 0, .int .u8 0, .int .u8 0, .int .u8 0, .int .u8 0, .int .u8 0, .int .u8 0, .int .u8 0, .int .u8 0] 36)).setRow w4.heap.size (bv y)) w4.heap.size y := (Arr.zero _ _ rfl).setRow
  have hF : Arr ((w4.alloc (.cells #[.int .u8 0, .int .u8 0, .int .u8 0, .int .u8 0, .int .u8 0, .int .u8 0, .int .u8 0, .int .u8 0, .int .u8 0, .int .u8 0, .int .u8 0, .int .u8 0, .int .u8 0, .int .u8 0, .int .u8 0, .int .u8 0] 36)).setRow w4.heap.size (bv y)) w2.heap.size f := (hF.alloc _).setRow_far (by have := hF.lt; omega)
  have hbelW : Below w4.heap.size w4 ((w4.alloc (.cells #[.int .u8 0, .int .u8 0, .int .u8 0, .int .u8 0, .int .u8 0, .int .u8 0, .int .u8 0, .int .u8 0, .int .u8 0, .int .u8 0, .int .u8 0, .int .u8 0, .int .u8 0, .int .u8 0, .int .u8 0, .int .u8 0] 36)).setRow w4.heap.size (bv y)) := below_setRow ((Below.refl _ _).alloc (Nat.le_refl _) _) (Nat.le_refl _) _
  revert hF hY hbelW
  generalize ((w4.alloc (.cells #[.int .u8 0, .int .u8 0, .int .u8 0, .int .u8 0, .int .u8 0, .int .u8 0, .int .u8 0, .int .u8 0, .int .u8 0, .int .u8 0, .int .u8 0, .int .u8 0, .int .u8 0, .int .u8 0, .int .u8 0, .int .u8 0] 36)).setRow w4.heap.size (bv y)) = w5
  intro hY hF hbelW
  have hC := hC.below hbelW
  have hb5 := hb4.trans (hbelW.mono hb4.size)
  clear hbelW hb4
  refine (HK1.out _ (hl1.below hb5)).mono ?_
  rintro e w6 ⟨E, rfl, hE, hb6, hE0⟩
  have hC := hC.below hb6
  have hF := hF.below hb6 hF.lt
  have hY := hY.below hb6 hY.lt
  have hb6 := hb5.trans (hb6.mono hb5.size)
  clear hb5 hE0 HK1 hl1
  go_wp2_with fail
  refine (HK.out _ (hl.below hb6)).mono ?_
  rintro e w7 ⟨G, rfl, hG, hb7, hG0⟩
  have hC := hC.below hb7
  have hE := hE.below hb7
  have hF := hF.below hb7 hF.lt
  have hY := hY.below hb7 hY.lt
  have hb7 := hb6.trans (hb7.mono hb6.size)
  clear hb6 hG0 HK hl
  go_wp2_with (first
      | ((with_reducible show wpList _ _ _ (⟨some 80, Op.load 36 (.tmp 9), _, _, _, _⟩ :: _) _ _); refine wp_load_arr rfl (.tmp 9) rfl (w2.heap.size) (f) rfl (hF) ?_))
  refine (HE1.out _ E hE).mono ?_
  rintro e w8 ⟨rfl, hb8⟩
  have hC := hC.below hb8
  have hG := hG.below hb8
  have hF := hF.below hb8 hF.lt
  have hY := hY.below hb8 hY.lt
  have hb8 := hb7.trans (hb8.mono hb7.size)
  clear hb7 hE HE1
  go_wp2_with fail
  refine wp_region_held_drew (S := fun w' => Below w8.heap.size w8 w') (by kernel_rfl) (Below.refl _ _).drew (fun hS => ?_)
  refine wpAnyH_take (i := 0) (oi := ⟨some 82, _, _, _, _, _⟩) (v := .pointer (some ⟨C, 0, none⟩)) rfl (by kernel_rfl) (by kernel_rfl) (by kernel_rfl) (fun _ _ _ h => h) (Or.inl ⟨by kernel_rfl, fun w' hSw => ?_⟩) hS ?_
  · go_simp
  simp only [Act.put, List.setIfInBounds_toArray, List.set_cons_zero, List.set_cons_succ]
  refine wpAnyH_take (i := 1) (oi := ⟨some 83, _, _, _, _, _⟩) (v := .agg (bv (f))) rfl (by kernel_rfl) (by kernel_rfl) (by kernel_rfl) (fun _ _ _ h => h) (yields_arr (by kernel_rfl) (.tmp 9) rfl (w2.heap.size) (f) rfl fun w' h => hF.below h hF.lt) hS ?_
  simp only [Act.put, List.setIfInBounds_toArray, List.set_cons_zero, List.set_cons_succ]
  refine wpAnyH_take (i := 3) (oi := ⟨some 85, _, _, _, _, _⟩) (v := .agg (bv (y))) rfl (by kernel_rfl) (by kernel_rfl) (by kernel_rfl) (fun _ _ _ h => h) (yields_arr (by kernel_rfl) (.tmp 10) rfl (w4.heap.size) (y) rfl fun w' h => hY.below h hY.lt) hS ?_
  simp only [Act.put, List.setIfInBounds_toArray, List.set_cons_zero, List.set_cons_succ]
  refine wpAnyH_ready (rs := [2]) (by kernel_rfl) (by simp) ?_
  refine (AllReadyH.cons (o := ⟨some 84, _, _, _, _, _⟩) rfl (fun K hK => ?_) AllReadyH.nil)
  rw [if_pos (by kernel_rfl)]
  go_simp
  refine (HE.out _ C (hC.below hS)).mono ?_
  rintro e v1 ⟨rfl, hq1⟩
  have hqz1 := hq1.size
  refine hK.out _ _ (hS.trans (hq1.mono (by first | exact hS.size | (have := hS.size; simp at this ⊢; omega)))) (fun hS => ?_)
  clear hK K
  refine wpAnyH_take (i := 4) (oi := ⟨some 86, _, _, _, _, _⟩) (v := .bool true) rfl (by kernel_rfl) (by kernel_rfl) (by kernel_rfl) (fun _ _ _ h => h) (yields_same (by kernel_rfl) (.tmp 84) (.tmp 85) rfl (y) rfl rfl) hS ?_
  simp only [Act.put, List.setIfInBounds_toArray, List.set_cons_zero, List.set_cons_succ]
  refine wpAnyH_take (i := 5) (oi := ⟨some 87, _, _, _, _, _⟩) (v := .bool true) rfl (by kernel_rfl) (by kernel_rfl) (by kernel_rfl) (fun _ _ _ h => h) (Or.inl ⟨by kernel_rfl, fun w' hSw => ?_⟩) hS ?_
  · go_simp
  simp only [Act.put, List.setIfInBounds_toArray, List.set_cons_zero, List.set_cons_succ]
  refine wpAnyH_take (i := 6) (oi := ⟨some 88, _, _, _, _, _⟩) (v := .pointer (some ⟨G, 0, none⟩)) rfl (by kernel_rfl) (by kernel_rfl) (by kernel_rfl) (fun _ _ _ h => h) (Or.inl ⟨by kernel_rfl, fun w' hSw => ?_⟩) hS ?_
  · go_simp
  simp only [Act.put, List.setIfInBounds_toArray, List.set_cons_zero, List.set_cons_succ]
  refine wpAnyH_take (i := 7) (oi := ⟨some 89, _, _, _, _, _⟩) (v := .agg (bv (f))) rfl (by kernel_rfl) (by kernel_rfl) (by kernel_rfl) (fun _ _ _ h => h) (yields_arr (by kernel_rfl) (.tmp 9) rfl (w2.heap.size) (f) rfl fun w' h => hF.below h hF.lt) hS ?_
  simp only [Act.put, List.setIfInBounds_toArray, List.set_cons_zero, List.set_cons_succ]
  refine wpAnyH_take (i := 9) (oi := ⟨some 91, _, _, _, _, _⟩) (v := .agg (bv (y))) rfl (by kernel_rfl) (by kernel_rfl) (by kernel_rfl) (fun _ _ _ h => h) (yields_arr (by kernel_rfl) (.tmp 10) rfl (w4.heap.size) (y) rfl fun w' h => hY.below h hY.lt) hS ?_
  simp only [Act.put, List.setIfInBounds_toArray, List.set_cons_zero, List.set_cons_succ]
  refine wpAnyH_ready (rs := [8]) (by kernel_rfl) (by simp) ?_
  refine (AllReadyH.cons (o := ⟨some 90, _, _, _, _, _⟩) rfl (fun K hK => ?_) AllReadyH.nil)
  rw [if_pos (by kernel_rfl)]
  go_simp
  refine (HE.out _ G (hG.below hS)).mono ?_
  rintro e v2 ⟨rfl, hq2⟩
  have hqz2 := hq2.size
  refine hK.out _ _ (hS.trans (hq2.mono (by first | exact hS.size | (have := hS.size; simp at this ⊢; omega)))) (fun hS => ?_)
  clear hK K
  refine wpAnyH_take (i := 10) (oi := ⟨some 92, _, _, _, _, _⟩) (v := .bool true) rfl (by kernel_rfl) (by kernel_rfl) (by kernel_rfl) (fun _ _ _ h => h) (yields_same (by kernel_rfl) (.tmp 90) (.tmp 91) rfl (y) rfl rfl) hS ?_
  simp only [Act.put, List.setIfInBounds_toArray, List.set_cons_zero, List.set_cons_succ]
  refine wpAnyH_take (i := 11) (oi := ⟨some 93, _, _, _, _, _⟩) (v := .bool true) rfl (by kernel_rfl) (by kernel_rfl) (by kernel_rfl) (fun _ _ _ h => h) (Or.inl ⟨by kernel_rfl, fun w' hSw => ?_⟩) hS ?_
  · go_simp
  simp only [Act.put, List.setIfInBounds_toArray, List.set_cons_zero, List.set_cons_succ]
  refine wpAnyH_take (i := 12) (oi := ⟨some 94, _, _, _, _, _⟩) (v := .bool true) rfl (by kernel_rfl) (by kernel_rfl) (by kernel_rfl) (fun _ _ _ h => h) (Or.inl ⟨by kernel_rfl, fun w' hSw => ?_⟩) hS ?_
  · go_simp
  simp only [Act.put, List.setIfInBounds_toArray, List.set_cons_zero, List.set_cons_succ]
  refine wpAnyH_take (i := 13) (oi := ⟨some 95, _, _, _, _, _⟩) (v := .pointer (some ⟨G, 0, none⟩)) rfl (by kernel_rfl) (by kernel_rfl) (by kernel_rfl) (fun _ _ _ h => h) (Or.inl ⟨by kernel_rfl, fun w' hSw => ?_⟩) hS ?_
  · go_simp
  simp only [Act.put, List.setIfInBounds_toArray, List.set_cons_zero, List.set_cons_succ]
  refine wpAnyH_take (i := 14) (oi := ⟨some 96, _, _, _, _, _⟩) (v := .agg (bv (y))) rfl (by kernel_rfl) (by kernel_rfl) (by kernel_rfl) (fun _ _ _ h => h) (yields_arr (by kernel_rfl) (.tmp 10) rfl (w4.heap.size) (y) rfl fun w' h => hY.below h hY.lt) hS ?_
  simp only [Act.put, List.setIfInBounds_toArray, List.set_cons_zero, List.set_cons_succ]
  refine wpAnyH_take (i := 16) (oi := ⟨some 98, _, _, _, _, _⟩) (v := .agg (bv (f))) rfl (by kernel_rfl) (by kernel_rfl) (by kernel_rfl) (fun _ _ _ h => h) (yields_arr (by kernel_rfl) (.tmp 9) rfl (w2.heap.size) (f) rfl fun w' h => hF.below h hF.lt) hS ?_
  simp only [Act.put, List.setIfInBounds_toArray, List.set_cons_zero, List.set_cons_succ]
  refine wpAnyH_ready (rs := [15]) (by kernel_rfl) (by simp) ?_
  refine (AllReadyH.cons (o := ⟨some 97, _, _, _, _, _⟩) rfl (fun K hK => ?_) AllReadyH.nil)
  rw [if_pos (by kernel_rfl)]
  go_simp
  refine (HD.out _ G (hG.below hS)).mono ?_
  rintro e v3 ⟨rfl, hq3⟩
  have hqz3 := hq3.size
  refine hK.out _ _ (hS.trans (hq3.mono (by first | exact hS.size | (have := hS.size; simp at this ⊢; omega)))) (fun hS => ?_)
  clear hK K
  refine wpAnyH_take (i := 17) (oi := ⟨some 99, _, _, _, _, _⟩) (v := .bool true) rfl (by kernel_rfl) (by kernel_rfl) (by kernel_rfl) (fun _ _ _ h => h) (yields_same (by kernel_rfl) (.tmp 97) (.tmp 98) rfl (f) rfl rfl) hS ?_
  simp only [Act.put, List.setIfInBounds_toArray, List.set_cons_zero, List.set_cons_succ]
  refine wpAnyH_take (i := 18) (oi := ⟨some 100, _, _, _, _, _⟩) (v := .bool true) rfl (by kernel_rfl) (by kernel_rfl) (by kernel_rfl) (fun _ _ _ h => h) (Or.inl ⟨by kernel_rfl, fun w' hSw => ?_⟩) hS ?_
  · go_simp
  simp only [Act.put, List.setIfInBounds_toArray, List.set_cons_zero, List.set_cons_succ]
  refine wpAnyH_take (i := 19) (oi := ⟨some 101, _, _, _, _, _⟩) (v := .bool true) rfl (by kernel_rfl) (by kernel_rfl) (by kernel_rfl) (fun _ _ _ h => h) (Or.inl ⟨by kernel_rfl, fun w' hSw => ?_⟩) hS ?_
  · go_simp
  simp only [Act.put, List.setIfInBounds_toArray, List.set_cons_zero, List.set_cons_succ]
  refine wpAnyH_ready (rs := [20]) (by kernel_rfl) (by simp) ?_
  refine (AllReadyH.cons (o := ⟨some 102, _, _, _, _, _⟩) rfl (fun K hK => ?_) AllReadyH.nil)
  rw [if_pos (by kernel_rfl)]
  go_simp
  refine (awake6 _).mono ?_
  rintro e v4 ⟨rfl, hq4⟩
  have hqz4 := hq4.size
  refine hK.out _ _ (hS.trans (hq4.mono (by first | exact hS.size | (have := hS.size; simp at this ⊢; omega)))) (fun hS => ?_)
  clear hK K
  refine wpAnyH_take (i := 21) (oi := ⟨some 103, _, _, _, _, _⟩) (v := .bool true) rfl (by kernel_rfl) (by kernel_rfl) (by kernel_rfl) (fun _ _ _ h => h) (Or.inl ⟨by kernel_rfl, fun w' hSw => ?_⟩) hS ?_
  · go_simp
  simp only [Act.put, List.setIfInBounds_toArray, List.set_cons_zero, List.set_cons_succ]
  refine wpAnyH_take (i := 22) (oi := ⟨some 6, _, _, _, _, _⟩) (v := .bool true) rfl (by kernel_rfl) (by kernel_rfl) (by kernel_rfl) (fun _ _ _ h => h) (Or.inl ⟨by kernel_rfl, fun w' hSw => ?_⟩) hS ?_
  · go_simp
  simp only [Act.put, List.setIfInBounds_toArray, List.set_cons_zero, List.set_cons_succ]
  refine wpAnyH_done (by kernel_rfl) ?_ _
  go_wp2_with fail
  go_ret
  exact ⟨rfl, hb8.trans (hS.mono hb8.size)⟩
set_option maxRecDepth 100000 in
set_option maxHeartbeats 4000000 in
theorem apart6_in16_32 (A : Option Addr) (n c : Nat) (l : List Nat) (B : Option Addr) (n1 c1 : Nat) (l1 : List Nat) (D : Option Addr) (n2 c2 : Nat) (l2 : List Nat) (w : World) (hl : Bytes w A n l) (hc : n ≤ c) (hl1 : Bytes w B n1 l1) (hc1 : n1 ≤ c1) (hl2 : Bytes w D n2 l2)
    (hn : MayK n) (hn1 : MayK n1) (ap : ((n : Int) != 16) = false) (bp : ((n1 : Int) != 16) = true) (bq : ((n1 : Int) != 32) = false) (h2 : n2 ≤ 100) :
    Calls Try.prog 20 #[.slice A n c, .slice B n1 c1, .slice D n2 c2] w fun e w' => e = .returned (.bool true) ∧ Below w.heap.size w w' := by
  have hk : MayK l.length := by rw [hl.1]; exact hn
  have hk1 : MayK l1.length := by rw [hl1.1]; exact hn1
  have HC := Box.mk (fun w hl => block_walk D n2 c2 l2 w hl)
  have HK := Box.mk (fun w hl => new_any A n c l w hl hc hn)
  have HK1 := Box.mk (fun w hl => new_any B n1 c1 l1 w hl hc1 hn1)
  have Hf : Box (∀ i, ofL l2 i < 256) := ⟨ofL_lt hl2.2.2.1⟩
  revert HC Hf
  generalize ofL l2 = f
  intro HC Hf
  have HE : Box (∀ (w : World) (C : Nat), Ciph w C (words l) → Calls Try.prog 61 #[.pointer (some ⟨C, 0, none⟩), .agg (bv f)] w fun e w' => e = .returned (.agg (bv (encK l f))) ∧ Below w.heap.size w w') := ⟨fun w C h => encrypt_key C l f hk Hf.out w h⟩
  have HE1 : Box (∀ (w : World) (C : Nat), Ciph w C (words l1) → Calls Try.prog 61 #[.pointer (some ⟨C, 0, none⟩), .agg (bv f)] w fun e w' => e = .returned (.agg (bv (encK l1 f))) ∧ Below w.heap.size w w') := ⟨fun w C h => encrypt_key C l1 f hk1 Hf.out w h⟩
  have HD : Box (∀ (w : World) (C : Nat), Ciph w C (words l) → Calls Try.prog 60 #[.pointer (some ⟨C, 0, none⟩), .agg (bv (encK l f))] w fun e w' => e = .returned (.agg (bv f)) ∧ Below w.heap.size w w') := ⟨fun w C h => by have h := decrypt_key C l (encK l f) hk (encK_lt Hf.out) w h; rwa [dec_encK Hf.out] at h⟩
  clear hk hk1 Hf
  revert HE HD
  generalize encK l f = y
  intro HE HD
  go_enter Try.func20, Try.ntmps20
  go_wp2_with fail
  refine (HK.out _ hl).mono ?_
  rintro e w1 ⟨C, rfl, hC, hb1, hC0⟩
  go_wp2_with fail
  refine (HC.out _ (hl2.below hb1)).mono ?_
  rintro e w2 ⟨rfl, hb2⟩
  have hC := hC.below hb2
  have hb2 := hb1.trans (hb2.mono hb1.size)
  clear hb1 hC0 HC hl2
  go_wp2_with (first
      | ((with_reducible show wpList _ _ _ (⟨_, Op.store 36 (.tmp 9) (.tmp 51), _, _, _, _⟩ :: _) _ _); refine wp_store_arr rfl (.tmp 9) (.tmp 51) rfl (w2.heap.size) (fun _ => 0) (f) rfl rfl (Arr.zero _ _ rfl) ?_)
      | ((with_reducible show wpList _ _ _ (⟨some 53, Op.load 36 (.tmp 9), _, _, _, _⟩ :: _) _ _); refine wp_load_arr rfl (.tmp 9) rfl (w2.heap.size) (f) rfl ((Arr.zero _ _ rfl).setRow) ?_))
  have hF : Arr ((w2.alloc (.cells #[.int .u8 0, .int .u8 0, .int .u8 0, .int .u8 0, .int .u8 0, .int .u8 0, .int .u8 0, .int .u8 0, .int .u8 0, .int .u8 0, .int .u8 0, .int .u8 0, .int .u8 0, .int .u8 0, .int .u8 0, .int .u8 0] 36)).setRow w2.heap.size (bv f)) w2.heap.size f := (Arr.zero _ _ rfl).setRow
  have hbelW : Below w2.heap.size w2 ((w2.alloc (.cells #[.int .u8 0, .int .u8 0, .int .u8 0, .int .u8 0, .int .u8 0, .int .u8 0, .int .u8 0, .int .u8 0, .int .u8 0, .int .u8 0, .int .u8 0, .int .u8 0, .int .u8 0, .int .u8 0, .int .u8 0, .int .u8 0] 36)).setRow w2.heap.size (bv f)) := below_setRow ((Below.refl _ _).alloc (Nat.le_refl _) _) (Nat.le_refl _) _
  revert hF hbelW
  generalize ((w2.alloc (.cells #[.int .u8 0, .int .u8 0, .int .u8 0, .int .u8 0, .int .u8 0, .int .u8 0, .int .u8 0, .int .u8 0, .int .u8 0, .int .u8 0, .int .u8 0, .int .u8 0, .int .u8 0, .int .u8 0, .int .u8 0, .int .u8 0] 36)).setRow w2.heap.size (bv f)) = w3
  intro hF hbelW
  have hC := hC.below hbelW
  have hb3 := hb2.trans (hbelW.mono hb2.size)
  clear hbelW
  refine (HE.out _ C hC).mono ?_
  rintro e w4 ⟨rfl, hb4⟩
  have hC := hC.below hb4
  have hF := hF.below hb4 hF.lt
  have hb4 := hb3.trans (hb4.mono hb3.size)
  clear hb3
  go_wp2_with (first
      | ((with_reducible show wpList _ _ _ (⟨_, Op.store 36 (.tmp 10) (.tmp 54), _, _, _, _⟩ :: _) _ _); refine wp_store_arr rfl (.tmp 10) (.tmp 54) rfl (w4.heap.size) (fun _ => 0) (y) rfl rfl (Arr.zero _ _ rfl) ?_))
  have hY : Arr ((w4.alloc (.cells #[.int .u8 0, .int .u8 0, .int .u8 0, .int .u8 0, .int .u8 0, .int .u8 0, .int .u8 0, .int .u8 0, .int .u8 0, .int .u8 0, .int .u8 0, .int .u8 0, .int .u8 0, .int .u8 0, .int .u8 0, .int .u8 0] 36)).setRow w4.heap.size (bv y)) w4.heap.size y := (Arr.zero _ _ rfl).setRow
  have hF : Arr ((w4.alloc (.cells #[.int .u8 0, .int .u8 0, .int .u8 0, .int .u8 0, .int .u8 0, .int .u8 0, .int .u8 0, .int .u8 0, .int .u8 0, .int .u8 0, .int .u8 0, .int .u8 0, .int .u8 0, .int .u8 0, .int .u8 0, .int .u8 0] 36)).setRow w4.heap.size (bv y)) w2.heap.size f := (hF.alloc _).setRow_far (by have := hF.lt; omega)
  have hbelW : Below w4.heap.size w4 ((w4.alloc (.cells #[.int .u8 0, .int .u8 0, .int .u8 0, .int .u8 0, .int .u8 0, .int .u8 0, .int .u8 0, .int .u8 0, .int .u8 0, .int .u8 0, .int .u8 0, .int .u8 0, .int .u8 0, .int .u8 0, .int .u8 0, .int .u8 0] 36)).setRow w4.heap.size (bv y)) := below_setRow ((Below.refl _ _).alloc (Nat.le_refl _) _) (Nat.le_refl _) _
  revert hF hY hbelW
  generalize ((w4.alloc (.cells #[.int .u8 0, .int .u8 0, .int .u8 0, .int .u8 0, .int .u8 0, .int .u8 0, .int .u8 0, .int .u8 0, .int .u8 0, .int .u8 0, .int .u8 0, .int .u8 0, .int .u8 0, .int .u8 0, .int .u8 0, .int .u8 0] 36)).setRow w4.heap.size (bv y)) = w5
  intro hY hF hbelW
  have hC := hC.below hbelW
  have hb5 := hb4.trans (hbelW.mono hb4.size)
  clear hbelW hb4
  refine (HK1.out _ (hl1.below hb5)).mono ?_
  rintro e w6 ⟨E, rfl, hE, hb6, hE0⟩
  have hC := hC.below hb6
  have hF := hF.below hb6 hF.lt
  have hY := hY.below hb6 hY.lt
  have hb6 := hb5.trans (hb6.mono hb5.size)
  clear hb5 hE0 HK1 hl1
  go_wp2_with fail
  refine (HK.out _ (hl.below hb6)).mono ?_
  rintro e w7 ⟨G, rfl, hG, hb7, hG0⟩
  have hC := hC.below hb7
  have hE := hE.below hb7
  have hF := hF.below hb7 hF.lt
  have hY := hY.below hb7 hY.lt
  have hb7 := hb6.trans (hb7.mono hb6.size)
  clear hb6 hG0 HK hl
  go_wp2_with (first
      | ((with_reducible show wpList _ _ _ (⟨some 80, Op.load 36 (.tmp 9), _, _, _, _⟩ :: _) _ _); refine wp_load_arr rfl (.tmp 9) rfl (w2.heap.size) (f) rfl (hF) ?_))
  refine (HE1.out _ E hE).mono ?_
  rintro e w8 ⟨rfl, hb8⟩
  have hC := hC.below hb8
  have hG := hG.below hb8
  have hF := hF.below hb8 hF.lt
  have hY := hY.below hb8 hY.lt
  have hb8 := hb7.trans (hb8.mono hb7.size)
  clear hb7 hE HE1
  go_wp2_with fail
  refine wp_region_held_drew (S := fun w' => Below w8.heap.size w8 w') (by kernel_rfl) (Below.refl _ _).drew (fun hS => ?_)
  refine wpAnyH_take (i := 0) (oi := ⟨some 82, _, _, _, _, _⟩) (v := .pointer (some ⟨C, 0, none⟩)) rfl (by kernel_rfl) (by kernel_rfl) (by kernel_rfl) (fun _ _ _ h => h) (Or.inl ⟨by kernel_rfl, fun w' hSw => ?_⟩) hS ?_
  · go_simp
  simp only [Act.put, List.setIfInBounds_toArray, List.set_cons_zero, List.set_cons_succ]
  refine wpAnyH_take (i := 1) (oi := ⟨some 83, _, _, _, _, _⟩) (v := .agg (bv (f))) rfl (by kernel_rfl) (by kernel_rfl) (by kernel_rfl) (fun _ _ _ h => h) (yields_arr (by kernel_rfl) (.tmp 9) rfl (w2.heap.size) (f) rfl fun w' h => hF.below h hF.lt) hS ?_
  simp only [Act.put, List.setIfInBounds_toArray, List.set_cons_zero, List.set_cons_succ]
  refine wpAnyH_take (i := 3) (oi := ⟨some 85, _, _, _, _, _⟩) (v := .agg (bv (y))) rfl (by kernel_rfl) (by kernel_rfl) (by kernel_rfl) (fun _ _ _ h => h) (yields_arr (by kernel_rfl) (.tmp 10) rfl (w4.heap.size) (y) rfl fun w' h => hY.below h hY.lt) hS ?_
  simp only [Act.put, List.setIfInBounds_toArray, List.set_cons_zero, List.set_cons_succ]
  refine wpAnyH_ready (rs := [2]) (by kernel_rfl) (by simp) ?_
  refine (AllReadyH.cons (o := ⟨some 84, _, _, _, _, _⟩) rfl (fun K hK => ?_) AllReadyH.nil)
  rw [if_pos (by kernel_rfl)]
  go_simp
  refine (HE.out _ C (hC.below hS)).mono ?_
  rintro e v1 ⟨rfl, hq1⟩
  have hqz1 := hq1.size
  refine hK.out _ _ (hS.trans (hq1.mono (by first | exact hS.size | (have := hS.size; simp at this ⊢; omega)))) (fun hS => ?_)
  clear hK K
  refine wpAnyH_take (i := 4) (oi := ⟨some 86, _, _, _, _, _⟩) (v := .bool true) rfl (by kernel_rfl) (by kernel_rfl) (by kernel_rfl) (fun _ _ _ h => h) (yields_same (by kernel_rfl) (.tmp 84) (.tmp 85) rfl (y) rfl rfl) hS ?_
  simp only [Act.put, List.setIfInBounds_toArray, List.set_cons_zero, List.set_cons_succ]
  refine wpAnyH_take (i := 5) (oi := ⟨some 87, _, _, _, _, _⟩) (v := .bool true) rfl (by kernel_rfl) (by kernel_rfl) (by kernel_rfl) (fun _ _ _ h => h) (Or.inl ⟨by kernel_rfl, fun w' hSw => ?_⟩) hS ?_
  · go_simp
  simp only [Act.put, List.setIfInBounds_toArray, List.set_cons_zero, List.set_cons_succ]
  refine wpAnyH_take (i := 6) (oi := ⟨some 88, _, _, _, _, _⟩) (v := .pointer (some ⟨G, 0, none⟩)) rfl (by kernel_rfl) (by kernel_rfl) (by kernel_rfl) (fun _ _ _ h => h) (Or.inl ⟨by kernel_rfl, fun w' hSw => ?_⟩) hS ?_
  · go_simp
  simp only [Act.put, List.setIfInBounds_toArray, List.set_cons_zero, List.set_cons_succ]
  refine wpAnyH_take (i := 7) (oi := ⟨some 89, _, _, _, _, _⟩) (v := .agg (bv (f))) rfl (by kernel_rfl) (by kernel_rfl) (by kernel_rfl) (fun _ _ _ h => h) (yields_arr (by kernel_rfl) (.tmp 9) rfl (w2.heap.size) (f) rfl fun w' h => hF.below h hF.lt) hS ?_
  simp only [Act.put, List.setIfInBounds_toArray, List.set_cons_zero, List.set_cons_succ]
  refine wpAnyH_take (i := 9) (oi := ⟨some 91, _, _, _, _, _⟩) (v := .agg (bv (y))) rfl (by kernel_rfl) (by kernel_rfl) (by kernel_rfl) (fun _ _ _ h => h) (yields_arr (by kernel_rfl) (.tmp 10) rfl (w4.heap.size) (y) rfl fun w' h => hY.below h hY.lt) hS ?_
  simp only [Act.put, List.setIfInBounds_toArray, List.set_cons_zero, List.set_cons_succ]
  refine wpAnyH_ready (rs := [8]) (by kernel_rfl) (by simp) ?_
  refine (AllReadyH.cons (o := ⟨some 90, _, _, _, _, _⟩) rfl (fun K hK => ?_) AllReadyH.nil)
  rw [if_pos (by kernel_rfl)]
  go_simp
  refine (HE.out _ G (hG.below hS)).mono ?_
  rintro e v2 ⟨rfl, hq2⟩
  have hqz2 := hq2.size
  refine hK.out _ _ (hS.trans (hq2.mono (by first | exact hS.size | (have := hS.size; simp at this ⊢; omega)))) (fun hS => ?_)
  clear hK K
  refine wpAnyH_take (i := 10) (oi := ⟨some 92, _, _, _, _, _⟩) (v := .bool true) rfl (by kernel_rfl) (by kernel_rfl) (by kernel_rfl) (fun _ _ _ h => h) (yields_same (by kernel_rfl) (.tmp 90) (.tmp 91) rfl (y) rfl rfl) hS ?_
  simp only [Act.put, List.setIfInBounds_toArray, List.set_cons_zero, List.set_cons_succ]
  refine wpAnyH_take (i := 11) (oi := ⟨some 93, _, _, _, _, _⟩) (v := .bool true) rfl (by kernel_rfl) (by kernel_rfl) (by kernel_rfl) (fun _ _ _ h => h) (Or.inl ⟨by kernel_rfl, fun w' hSw => ?_⟩) hS ?_
  · go_simp
  simp only [Act.put, List.setIfInBounds_toArray, List.set_cons_zero, List.set_cons_succ]
  refine wpAnyH_take (i := 12) (oi := ⟨some 94, _, _, _, _, _⟩) (v := .bool true) rfl (by kernel_rfl) (by kernel_rfl) (by kernel_rfl) (fun _ _ _ h => h) (Or.inl ⟨by kernel_rfl, fun w' hSw => ?_⟩) hS ?_
  · go_simp
  simp only [Act.put, List.setIfInBounds_toArray, List.set_cons_zero, List.set_cons_succ]
  refine wpAnyH_take (i := 13) (oi := ⟨some 95, _, _, _, _, _⟩) (v := .pointer (some ⟨G, 0, none⟩)) rfl (by kernel_rfl) (by kernel_rfl) (by kernel_rfl) (fun _ _ _ h => h) (Or.inl ⟨by kernel_rfl, fun w' hSw => ?_⟩) hS ?_
  · go_simp
  simp only [Act.put, List.setIfInBounds_toArray, List.set_cons_zero, List.set_cons_succ]
  refine wpAnyH_take (i := 14) (oi := ⟨some 96, _, _, _, _, _⟩) (v := .agg (bv (y))) rfl (by kernel_rfl) (by kernel_rfl) (by kernel_rfl) (fun _ _ _ h => h) (yields_arr (by kernel_rfl) (.tmp 10) rfl (w4.heap.size) (y) rfl fun w' h => hY.below h hY.lt) hS ?_
  simp only [Act.put, List.setIfInBounds_toArray, List.set_cons_zero, List.set_cons_succ]
  refine wpAnyH_take (i := 16) (oi := ⟨some 98, _, _, _, _, _⟩) (v := .agg (bv (f))) rfl (by kernel_rfl) (by kernel_rfl) (by kernel_rfl) (fun _ _ _ h => h) (yields_arr (by kernel_rfl) (.tmp 9) rfl (w2.heap.size) (f) rfl fun w' h => hF.below h hF.lt) hS ?_
  simp only [Act.put, List.setIfInBounds_toArray, List.set_cons_zero, List.set_cons_succ]
  refine wpAnyH_ready (rs := [15]) (by kernel_rfl) (by simp) ?_
  refine (AllReadyH.cons (o := ⟨some 97, _, _, _, _, _⟩) rfl (fun K hK => ?_) AllReadyH.nil)
  rw [if_pos (by kernel_rfl)]
  go_simp
  refine (HD.out _ G (hG.below hS)).mono ?_
  rintro e v3 ⟨rfl, hq3⟩
  have hqz3 := hq3.size
  refine hK.out _ _ (hS.trans (hq3.mono (by first | exact hS.size | (have := hS.size; simp at this ⊢; omega)))) (fun hS => ?_)
  clear hK K
  refine wpAnyH_take (i := 17) (oi := ⟨some 99, _, _, _, _, _⟩) (v := .bool true) rfl (by kernel_rfl) (by kernel_rfl) (by kernel_rfl) (fun _ _ _ h => h) (yields_same (by kernel_rfl) (.tmp 97) (.tmp 98) rfl (f) rfl rfl) hS ?_
  simp only [Act.put, List.setIfInBounds_toArray, List.set_cons_zero, List.set_cons_succ]
  refine wpAnyH_take (i := 18) (oi := ⟨some 100, _, _, _, _, _⟩) (v := .bool true) rfl (by kernel_rfl) (by kernel_rfl) (by kernel_rfl) (fun _ _ _ h => h) (Or.inl ⟨by kernel_rfl, fun w' hSw => ?_⟩) hS ?_
  · go_simp
  simp only [Act.put, List.setIfInBounds_toArray, List.set_cons_zero, List.set_cons_succ]
  refine wpAnyH_take (i := 19) (oi := ⟨some 101, _, _, _, _, _⟩) (v := .bool true) rfl (by kernel_rfl) (by kernel_rfl) (by kernel_rfl) (fun _ _ _ h => h) (Or.inl ⟨by kernel_rfl, fun w' hSw => ?_⟩) hS ?_
  · go_simp
  simp only [Act.put, List.setIfInBounds_toArray, List.set_cons_zero, List.set_cons_succ]
  refine wpAnyH_ready (rs := [20]) (by kernel_rfl) (by simp) ?_
  refine (AllReadyH.cons (o := ⟨some 102, _, _, _, _, _⟩) rfl (fun K hK => ?_) AllReadyH.nil)
  rw [if_pos (by kernel_rfl)]
  go_simp
  refine (awake6 _).mono ?_
  rintro e v4 ⟨rfl, hq4⟩
  have hqz4 := hq4.size
  refine hK.out _ _ (hS.trans (hq4.mono (by first | exact hS.size | (have := hS.size; simp at this ⊢; omega)))) (fun hS => ?_)
  clear hK K
  refine wpAnyH_take (i := 21) (oi := ⟨some 103, _, _, _, _, _⟩) (v := .bool true) rfl (by kernel_rfl) (by kernel_rfl) (by kernel_rfl) (fun _ _ _ h => h) (Or.inl ⟨by kernel_rfl, fun w' hSw => ?_⟩) hS ?_
  · go_simp
  simp only [Act.put, List.setIfInBounds_toArray, List.set_cons_zero, List.set_cons_succ]
  refine wpAnyH_take (i := 22) (oi := ⟨some 6, _, _, _, _, _⟩) (v := .bool true) rfl (by kernel_rfl) (by kernel_rfl) (by kernel_rfl) (fun _ _ _ h => h) (Or.inl ⟨by kernel_rfl, fun w' hSw => ?_⟩) hS ?_
  · go_simp
  simp only [Act.put, List.setIfInBounds_toArray, List.set_cons_zero, List.set_cons_succ]
  refine wpAnyH_done (by kernel_rfl) ?_ _
  go_wp2_with fail
  go_ret
  exact ⟨rfl, hb8.trans (hS.mono hb8.size)⟩
set_option maxRecDepth 100000 in
set_option maxHeartbeats 4000000 in
theorem apart6_in32_16 (A : Option Addr) (n c : Nat) (l : List Nat) (B : Option Addr) (n1 c1 : Nat) (l1 : List Nat) (D : Option Addr) (n2 c2 : Nat) (l2 : List Nat) (w : World) (hl : Bytes w A n l) (hc : n ≤ c) (hl1 : Bytes w B n1 l1) (hc1 : n1 ≤ c1) (hl2 : Bytes w D n2 l2)
    (hn : MayK n) (hn1 : MayK n1) (ap : ((n : Int) != 16) = true) (aq : ((n : Int) != 32) = false) (bp : ((n1 : Int) != 16) = false) (h2 : n2 ≤ 100) :
    Calls Try.prog 20 #[.slice A n c, .slice B n1 c1, .slice D n2 c2] w fun e w' => e = .returned (.bool true) ∧ Below w.heap.size w w' := by
  have hk : MayK l.length := by rw [hl.1]; exact hn
  have hk1 : MayK l1.length := by rw [hl1.1]; exact hn1
  have HC := Box.mk (fun w hl => block_walk D n2 c2 l2 w hl)
  have HK := Box.mk (fun w hl => new_any A n c l w hl hc hn)
  have HK1 := Box.mk (fun w hl => new_any B n1 c1 l1 w hl hc1 hn1)
  have Hf : Box (∀ i, ofL l2 i < 256) := ⟨ofL_lt hl2.2.2.1⟩
  revert HC Hf
  generalize ofL l2 = f
  intro HC Hf
  have HE : Box (∀ (w : World) (C : Nat), Ciph w C (words l) → Calls Try.prog 61 #[.pointer (some ⟨C, 0, none⟩), .agg (bv f)] w fun e w' => e = .returned (.agg (bv (encK l f))) ∧ Below w.heap.size w w') := ⟨fun w C h => encrypt_key C l f hk Hf.out w h⟩
  have HE1 : Box (∀ (w : World) (C : Nat), Ciph w C (words l1) → Calls Try.prog 61 #[.pointer (some ⟨C, 0, none⟩), .agg (bv f)] w fun e w' => e = .returned (.agg (bv (encK l1 f))) ∧ Below w.heap.size w w') := ⟨fun w C h => encrypt_key C l1 f hk1 Hf.out w h⟩
  have HD : Box (∀ (w : World) (C : Nat), Ciph w C (words l) → Calls Try.prog 60 #[.pointer (some ⟨C, 0, none⟩), .agg (bv (encK l f))] w fun e w' => e = .returned (.agg (bv f)) ∧ Below w.heap.size w w') := ⟨fun w C h => by have h := decrypt_key C l (encK l f) hk (encK_lt Hf.out) w h; rwa [dec_encK Hf.out] at h⟩
  clear hk hk1 Hf
  revert HE HD
  generalize encK l f = y
  intro HE HD
  go_enter Try.func20, Try.ntmps20
  go_wp2_with fail
  refine (HK.out _ hl).mono ?_
  rintro e w1 ⟨C, rfl, hC, hb1, hC0⟩
  go_wp2_with fail
  refine (HC.out _ (hl2.below hb1)).mono ?_
  rintro e w2 ⟨rfl, hb2⟩
  have hC := hC.below hb2
  have hb2 := hb1.trans (hb2.mono hb1.size)
  clear hb1 hC0 HC hl2
  go_wp2_with (first
      | ((with_reducible show wpList _ _ _ (⟨_, Op.store 36 (.tmp 9) (.tmp 51), _, _, _, _⟩ :: _) _ _); refine wp_store_arr rfl (.tmp 9) (.tmp 51) rfl (w2.heap.size) (fun _ => 0) (f) rfl rfl (Arr.zero _ _ rfl) ?_)
      | ((with_reducible show wpList _ _ _ (⟨some 53, Op.load 36 (.tmp 9), _, _, _, _⟩ :: _) _ _); refine wp_load_arr rfl (.tmp 9) rfl (w2.heap.size) (f) rfl ((Arr.zero _ _ rfl).setRow) ?_))
  have hF : Arr ((w2.alloc (.cells #[.int .u8 0, .int .u8 0, .int .u8 0, .int .u8 0, .int .u8 0, .int .u8 0, .int .u8 0, .int .u8 0, .int .u8 0, .int .u8 0, .int .u8 0, .int .u8 0, .int .u8 0, .int .u8 0, .int .u8 0, .int .u8 0] 36)).setRow w2.heap.size (bv f)) w2.heap.size f := (Arr.zero _ _ rfl).setRow
  have hbelW : Below w2.heap.size w2 ((w2.alloc (.cells #[.int .u8 0, .int .u8 0, .int .u8 0, .int .u8 0, .int .u8 0, .int .u8 0, .int .u8 0, .int .u8 0, .int .u8 0, .int .u8 0, .int .u8 0, .int .u8 0, .int .u8 0, .int .u8 0, .int .u8 0, .int .u8 0] 36)).setRow w2.heap.size (bv f)) := below_setRow ((Below.refl _ _).alloc (Nat.le_refl _) _) (Nat.le_refl _) _
  revert hF hbelW
  generalize ((w2.alloc (.cells #[.int .u8 0, .int .u8 0, .int .u8 0, .int .u8 0, .int .u8 0, .int .u8 0, .int .u8 0, .int .u8 0, .int .u8 0, .int .u8 0, .int .u8 0, .int .u8 0, .int .u8 0, .int .u8 0, .int .u8 0, .int .u8 0] 36)).setRow w2.heap.size (bv f)) = w3
  intro hF hbelW
  have hC := hC.below hbelW
  have hb3 := hb2.trans (hbelW.mono hb2.size)
  clear hbelW
  refine (HE.out _ C hC).mono ?_
  rintro e w4 ⟨rfl, hb4⟩
  have hC := hC.below hb4
  have hF := hF.below hb4 hF.lt
  have hb4 := hb3.trans (hb4.mono hb3.size)
  clear hb3
  go_wp2_with (first
      | ((with_reducible show wpList _ _ _ (⟨_, Op.store 36 (.tmp 10) (.tmp 54), _, _, _, _⟩ :: _) _ _); refine wp_store_arr rfl (.tmp 10) (.tmp 54) rfl (w4.heap.size) (fun _ => 0) (y) rfl rfl (Arr.zero _ _ rfl) ?_))
  have hY : Arr ((w4.alloc (.cells #[.int .u8 0, .int .u8 0, .int .u8 0, .int .u8 0, .int .u8 0, .int .u8 0, .int .u8 0, .int .u8 0, .int .u8 0, .int .u8 0, .int .u8 0, .int .u8 0, .int .u8 0, .int .u8 0, .int .u8 0, .int .u8 0] 36)).setRow w4.heap.size (bv y)) w4.heap.size y := (Arr.zero _ _ rfl).setRow
  have hF : Arr ((w4.alloc (.cells #[.int .u8 0, .int .u8 0, .int .u8 0, .int .u8 0, .int .u8 0, .int .u8 0, .int .u8 0, .int .u8 0, .int .u8 0, .int .u8 0, .int .u8 0, .int .u8 0, .int .u8 0, .int .u8 0, .int .u8 0, .int .u8 0] 36)).setRow w4.heap.size (bv y)) w2.heap.size f := (hF.alloc _).setRow_far (by have := hF.lt; omega)
  have hbelW : Below w4.heap.size w4 ((w4.alloc (.cells #[.int .u8 0, .int .u8 0, .int .u8 0, .int .u8 0, .int .u8 0, .int .u8 0, .int .u8 0, .int .u8 0, .int .u8 0, .int .u8 0, .int .u8 0, .int .u8 0, .int .u8 0, .int .u8 0, .int .u8 0, .int .u8 0] 36)).setRow w4.heap.size (bv y)) := below_setRow ((Below.refl _ _).alloc (Nat.le_refl _) _) (Nat.le_refl _) _
  revert hF hY hbelW
  generalize ((w4.alloc (.cells #[.int .u8 0, .int .u8 0, .int .u8 0, .int .u8 0, .int .u8 0, .int .u8 0, .int .u8 0, .int .u8 0, .int .u8 0, .int .u8 0, .int .u8 0, .int .u8 0, .int .u8 0, .int .u8 0, .int .u8 0, .int .u8 0] 36)).setRow w4.heap.size (bv y)) = w5
  intro hY hF hbelW
  have hC := hC.below hbelW
  have hb5 := hb4.trans (hbelW.mono hb4.size)
  clear hbelW hb4
  refine (HK1.out _ (hl1.below hb5)).mono ?_
  rintro e w6 ⟨E, rfl, hE, hb6, hE0⟩
  have hC := hC.below hb6
  have hF := hF.below hb6 hF.lt
  have hY := hY.below hb6 hY.lt
  have hb6 := hb5.trans (hb6.mono hb5.size)
  clear hb5 hE0 HK1 hl1
  go_wp2_with fail
  refine (HK.out _ (hl.below hb6)).mono ?_
  rintro e w7 ⟨G, rfl, hG, hb7, hG0⟩
  have hC := hC.below hb7
  have hE := hE.below hb7
  have hF := hF.below hb7 hF.lt
  have hY := hY.below hb7 hY.lt
  have hb7 := hb6.trans (hb7.mono hb6.size)
  clear hb6 hG0 HK hl
  go_wp2_with (first
      | ((with_reducible show wpList _ _ _ (⟨some 80, Op.load 36 (.tmp 9), _, _, _, _⟩ :: _) _ _); refine wp_load_arr rfl (.tmp 9) rfl (w2.heap.size) (f) rfl (hF) ?_))
  refine (HE1.out _ E hE).mono ?_
  rintro e w8 ⟨rfl, hb8⟩
  have hC := hC.below hb8
  have hG := hG.below hb8
  have hF := hF.below hb8 hF.lt
  have hY := hY.below hb8 hY.lt
  have hb8 := hb7.trans (hb8.mono hb7.size)
  clear hb7 hE HE1
  go_wp2_with fail
  refine wp_region_held_drew (S := fun w' => Below w8.heap.size w8 w') (by kernel_rfl) (Below.refl _ _).drew (fun hS => ?_)
  refine wpAnyH_take (i := 0) (oi := ⟨some 82, _, _, _, _, _⟩) (v := .pointer (some ⟨C, 0, none⟩)) rfl (by kernel_rfl) (by kernel_rfl) (by kernel_rfl) (fun _ _ _ h => h) (Or.inl ⟨by kernel_rfl, fun w' hSw => ?_⟩) hS ?_
  · go_simp
  simp only [Act.put, List.setIfInBounds_toArray, List.set_cons_zero, List.set_cons_succ]
  refine wpAnyH_take (i := 1) (oi := ⟨some 83, _, _, _, _, _⟩) (v := .agg (bv (f))) rfl (by kernel_rfl) (by kernel_rfl) (by kernel_rfl) (fun _ _ _ h => h) (yields_arr (by kernel_rfl) (.tmp 9) rfl (w2.heap.size) (f) rfl fun w' h => hF.below h hF.lt) hS ?_
  simp only [Act.put, List.setIfInBounds_toArray, List.set_cons_zero, List.set_cons_succ]
  refine wpAnyH_take (i := 3) (oi := ⟨some 85, _, _, _, _, _⟩) (v := .agg (bv (y))) rfl (by kernel_rfl) (by kernel_rfl) (by kernel_rfl) (fun _ _ _ h => h) (yields_arr (by kernel_rfl) (.tmp 10) rfl (w4.heap.size) (y) rfl fun w' h => hY.below h hY.lt) hS ?_
  simp only [Act.put, List.setIfInBounds_toArray, List.set_cons_zero, List.set_cons_succ]
  refine wpAnyH_ready (rs := [2]) (by kernel_rfl) (by simp) ?_
  refine (AllReadyH.cons (o := ⟨some 84, _, _, _, _, _⟩) rfl (fun K hK => ?_) AllReadyH.nil)
  rw [if_pos (by kernel_rfl)]
  go_simp
  refine (HE.out _ C (hC.below hS)).mono ?_
  rintro e v1 ⟨rfl, hq1⟩
  have hqz1 := hq1.size
  refine hK.out _ _ (hS.trans (hq1.mono (by first | exact hS.size | (have := hS.size; simp at this ⊢; omega)))) (fun hS => ?_)
  clear hK K
  refine wpAnyH_take (i := 4) (oi := ⟨some 86, _, _, _, _, _⟩) (v := .bool true) rfl (by kernel_rfl) (by kernel_rfl) (by kernel_rfl) (fun _ _ _ h => h) (yields_same (by kernel_rfl) (.tmp 84) (.tmp 85) rfl (y) rfl rfl) hS ?_
  simp only [Act.put, List.setIfInBounds_toArray, List.set_cons_zero, List.set_cons_succ]
  refine wpAnyH_take (i := 5) (oi := ⟨some 87, _, _, _, _, _⟩) (v := .bool true) rfl (by kernel_rfl) (by kernel_rfl) (by kernel_rfl) (fun _ _ _ h => h) (Or.inl ⟨by kernel_rfl, fun w' hSw => ?_⟩) hS ?_
  · go_simp
  simp only [Act.put, List.setIfInBounds_toArray, List.set_cons_zero, List.set_cons_succ]
  refine wpAnyH_take (i := 6) (oi := ⟨some 88, _, _, _, _, _⟩) (v := .pointer (some ⟨G, 0, none⟩)) rfl (by kernel_rfl) (by kernel_rfl) (by kernel_rfl) (fun _ _ _ h => h) (Or.inl ⟨by kernel_rfl, fun w' hSw => ?_⟩) hS ?_
  · go_simp
  simp only [Act.put, List.setIfInBounds_toArray, List.set_cons_zero, List.set_cons_succ]
  refine wpAnyH_take (i := 7) (oi := ⟨some 89, _, _, _, _, _⟩) (v := .agg (bv (f))) rfl (by kernel_rfl) (by kernel_rfl) (by kernel_rfl) (fun _ _ _ h => h) (yields_arr (by kernel_rfl) (.tmp 9) rfl (w2.heap.size) (f) rfl fun w' h => hF.below h hF.lt) hS ?_
  simp only [Act.put, List.setIfInBounds_toArray, List.set_cons_zero, List.set_cons_succ]
  refine wpAnyH_take (i := 9) (oi := ⟨some 91, _, _, _, _, _⟩) (v := .agg (bv (y))) rfl (by kernel_rfl) (by kernel_rfl) (by kernel_rfl) (fun _ _ _ h => h) (yields_arr (by kernel_rfl) (.tmp 10) rfl (w4.heap.size) (y) rfl fun w' h => hY.below h hY.lt) hS ?_
  simp only [Act.put, List.setIfInBounds_toArray, List.set_cons_zero, List.set_cons_succ]
  refine wpAnyH_ready (rs := [8]) (by kernel_rfl) (by simp) ?_
  refine (AllReadyH.cons (o := ⟨some 90, _, _, _, _, _⟩) rfl (fun K hK => ?_) AllReadyH.nil)
  rw [if_pos (by kernel_rfl)]
  go_simp
  refine (HE.out _ G (hG.below hS)).mono ?_
  rintro e v2 ⟨rfl, hq2⟩
  have hqz2 := hq2.size
  refine hK.out _ _ (hS.trans (hq2.mono (by first | exact hS.size | (have := hS.size; simp at this ⊢; omega)))) (fun hS => ?_)
  clear hK K
  refine wpAnyH_take (i := 10) (oi := ⟨some 92, _, _, _, _, _⟩) (v := .bool true) rfl (by kernel_rfl) (by kernel_rfl) (by kernel_rfl) (fun _ _ _ h => h) (yields_same (by kernel_rfl) (.tmp 90) (.tmp 91) rfl (y) rfl rfl) hS ?_
  simp only [Act.put, List.setIfInBounds_toArray, List.set_cons_zero, List.set_cons_succ]
  refine wpAnyH_take (i := 11) (oi := ⟨some 93, _, _, _, _, _⟩) (v := .bool true) rfl (by kernel_rfl) (by kernel_rfl) (by kernel_rfl) (fun _ _ _ h => h) (Or.inl ⟨by kernel_rfl, fun w' hSw => ?_⟩) hS ?_
  · go_simp
  simp only [Act.put, List.setIfInBounds_toArray, List.set_cons_zero, List.set_cons_succ]
  refine wpAnyH_take (i := 12) (oi := ⟨some 94, _, _, _, _, _⟩) (v := .bool true) rfl (by kernel_rfl) (by kernel_rfl) (by kernel_rfl) (fun _ _ _ h => h) (Or.inl ⟨by kernel_rfl, fun w' hSw => ?_⟩) hS ?_
  · go_simp
  simp only [Act.put, List.setIfInBounds_toArray, List.set_cons_zero, List.set_cons_succ]
  refine wpAnyH_take (i := 13) (oi := ⟨some 95, _, _, _, _, _⟩) (v := .pointer (some ⟨G, 0, none⟩)) rfl (by kernel_rfl) (by kernel_rfl) (by kernel_rfl) (fun _ _ _ h => h) (Or.inl ⟨by kernel_rfl, fun w' hSw => ?_⟩) hS ?_
  · go_simp
  simp only [Act.put, List.setIfInBounds_toArray, List.set_cons_zero, List.set_cons_succ]
  refine wpAnyH_take (i := 14) (oi := ⟨some 96, _, _, _, _, _⟩) (v := .agg (bv (y))) rfl (by kernel_rfl) (by kernel_rfl) (by kernel_rfl) (fun _ _ _ h => h) (yields_arr (by kernel_rfl) (.tmp 10) rfl (w4.heap.size) (y) rfl fun w' h => hY.below h hY.lt) hS ?_
  simp only [Act.put, List.setIfInBounds_toArray, List.set_cons_zero, List.set_cons_succ]
  refine wpAnyH_take (i := 16) (oi := ⟨some 98, _, _, _, _, _⟩) (v := .agg (bv (f))) rfl (by kernel_rfl) (by kernel_rfl) (by kernel_rfl) (fun _ _ _ h => h) (yields_arr (by kernel_rfl) (.tmp 9) rfl (w2.heap.size) (f) rfl fun w' h => hF.below h hF.lt) hS ?_
  simp only [Act.put, List.setIfInBounds_toArray, List.set_cons_zero, List.set_cons_succ]
  refine wpAnyH_ready (rs := [15]) (by kernel_rfl) (by simp) ?_
  refine (AllReadyH.cons (o := ⟨some 97, _, _, _, _, _⟩) rfl (fun K hK => ?_) AllReadyH.nil)
  rw [if_pos (by kernel_rfl)]
  go_simp
  refine (HD.out _ G (hG.below hS)).mono ?_
  rintro e v3 ⟨rfl, hq3⟩
  have hqz3 := hq3.size
  refine hK.out _ _ (hS.trans (hq3.mono (by first | exact hS.size | (have := hS.size; simp at this ⊢; omega)))) (fun hS => ?_)
  clear hK K
  refine wpAnyH_take (i := 17) (oi := ⟨some 99, _, _, _, _, _⟩) (v := .bool true) rfl (by kernel_rfl) (by kernel_rfl) (by kernel_rfl) (fun _ _ _ h => h) (yields_same (by kernel_rfl) (.tmp 97) (.tmp 98) rfl (f) rfl rfl) hS ?_
  simp only [Act.put, List.setIfInBounds_toArray, List.set_cons_zero, List.set_cons_succ]
  refine wpAnyH_take (i := 18) (oi := ⟨some 100, _, _, _, _, _⟩) (v := .bool true) rfl (by kernel_rfl) (by kernel_rfl) (by kernel_rfl) (fun _ _ _ h => h) (Or.inl ⟨by kernel_rfl, fun w' hSw => ?_⟩) hS ?_
  · go_simp
  simp only [Act.put, List.setIfInBounds_toArray, List.set_cons_zero, List.set_cons_succ]
  refine wpAnyH_take (i := 19) (oi := ⟨some 101, _, _, _, _, _⟩) (v := .bool true) rfl (by kernel_rfl) (by kernel_rfl) (by kernel_rfl) (fun _ _ _ h => h) (Or.inl ⟨by kernel_rfl, fun w' hSw => ?_⟩) hS ?_
  · go_simp
  simp only [Act.put, List.setIfInBounds_toArray, List.set_cons_zero, List.set_cons_succ]
  refine wpAnyH_ready (rs := [20]) (by kernel_rfl) (by simp) ?_
  refine (AllReadyH.cons (o := ⟨some 102, _, _, _, _, _⟩) rfl (fun K hK => ?_) AllReadyH.nil)
  rw [if_pos (by kernel_rfl)]
  go_simp
  refine (awake6 _).mono ?_
  rintro e v4 ⟨rfl, hq4⟩
  have hqz4 := hq4.size
  refine hK.out _ _ (hS.trans (hq4.mono (by first | exact hS.size | (have := hS.size; simp at this ⊢; omega)))) (fun hS => ?_)
  clear hK K
  refine wpAnyH_take (i := 21) (oi := ⟨some 103, _, _, _, _, _⟩) (v := .bool true) rfl (by kernel_rfl) (by kernel_rfl) (by kernel_rfl) (fun _ _ _ h => h) (Or.inl ⟨by kernel_rfl, fun w' hSw => ?_⟩) hS ?_
  · go_simp
  simp only [Act.put, List.setIfInBounds_toArray, List.set_cons_zero, List.set_cons_succ]
  refine wpAnyH_take (i := 22) (oi := ⟨some 6, _, _, _, _, _⟩) (v := .bool true) rfl (by kernel_rfl) (by kernel_rfl) (by kernel_rfl) (fun _ _ _ h => h) (Or.inl ⟨by kernel_rfl, fun w' hSw => ?_⟩) hS ?_
  · go_simp
  simp only [Act.put, List.setIfInBounds_toArray, List.set_cons_zero, List.set_cons_succ]
  refine wpAnyH_done (by kernel_rfl) ?_ _
  go_wp2_with fail
  go_ret
  exact ⟨rfl, hb8.trans (hS.mono hb8.size)⟩
set_option maxRecDepth 100000 in
set_option maxHeartbeats 4000000 in
theorem apart6_in32_32 (A : Option Addr) (n c : Nat) (l : List Nat) (B : Option Addr) (n1 c1 : Nat) (l1 : List Nat) (D : Option Addr) (n2 c2 : Nat) (l2 : List Nat) (w : World) (hl : Bytes w A n l) (hc : n ≤ c) (hl1 : Bytes w B n1 l1) (hc1 : n1 ≤ c1) (hl2 : Bytes w D n2 l2)
    (hn : MayK n) (hn1 : MayK n1) (ap : ((n : Int) != 16) = true) (aq : ((n : Int) != 32) = false) (bp : ((n1 : Int) != 16) = true) (bq : ((n1 : Int) != 32) = false) (h2 : n2 ≤ 100) :
    Calls Try.prog 20 #[.slice A n c, .slice B n1 c1, .slice D n2 c2] w fun e w' => e = .returned (.bool true) ∧ Below w.heap.size w w' := by
  have hk : MayK l.length := by rw [hl.1]; exact hn
  have hk1 : MayK l1.length := by rw [hl1.1]; exact hn1
  have HC := Box.mk (fun w hl => block_walk D n2 c2 l2 w hl)
  have HK := Box.mk (fun w hl => new_any A n c l w hl hc hn)
  have HK1 := Box.mk (fun w hl => new_any B n1 c1 l1 w hl hc1 hn1)
  have Hf : Box (∀ i, ofL l2 i < 256) := ⟨ofL_lt hl2.2.2.1⟩
  revert HC Hf
  generalize ofL l2 = f
  intro HC Hf
  have HE : Box (∀ (w : World) (C : Nat), Ciph w C (words l) → Calls Try.prog 61 #[.pointer (some ⟨C, 0, none⟩), .agg (bv f)] w fun e w' => e = .returned (.agg (bv (encK l f))) ∧ Below w.heap.size w w') := ⟨fun w C h => encrypt_key C l f hk Hf.out w h⟩
  have HE1 : Box (∀ (w : World) (C : Nat), Ciph w C (words l1) → Calls Try.prog 61 #[.pointer (some ⟨C, 0, none⟩), .agg (bv f)] w fun e w' => e = .returned (.agg (bv (encK l1 f))) ∧ Below w.heap.size w w') := ⟨fun w C h => encrypt_key C l1 f hk1 Hf.out w h⟩
  have HD : Box (∀ (w : World) (C : Nat), Ciph w C (words l) → Calls Try.prog 60 #[.pointer (some ⟨C, 0, none⟩), .agg (bv (encK l f))] w fun e w' => e = .returned (.agg (bv f)) ∧ Below w.heap.size w w') := ⟨fun w C h => by have h := decrypt_key C l (encK l f) hk (encK_lt Hf.out) w h; rwa [dec_encK Hf.out] at h⟩
  clear hk hk1 Hf
  revert HE HD
  generalize encK l f = y
  intro HE HD
  go_enter Try.func20, Try.ntmps20
  go_wp2_with fail
  refine (HK.out _ hl).mono ?_
  rintro e w1 ⟨C, rfl, hC, hb1, hC0⟩
  go_wp2_with fail
  refine (HC.out _ (hl2.below hb1)).mono ?_
  rintro e w2 ⟨rfl, hb2⟩
  have hC := hC.below hb2
  have hb2 := hb1.trans (hb2.mono hb1.size)
  clear hb1 hC0 HC hl2
  go_wp2_with (first
      | ((with_reducible show wpList _ _ _ (⟨_, Op.store 36 (.tmp 9) (.tmp 51), _, _, _, _⟩ :: _) _ _); refine wp_store_arr rfl (.tmp 9) (.tmp 51) rfl (w2.heap.size) (fun _ => 0) (f) rfl rfl (Arr.zero _ _ rfl) ?_)
      | ((with_reducible show wpList _ _ _ (⟨some 53, Op.load 36 (.tmp 9), _, _, _, _⟩ :: _) _ _); refine wp_load_arr rfl (.tmp 9) rfl (w2.heap.size) (f) rfl ((Arr.zero _ _ rfl).setRow) ?_))
  have hF : Arr ((w2.alloc (.cells #[.int .u8 0, .int .u8 0, .int .u8 0, .int .u8 0, .int .u8 0, .int .u8 0, .int .u8 0, .int .u8 0, .int .u8 0, .int .u8 0, .int .u8 0, .int .u8 0, .int .u8 0, .int .u8 0, .int .u8 0, .int .u8 0] 36)).setRow w2.heap.size (bv f)) w2.heap.size f := (Arr.zero _ _ rfl).setRow
  have hbelW : Below w2.heap.size w2 ((w2.alloc (.cells #[.int .u8 0, .int .u8 0, .int .u8 0, .int .u8 0, .int .u8 0, .int .u8 0, .int .u8 0, .int .u8 0, .int .u8 0, .int .u8 0, .int .u8 0, .int .u8 0, .int .u8 0, .int .u8 0, .int .u8 0, .int .u8 0] 36)).setRow w2.heap.size (bv f)) := below_setRow ((Below.refl _ _).alloc (Nat.le_refl _) _) (Nat.le_refl _) _
  revert hF hbelW
  generalize ((w2.alloc (.cells #[.int .u8 0, .int .u8 0, .int .u8 0, .int .u8 0, .int .u8 0, .int .u8 0, .int .u8 0, .int .u8 0, .int .u8 0, .int .u8 0, .int .u8 0, .int .u8 0, .int .u8 0, .int .u8 0, .int .u8 0, .int .u8 0] 36)).setRow w2.heap.size (bv f)) = w3
  intro hF hbelW
  have hC := hC.below hbelW
  have hb3 := hb2.trans (hbelW.mono hb2.size)
  clear hbelW
  refine (HE.out _ C hC).mono ?_
  rintro e w4 ⟨rfl, hb4⟩
  have hC := hC.below hb4
  have hF := hF.below hb4 hF.lt
  have hb4 := hb3.trans (hb4.mono hb3.size)
  clear hb3
  go_wp2_with (first
      | ((with_reducible show wpList _ _ _ (⟨_, Op.store 36 (.tmp 10) (.tmp 54), _, _, _, _⟩ :: _) _ _); refine wp_store_arr rfl (.tmp 10) (.tmp 54) rfl (w4.heap.size) (fun _ => 0) (y) rfl rfl (Arr.zero _ _ rfl) ?_))
  have hY : Arr ((w4.alloc (.cells #[.int .u8 0, .int .u8 0, .int .u8 0, .int .u8 0, .int .u8 0, .int .u8 0, .int .u8 0, .int .u8 0, .int .u8 0, .int .u8 0, .int .u8 0, .int .u8 0, .int .u8 0, .int .u8 0, .int .u8 0, .int .u8 0] 36)).setRow w4.heap.size (bv y)) w4.heap.size y := (Arr.zero _ _ rfl).setRow
  have hF : Arr ((w4.alloc (.cells #[.int .u8 0, .int .u8 0, .int .u8 0, .int .u8 0, .int .u8 0, .int .u8 0, .int .u8 0, .int .u8 0, .int .u8 0, .int .u8 0, .int .u8 0, .int .u8 0, .int .u8 0, .int .u8 0, .int .u8 0, .int .u8 0] 36)).setRow w4.heap.size (bv y)) w2.heap.size f := (hF.alloc _).setRow_far (by have := hF.lt; omega)
  have hbelW : Below w4.heap.size w4 ((w4.alloc (.cells #[.int .u8 0, .int .u8 0, .int .u8 0, .int .u8 0, .int .u8 0, .int .u8 0, .int .u8 0, .int .u8 0, .int .u8 0, .int .u8 0, .int .u8 0, .int .u8 0, .int .u8 0, .int .u8 0, .int .u8 0, .int .u8 0] 36)).setRow w4.heap.size (bv y)) := below_setRow ((Below.refl _ _).alloc (Nat.le_refl _) _) (Nat.le_refl _) _
  revert hF hY hbelW
  generalize ((w4.alloc (.cells #[.int .u8 0, .int .u8 0, .int .u8 0, .int .u8 0, .int .u8 0, .int .u8 0, .int .u8 0, .int .u8 0, .int .u8 0, .int .u8 0, .int .u8 0, .int .u8 0, .int .u8 0, .int .u8 0, .int .u8 0, .int .u8 0] 36)).setRow w4.heap.size (bv y)) = w5
  intro hY hF hbelW
  have hC := hC.below hbelW
  have hb5 := hb4.trans (hbelW.mono hb4.size)
  clear hbelW hb4
  refine (HK1.out _ (hl1.below hb5)).mono ?_
  rintro e w6 ⟨E, rfl, hE, hb6, hE0⟩
  have hC := hC.below hb6
  have hF := hF.below hb6 hF.lt
  have hY := hY.below hb6 hY.lt
  have hb6 := hb5.trans (hb6.mono hb5.size)
  clear hb5 hE0 HK1 hl1
  go_wp2_with fail
  refine (HK.out _ (hl.below hb6)).mono ?_
  rintro e w7 ⟨G, rfl, hG, hb7, hG0⟩
  have hC := hC.below hb7
  have hE := hE.below hb7
  have hF := hF.below hb7 hF.lt
  have hY := hY.below hb7 hY.lt
  have hb7 := hb6.trans (hb7.mono hb6.size)
  clear hb6 hG0 HK hl
  go_wp2_with (first
      | ((with_reducible show wpList _ _ _ (⟨some 80, Op.load 36 (.tmp 9), _, _, _, _⟩ :: _) _ _); refine wp_load_arr rfl (.tmp 9) rfl (w2.heap.size) (f) rfl (hF) ?_))
  refine (HE1.out _ E hE).mono ?_
  rintro e w8 ⟨rfl, hb8⟩
  have hC := hC.below hb8
  have hG := hG.below hb8
  have hF := hF.below hb8 hF.lt
  have hY := hY.below hb8 hY.lt
  have hb8 := hb7.trans (hb8.mono hb7.size)
  clear hb7 hE HE1
  go_wp2_with fail
  refine wp_region_held_drew (S := fun w' => Below w8.heap.size w8 w') (by kernel_rfl) (Below.refl _ _).drew (fun hS => ?_)
  refine wpAnyH_take (i := 0) (oi := ⟨some 82, _, _, _, _, _⟩) (v := .pointer (some ⟨C, 0, none⟩)) rfl (by kernel_rfl) (by kernel_rfl) (by kernel_rfl) (fun _ _ _ h => h) (Or.inl ⟨by kernel_rfl, fun w' hSw => ?_⟩) hS ?_
  · go_simp
  simp only [Act.put, List.setIfInBounds_toArray, List.set_cons_zero, List.set_cons_succ]
  refine wpAnyH_take (i := 1) (oi := ⟨some 83, _, _, _, _, _⟩) (v := .agg (bv (f))) rfl (by kernel_rfl) (by kernel_rfl) (by kernel_rfl) (fun _ _ _ h => h) (yields_arr (by kernel_rfl) (.tmp 9) rfl (w2.heap.size) (f) rfl fun w' h => hF.below h hF.lt) hS ?_
  simp only [Act.put, List.setIfInBounds_toArray, List.set_cons_zero, List.set_cons_succ]
  refine wpAnyH_take (i := 3) (oi := ⟨some 85, _, _, _, _, _⟩) (v := .agg (bv (y))) rfl (by kernel_rfl) (by kernel_rfl) (by kernel_rfl) (fun _ _ _ h => h) (yields_arr (by kernel_rfl) (.tmp 10) rfl (w4.heap.size) (y) rfl fun w' h => hY.below h hY.lt) hS ?_
  simp only [Act.put, List.setIfInBounds_toArray, List.set_cons_zero, List.set_cons_succ]
  refine wpAnyH_ready (rs := [2]) (by kernel_rfl) (by simp) ?_
  refine (AllReadyH.cons (o := ⟨some 84, _, _, _, _, _⟩) rfl (fun K hK => ?_) AllReadyH.nil)
  rw [if_pos (by kernel_rfl)]
  go_simp
  refine (HE.out _ C (hC.below hS)).mono ?_
  rintro e v1 ⟨rfl, hq1⟩
  have hqz1 := hq1.size
  refine hK.out _ _ (hS.trans (hq1.mono (by first | exact hS.size | (have := hS.size; simp at this ⊢; omega)))) (fun hS => ?_)
  clear hK K
  refine wpAnyH_take (i := 4) (oi := ⟨some 86, _, _, _, _, _⟩) (v := .bool true) rfl (by kernel_rfl) (by kernel_rfl) (by kernel_rfl) (fun _ _ _ h => h) (yields_same (by kernel_rfl) (.tmp 84) (.tmp 85) rfl (y) rfl rfl) hS ?_
  simp only [Act.put, List.setIfInBounds_toArray, List.set_cons_zero, List.set_cons_succ]
  refine wpAnyH_take (i := 5) (oi := ⟨some 87, _, _, _, _, _⟩) (v := .bool true) rfl (by kernel_rfl) (by kernel_rfl) (by kernel_rfl) (fun _ _ _ h => h) (Or.inl ⟨by kernel_rfl, fun w' hSw => ?_⟩) hS ?_
  · go_simp
  simp only [Act.put, List.setIfInBounds_toArray, List.set_cons_zero, List.set_cons_succ]
  refine wpAnyH_take (i := 6) (oi := ⟨some 88, _, _, _, _, _⟩) (v := .pointer (some ⟨G, 0, none⟩)) rfl (by kernel_rfl) (by kernel_rfl) (by kernel_rfl) (fun _ _ _ h => h) (Or.inl ⟨by kernel_rfl, fun w' hSw => ?_⟩) hS ?_
  · go_simp
  simp only [Act.put, List.setIfInBounds_toArray, List.set_cons_zero, List.set_cons_succ]
  refine wpAnyH_take (i := 7) (oi := ⟨some 89, _, _, _, _, _⟩) (v := .agg (bv (f))) rfl (by kernel_rfl) (by kernel_rfl) (by kernel_rfl) (fun _ _ _ h => h) (yields_arr (by kernel_rfl) (.tmp 9) rfl (w2.heap.size) (f) rfl fun w' h => hF.below h hF.lt) hS ?_
  simp only [Act.put, List.setIfInBounds_toArray, List.set_cons_zero, List.set_cons_succ]
  refine wpAnyH_take (i := 9) (oi := ⟨some 91, _, _, _, _, _⟩) (v := .agg (bv (y))) rfl (by kernel_rfl) (by kernel_rfl) (by kernel_rfl) (fun _ _ _ h => h) (yields_arr (by kernel_rfl) (.tmp 10) rfl (w4.heap.size) (y) rfl fun w' h => hY.below h hY.lt) hS ?_
  simp only [Act.put, List.setIfInBounds_toArray, List.set_cons_zero, List.set_cons_succ]
  refine wpAnyH_ready (rs := [8]) (by kernel_rfl) (by simp) ?_
  refine (AllReadyH.cons (o := ⟨some 90, _, _, _, _, _⟩) rfl (fun K hK => ?_) AllReadyH.nil)
  rw [if_pos (by kernel_rfl)]
  go_simp
  refine (HE.out _ G (hG.below hS)).mono ?_
  rintro e v2 ⟨rfl, hq2⟩
  have hqz2 := hq2.size
  refine hK.out _ _ (hS.trans (hq2.mono (by first | exact hS.size | (have := hS.size; simp at this ⊢; omega)))) (fun hS => ?_)
  clear hK K
  refine wpAnyH_take (i := 10) (oi := ⟨some 92, _, _, _, _, _⟩) (v := .bool true) rfl (by kernel_rfl) (by kernel_rfl) (by kernel_rfl) (fun _ _ _ h => h) (yields_same (by kernel_rfl) (.tmp 90) (.tmp 91) rfl (y) rfl rfl) hS ?_
  simp only [Act.put, List.setIfInBounds_toArray, List.set_cons_zero, List.set_cons_succ]
  refine wpAnyH_take (i := 11) (oi := ⟨some 93, _, _, _, _, _⟩) (v := .bool true) rfl (by kernel_rfl) (by kernel_rfl) (by kernel_rfl) (fun _ _ _ h => h) (Or.inl ⟨by kernel_rfl, fun w' hSw => ?_⟩) hS ?_
  · go_simp
  simp only [Act.put, List.setIfInBounds_toArray, List.set_cons_zero, List.set_cons_succ]
  refine wpAnyH_take (i := 12) (oi := ⟨some 94, _, _, _, _, _⟩) (v := .bool true) rfl (by kernel_rfl) (by kernel_rfl) (by kernel_rfl) (fun _ _ _ h => h) (Or.inl ⟨by kernel_rfl, fun w' hSw => ?_⟩) hS ?_
  · go_simp
  simp only [Act.put, List.setIfInBounds_toArray, List.set_cons_zero, List.set_cons_succ]
  refine wpAnyH_take (i := 13) (oi := ⟨some 95, _, _, _, _, _⟩) (v := .pointer (some ⟨G, 0, none⟩)) rfl (by kernel_rfl) (by kernel_rfl) (by kernel_rfl) (fun _ _ _ h => h) (Or.inl ⟨by kernel_rfl, fun w' hSw => ?_⟩) hS ?_
  · go_simp
  simp only [Act.put, List.setIfInBounds_toArray, List.set_cons_zero, List.set_cons_succ]
  refine wpAnyH_take (i := 14) (oi := ⟨some 96, _, _, _, _, _⟩) (v := .agg (bv (y))) rfl (by kernel_rfl) (by kernel_rfl) (by kernel_rfl) (fun _ _ _ h => h) (yields_arr (by kernel_rfl) (.tmp 10) rfl (w4.heap.size) (y) rfl fun w' h => hY.below h hY.lt) hS ?_
  simp only [Act.put, List.setIfInBounds_toArray, List.set_cons_zero, List.set_cons_succ]
  refine wpAnyH_take (i := 16) (oi := ⟨some 98, _, _, _, _, _⟩) (v := .agg (bv (f))) rfl (by kernel_rfl) (by kernel_rfl) (by kernel_rfl) (fun _ _ _ h => h) (yields_arr (by kernel_rfl) (.tmp 9) rfl (w2.heap.size) (f) rfl fun w' h => hF.below h hF.lt) hS ?_
  simp only [Act.put, List.setIfInBounds_toArray, List.set_cons_zero, List.set_cons_succ]
  refine wpAnyH_ready (rs := [15]) (by kernel_rfl) (by simp) ?_
  refine (AllReadyH.cons (o := ⟨some 97, _, _, _, _, _⟩) rfl (fun K hK => ?_) AllReadyH.nil)
  rw [if_pos (by kernel_rfl)]
  go_simp
  refine (HD.out _ G (hG.below hS)).mono ?_
  rintro e v3 ⟨rfl, hq3⟩
  have hqz3 := hq3.size
  refine hK.out _ _ (hS.trans (hq3.mono (by first | exact hS.size | (have := hS.size; simp at this ⊢; omega)))) (fun hS => ?_)
  clear hK K
  refine wpAnyH_take (i := 17) (oi := ⟨some 99, _, _, _, _, _⟩) (v := .bool true) rfl (by kernel_rfl) (by kernel_rfl) (by kernel_rfl) (fun _ _ _ h => h) (yields_same (by kernel_rfl) (.tmp 97) (.tmp 98) rfl (f) rfl rfl) hS ?_
  simp only [Act.put, List.setIfInBounds_toArray, List.set_cons_zero, List.set_cons_succ]
  refine wpAnyH_take (i := 18) (oi := ⟨some 100, _, _, _, _, _⟩) (v := .bool true) rfl (by kernel_rfl) (by kernel_rfl) (by kernel_rfl) (fun _ _ _ h => h) (Or.inl ⟨by kernel_rfl, fun w' hSw => ?_⟩) hS ?_
  · go_simp
  simp only [Act.put, List.setIfInBounds_toArray, List.set_cons_zero, List.set_cons_succ]
  refine wpAnyH_take (i := 19) (oi := ⟨some 101, _, _, _, _, _⟩) (v := .bool true) rfl (by kernel_rfl) (by kernel_rfl) (by kernel_rfl) (fun _ _ _ h => h) (Or.inl ⟨by kernel_rfl, fun w' hSw => ?_⟩) hS ?_
  · go_simp
  simp only [Act.put, List.setIfInBounds_toArray, List.set_cons_zero, List.set_cons_succ]
  refine wpAnyH_ready (rs := [20]) (by kernel_rfl) (by simp) ?_
  refine (AllReadyH.cons (o := ⟨some 102, _, _, _, _, _⟩) rfl (fun K hK => ?_) AllReadyH.nil)
  rw [if_pos (by kernel_rfl)]
  go_simp
  refine (awake6 _).mono ?_
  rintro e v4 ⟨rfl, hq4⟩
  have hqz4 := hq4.size
  refine hK.out _ _ (hS.trans (hq4.mono (by first | exact hS.size | (have := hS.size; simp at this ⊢; omega)))) (fun hS => ?_)
  clear hK K
  refine wpAnyH_take (i := 21) (oi := ⟨some 103, _, _, _, _, _⟩) (v := .bool true) rfl (by kernel_rfl) (by kernel_rfl) (by kernel_rfl) (fun _ _ _ h => h) (Or.inl ⟨by kernel_rfl, fun w' hSw => ?_⟩) hS ?_
  · go_simp
  simp only [Act.put, List.setIfInBounds_toArray, List.set_cons_zero, List.set_cons_succ]
  refine wpAnyH_take (i := 22) (oi := ⟨some 6, _, _, _, _, _⟩) (v := .bool true) rfl (by kernel_rfl) (by kernel_rfl) (by kernel_rfl) (fun _ _ _ h => h) (Or.inl ⟨by kernel_rfl, fun w' hSw => ?_⟩) hS ?_
  · go_simp
  simp only [Act.put, List.setIfInBounds_toArray, List.set_cons_zero, List.set_cons_succ]
  refine wpAnyH_done (by kernel_rfl) ?_ _
  go_wp2_with fail
  go_ret
  exact ⟨rfl, hb8.trans (hS.mono hb8.size)⟩
theorem keyCases (n : Nat) : (((n : Int) != 16) = true ∧ ((n : Int) != 32) = true) ∨ (MayK n ∧ ((n : Int) != 16) = false) ∨ (MayK n ∧ ((n : Int) != 16) = true ∧ ((n : Int) != 32) = false) := by
  by_cases h : n = 16
  · exact .inr (.inl ⟨.inl h, by simp; omega⟩)
  · by_cases h2 : n = 32
    · exact .inr (.inr ⟨.inr h2, by simp; omega, by simp; omega⟩)
    · exact .inl ⟨by simp; omega, by simp; omega⟩
theorem aesApart_walk {w : World} (A : Option Addr) (n c : Nat) (l : List Nat) (hc : n ≤ c) (hl : Bytes w A n l) (B : Option Addr) (n1 c1 : Nat) (l1 : List Nat) (hc1 : n1 ≤ c1) (hl1 : Bytes w B n1 l1) (D : Option Addr) (n2 c2 : Nat) (l2 : List Nat) (_hc2 : n2 ≤ c2) (hl2 : Bytes w D n2 l2) :
    Calls Try.prog 20 #[.slice A n c, .slice B n1 c1, .slice D n2 c2] w fun e w' => e = .returned (.bool true) ∧ Below w.heap.size w w' := by
  rcases keyCases n with ⟨x, y⟩ | ⟨hn, x⟩ | ⟨hn, x, y⟩
  · exact apart6_outN A n c B n1 c1 D n2 c2 w x y
  · rcases keyCases n1 with ⟨u, v⟩ | ⟨hn1, u⟩ | ⟨hn1, u, v⟩
    · exact apart6_out16N A n c B n1 c1 D n2 c2 w x u v
    · by_cases h2 : n2 ≤ 100
      · exact apart6_in16_16 A n c l B n1 c1 l1 D n2 c2 l2 w hl hc hl1 hc1 hl2 hn hn1 x u h2
      · exact apart6_out16_16 A n c B n1 c1 D n2 c2 w x u (by omega)
    · by_cases h2 : n2 ≤ 100
      · exact apart6_in16_32 A n c l B n1 c1 l1 D n2 c2 l2 w hl hc hl1 hc1 hl2 hn hn1 x u v h2
      · exact apart6_out16_32 A n c B n1 c1 D n2 c2 w x u v (by omega)
  · rcases keyCases n1 with ⟨u, v⟩ | ⟨hn1, u⟩ | ⟨hn1, u, v⟩
    · exact apart6_out32N A n c B n1 c1 D n2 c2 w x y u v
    · by_cases h2 : n2 ≤ 100
      · exact apart6_in32_16 A n c l B n1 c1 l1 D n2 c2 l2 w hl hc hl1 hc1 hl2 hn hn1 x y u h2
      · exact apart6_out32_16 A n c B n1 c1 D n2 c2 w x y u (by omega)
    · by_cases h2 : n2 ≤ 100
      · exact apart6_in32_32 A n c l B n1 c1 l1 D n2 c2 l2 w hl hc hl1 hc1 hl2 hn hn1 x y u v h2
      · exact apart6_out32_32 A n c B n1 c1 D n2 c2 w x y u v (by omega)
end Go.Proofs.Ytibfihjcjohadaa
