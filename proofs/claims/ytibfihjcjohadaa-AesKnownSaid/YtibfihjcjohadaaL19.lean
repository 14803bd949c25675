/-
  The walk of the law on the standards' own keys and blocks: it returns true, whatever the input, and writes nothing that was there.
-/
import Derived.Test.YtibfihjcjohadaaStr
import Derived.Test.YtibfihjcjohadaaPKat2
import Derived.Test.YtibfihjcjohadaaAlike
namespace Go.Proofs.Ytibfihjcjohadaa
open Go.RowKit Go.Op
open Aes (words)
theorem new_cell (w : World) (cs : Array Value) (t : TypeId) (k g : Nat) (hg : g = w.heap.size) : (w.alloc (.cells cs t)).cell? ⟨g, k, none⟩ = cs[k]? := by
  subst hg; exact cell_of_row _ _ k cs t (0, 0) (heap_alloc_new w _)
theorem pbAB : Aes.pbB = Aes.pbA := by decide
theorem mayKA : MayK Aes.kbA.length := .inl (by decide)
theorem mayKB : MayK Aes.kbB.length := .inr (by decide)
theorem list_of {f : Nat → Nat} {e : List Nat} (he : (List.range 16).map (fun i => e.getD i 0) = e) (h : ∀ i, i < 16 → f i = e.getD i 0) : listB f = e := by
  rw [← he]
  exact List.map_congr_left fun i hi => h i (List.mem_range.mp hi)
theorem endA : listB (encK Aes.kbA (ofL Aes.pbA)) = Aes.ebA := list_of (by decide) fun i hi => by
  unfold encK; rw [Aes.wordsA]; exact Aes.encA i hi
theorem endB : listB (encK Aes.kbB (ofL Aes.pbA)) = Aes.ebB := list_of (by decide) fun i hi => by
  unfold encK; rw [Aes.wordsB, ← pbAB]; exact Aes.encB i hi
theorem pbA_lt : ∀ i, ofL Aes.pbA i < 256 := ofL_lt (by decide)
set_option maxRecDepth 100000 in
set_option maxHeartbeats 4000000 in
theorem known6_0 (k : Int) (w : World) (h : k % 2 = 0) :
    Calls Try.prog 19 #[.int .i64 k] w fun e w' => e = .returned (.bool true) ∧ Below w.heap.size w w' := by
  have HR := Box.mk (fun w => round_any k 2 (by omega) (by omega) w)
  rw [h] at HR
  have HE : Box (∀ (w : World) (C : Nat), Ciph w C (words Aes.kbA) → Calls Try.prog 61 #[.pointer (some ⟨C, 0, none⟩), .agg (bv (ofL Aes.pbA))] w fun e w' => e = .returned (.agg (bv (encK Aes.kbA (ofL Aes.pbA)))) ∧ Below w.heap.size w w') := ⟨fun w C h => encrypt_key C _ _ mayKA pbA_lt w h⟩
  have HD0 : Box (∀ (w : World) (C : Nat), Ciph w C (words Aes.kbA) → Calls Try.prog 60 #[.pointer (some ⟨C, 0, none⟩), .agg (bv (encK Aes.kbA (ofL Aes.pbA)))] w fun e w' => e = .returned (.agg (bv (ofL Aes.pbA))) ∧ Below w.heap.size w w') := ⟨fun w C h => by have h := decrypt_key C _ (encK Aes.kbA (ofL Aes.pbA)) mayKA (encK_lt pbA_lt) w h; rwa [dec_encK pbA_lt] at h⟩
  have HB : Box (∀ (w : World) (A : Option Addr) (c : Nat), Bytes w A 16 Aes.pbA → Calls Try.prog 38 #[.slice A 16 c] w fun e w' => e = .returned (.agg (bv (ofL Aes.pbA))) ∧ Below w.heap.size w w') := ⟨fun w A c h => block_walk A 16 c _ w h⟩
  have HL : Box (decide (strL (listB (encK Aes.kbA (ofL Aes.pbA))) = ⟨#[58, 215, 123, 180, 13, 122, 54, 96, 168, 158, 202, 243, 36, 102, 239, 151]⟩) = true) := ⟨by rw [endA]; exact decide_eq_true (by decide)⟩
  have Hy : Box (∀ i, encK Aes.kbA (ofL Aes.pbA) i < 256) := ⟨encK_lt pbA_lt⟩
  revert HE HD0 HB HL Hy
  generalize encK Aes.kbA (ofL Aes.pbA) = y
  generalize ofL Aes.pbA = p
  intro HE HD0 HB HL Hy
  have hK : ((w.alloc (.cells #[.string ⟨#[43, 126, 21, 22, 40, 174, 210, 166, 171, 247, 21, 136, 9, 207, 79, 60]⟩, .string ⟨#[96, 61, 235, 16, 21, 202, 113, 190, 43, 115, 174, 240, 133, 125, 119, 129, 31, 53, 44, 7, 59, 97, 8, 215, 45, 152, 16, 163, 9, 20, 223, 244]⟩] 9)).alloc (.cells #[.string ⟨#[58, 215, 123, 180, 13, 122, 54, 96, 168, 158, 202, 243, 36, 102, 239, 151]⟩, .string ⟨#[243, 238, 209, 189, 181, 210, 160, 60, 6, 75, 90, 126, 61, 177, 129, 248]⟩] 9)).cell? ⟨w.heap.size, 0, none⟩ = some (.string ⟨#[43, 126, 21, 22, 40, 174, 210, 166, 171, 247, 21, 136, 9, 207, 79, 60]⟩) := by simp [World.cell?, World.alloc, -World.alloc_eq, Array.getElem?_push]
  have hE : ((w.alloc (.cells #[.string ⟨#[43, 126, 21, 22, 40, 174, 210, 166, 171, 247, 21, 136, 9, 207, 79, 60]⟩, .string ⟨#[96, 61, 235, 16, 21, 202, 113, 190, 43, 115, 174, 240, 133, 125, 119, 129, 31, 53, 44, 7, 59, 97, 8, 215, 45, 152, 16, 163, 9, 20, 223, 244]⟩] 9)).alloc (.cells #[.string ⟨#[58, 215, 123, 180, 13, 122, 54, 96, 168, 158, 202, 243, 36, 102, 239, 151]⟩, .string ⟨#[243, 238, 209, 189, 181, 210, 160, 60, 6, 75, 90, 126, 61, 177, 129, 248]⟩] 9)).cell? ⟨w.heap.size + 1, 0, none⟩ = some (.string ⟨#[58, 215, 123, 180, 13, 122, 54, 96, 168, 158, 202, 243, 36, 102, 239, 151]⟩) := (new_cell _ _ 9 0 _ (by simp)).trans rfl
  have hb1 : Below w.heap.size w ((w.alloc (.cells #[.string ⟨#[43, 126, 21, 22, 40, 174, 210, 166, 171, 247, 21, 136, 9, 207, 79, 60]⟩, .string ⟨#[96, 61, 235, 16, 21, 202, 113, 190, 43, 115, 174, 240, 133, 125, 119, 129, 31, 53, 44, 7, 59, 97, 8, 215, 45, 152, 16, 163, 9, 20, 223, 244]⟩] 9)).alloc (.cells #[.string ⟨#[58, 215, 123, 180, 13, 122, 54, 96, 168, 158, 202, 243, 36, 102, 239, 151]⟩, .string ⟨#[243, 238, 209, 189, 181, 210, 160, 60, 6, 75, 90, 126, 61, 177, 129, 248]⟩] 9)) := ((Below.refl _ _).alloc (Nat.le_refl _) _).alloc (by simp) _
  have hlt : w.heap.size + 1 < ((w.alloc (.cells #[.string ⟨#[43, 126, 21, 22, 40, 174, 210, 166, 171, 247, 21, 136, 9, 207, 79, 60]⟩, .string ⟨#[96, 61, 235, 16, 21, 202, 113, 190, 43, 115, 174, 240, 133, 125, 119, 129, 31, 53, 44, 7, 59, 97, 8, 215, 45, 152, 16, 163, 9, 20, 223, 244]⟩] 9)).alloc (.cells #[.string ⟨#[58, 215, 123, 180, 13, 122, 54, 96, 168, 158, 202, 243, 36, 102, 239, 151]⟩, .string ⟨#[243, 238, 209, 189, 181, 210, 160, 60, 6, 75, 90, 126, 61, 177, 129, 248]⟩] 9)).heap.size := by simp
  go_enter Try.func19, Try.ntmps19
  go_wp2_with fail
  revert hK hE hb1 hlt
  generalize ((w.alloc (.cells #[.string ⟨#[43, 126, 21, 22, 40, 174, 210, 166, 171, 247, 21, 136, 9, 207, 79, 60]⟩, .string ⟨#[96, 61, 235, 16, 21, 202, 113, 190, 43, 115, 174, 240, 133, 125, 119, 129, 31, 53, 44, 7, 59, 97, 8, 215, 45, 152, 16, 163, 9, 20, 223, 244]⟩] 9)).alloc (.cells #[.string ⟨#[58, 215, 123, 180, 13, 122, 54, 96, 168, 158, 202, 243, 36, 102, 239, 151]⟩, .string ⟨#[243, 238, 209, 189, 181, 210, 160, 60, 6, 75, 90, 126, 61, 177, 129, 248]⟩] 9)) = w1
  intro hK hE hb1 hlt
  refine (HR.out _).mono ?_
  rintro e w' ⟨rfl, rfl⟩
  go_wp2_with (first
    | ((with_reducible show wpList _ _ _ (⟨some 19, Op.convert 9 29 (.tmp 18), _, _, _, _⟩ :: _) _ _); refine wpList_bytesL rfl (.tmp 18) rfl ⟨#[43, 126, 21, 22, 40, 174, 210, 166, 171, 247, 21, 136, 9, 207, 79, 60]⟩ rfl 16 Aes.kbA rfl (by decide) (by unfold maxLen; omega) ?_))
  intro c2 w2 hc2 hB2 hb2 hz2
  have hE := (hb2.cell (p := ⟨w.heap.size + 1, 0, none⟩) hlt).trans hE
  have hlt : w.heap.size + 1 < w2.heap.size := by omega
  have hb2 := hb1.trans (hb2.mono (by omega))
  go_wp2_with fail
  refine (new_any _ 16 c2 _ w2 hB2 hc2 (Or.inl rfl)).mono ?_
  rintro e w3 ⟨C, rfl, hC, hb3, hC0⟩
  have hE := (hb3.cell (p := ⟨w.heap.size + 1, 0, none⟩) hlt).trans hE
  have hlt : w.heap.size + 1 < w3.heap.size := by have := hb3.size; omega
  have hb3 := hb2.trans (hb3.mono (by omega))
  clear hK hb1 hb2 hz2 hB2 hC0
  go_wp2_with (first
    | ((with_reducible show wpList _ _ _ (⟨some 31, Op.convert 9 29 (.tmp 30), _, _, _, _⟩ :: _) _ _); refine wpList_bytesL rfl (.tmp 30) rfl ⟨#[107, 193, 190, 226, 46, 64, 159, 150, 233, 61, 126, 17, 115, 147, 23, 42]⟩ rfl 16 Aes.pbA rfl (by decide) (by unfold maxLen; omega) ?_))
  intro c4 w4 hc4 hB4 hb4 hz4
  have hE := (hb4.cell (p := ⟨w.heap.size + 1, 0, none⟩) hlt).trans hE
  have hC := hC.below hb4
  have hlt : w.heap.size + 1 < w4.heap.size := by have := hb4.size; omega
  have hb4 := hb3.trans (hb4.mono (by omega))
  go_wp2_with fail
  refine (HB.out _ _ c4 hB4).mono ?_
  rintro e w5 ⟨rfl, hb5⟩
  have hE := (hb5.cell (p := ⟨w.heap.size + 1, 0, none⟩) hlt).trans hE
  have hC := hC.below hb5
  have hlt : w.heap.size + 1 < w5.heap.size := by have := hb5.size; omega
  have hb5 := hb4.trans (hb5.mono (by omega))
  clear hb3 hb4 hz4 hB4
  go_wp2_with fail
  refine (HE.out _ C hC).mono ?_
  rintro e w6 ⟨rfl, hb6⟩
  have hE := (hb6.cell (p := ⟨w.heap.size + 1, 0, none⟩) hlt).trans hE
  have hC := hC.below hb6
  have hlt : w.heap.size + 1 < w6.heap.size := by have := hb6.size; omega
  have hb6 := hb5.trans (hb6.mono (by omega))
  clear hb5
  go_wp2_with (first
    | ((with_reducible show wpList _ _ _ (⟨_, Op.store 36 (.tmp 9) (.tmp 33), _, _, _, _⟩ :: _) _ _); refine wp_store_arr rfl (.tmp 9) (.tmp 33) rfl (w6.heap.size) (fun _ => 0) (y) rfl rfl (Arr.zero _ _ rfl) ?_))
  have hY : Arr ((w6.alloc (.cells #[.int .u8 0, .int .u8 0, .int .u8 0, .int .u8 0, .int .u8 0, .int .u8 0, .int .u8 0, .int .u8 0, .int .u8 0, .int .u8 0, .int .u8 0, .int .u8 0, .int .u8 0, .int .u8 0, .int .u8 0, .int .u8 0] 36)).setRow w6.heap.size (bv y)) w6.heap.size y := (Arr.zero _ _ rfl).setRow
  have hbelW : Below w6.heap.size w6 ((w6.alloc (.cells #[.int .u8 0, .int .u8 0, .int .u8 0, .int .u8 0, .int .u8 0, .int .u8 0, .int .u8 0, .int .u8 0, .int .u8 0, .int .u8 0, .int .u8 0, .int .u8 0, .int .u8 0, .int .u8 0, .int .u8 0, .int .u8 0] 36)).setRow w6.heap.size (bv y)) := below_setRow ((Below.refl _ _).alloc (Nat.le_refl _) _) (Nat.le_refl _) _
  revert hY hbelW
  generalize ((w6.alloc (.cells #[.int .u8 0, .int .u8 0, .int .u8 0, .int .u8 0, .int .u8 0, .int .u8 0, .int .u8 0, .int .u8 0, .int .u8 0, .int .u8 0, .int .u8 0, .int .u8 0, .int .u8 0, .int .u8 0, .int .u8 0, .int .u8 0] 36)).setRow w6.heap.size (bv y)) = w7
  intro hY hbelW
  have hE := (hbelW.cell (p := ⟨w.heap.size + 1, 0, none⟩) hlt).trans hE
  have hC := hC.below hbelW
  have hlt : w.heap.size + 1 < w7.heap.size := by have := hbelW.size; omega
  have hb7 := hb6.trans (hbelW.mono (by omega))
  clear hb6 hbelW
  refine wp_region_held_drew (S := fun w' => Below w7.heap.size w7 w') (by kernel_rfl) (Below.refl _ _).drew (fun hS => ?_)
  refine wpAnyH_take (i := 0) (oi := ⟨some 34, _, _, _, _, _⟩) (v := .slice (some ⟨w6.heap.size, 0, none⟩) 16 16) rfl (by kernel_rfl) (by kernel_rfl) (by kernel_rfl) (fun _ _ _ h => h) (Or.inl ⟨by kernel_rfl, fun w' hSw => ?_⟩) hS ?_
  · go_simp
  simp only [Act.put, List.setIfInBounds_toArray, List.set_cons_zero, List.set_cons_succ]
  refine wpAnyH_take (i := 1) (oi := ⟨some 35, _, _, _, _, _⟩) (v := .string (strL (listB y))) rfl (by kernel_rfl) (by kernel_rfl) (by kernel_rfl) (fun _ _ _ h => h) (yields_str (by kernel_rfl) (.tmp 34) rfl (some ⟨w6.heap.size, 0, none⟩) (16) (16) (listB y) rfl (fun w' h => (hY.below h hY.lt).bytes Hy.out)) hS ?_
  simp only [Act.put, List.setIfInBounds_toArray, List.set_cons_zero, List.set_cons_succ]
  refine wpAnyH_take (i := 2) (oi := ⟨some 36, _, _, _, _, _⟩) (v := .slice (some ⟨w.heap.size + 1, 0, none⟩) 2 2) rfl (by kernel_rfl) (by kernel_rfl) (by kernel_rfl) (fun _ _ _ h => h) (Or.inl ⟨by kernel_rfl, fun w' hSw => ?_⟩) hS ?_
  · go_simp
  simp only [Act.put, List.setIfInBounds_toArray, List.set_cons_zero, List.set_cons_succ]
  refine wpAnyH_take (i := 3) (oi := ⟨some 37, _, _, _, _, _⟩) (v := .int .i64 0) rfl (by kernel_rfl) (by kernel_rfl) (by kernel_rfl) (fun _ _ _ h => h) (Or.inl ⟨by kernel_rfl, fun w' hSw => ?_⟩) hS ?_
  · go_simp
  simp only [Act.put, List.setIfInBounds_toArray, List.set_cons_zero, List.set_cons_succ]
  refine wpAnyH_take (i := 4) (oi := ⟨some 38, _, _, _, _, _⟩) (v := .pointer (some ⟨w.heap.size + 1, 0, none⟩)) rfl (by kernel_rfl) (by kernel_rfl) (by kernel_rfl) (fun _ _ _ h => h) (Or.inl ⟨by kernel_rfl, fun w' hSw => ?_⟩) hS ?_
  · go_simp
  simp only [Act.put, List.setIfInBounds_toArray, List.set_cons_zero, List.set_cons_succ]
  refine wpAnyH_take (i := 5) (oi := ⟨some 39, _, _, _, _, _⟩) (v := .string ⟨#[58, 215, 123, 180, 13, 122, 54, 96, 168, 158, 202, 243, 36, 102, 239, 151]⟩) rfl (by kernel_rfl) (by kernel_rfl) (by kernel_rfl) (fun _ _ _ h => h) (Or.inl ⟨by kernel_rfl, fun w' hSw => ?_⟩) hS ?_
  · (have c := (hSw.cell (p := ⟨w.heap.size + 1, 0, none⟩) hlt).trans hE; go_simp)
  simp only [Act.put, List.setIfInBounds_toArray, List.set_cons_zero, List.set_cons_succ]
  refine wpAnyH_take (i := 6) (oi := ⟨some 40, _, _, _, _, _⟩) (v := .bool true) rfl (by kernel_rfl) (by kernel_rfl) (by kernel_rfl) (fun _ _ _ h => h) (yields_strEq (by kernel_rfl) (.tmp 35) (.tmp 39) rfl (strL (listB y)) (⟨#[58, 215, 123, 180, 13, 122, 54, 96, 168, 158, 202, 243, 36, 102, 239, 151]⟩) _ (HL.out) rfl rfl) hS ?_
  simp only [Act.put, List.setIfInBounds_toArray, List.set_cons_zero, List.set_cons_succ]
  refine wpAnyH_take (i := 7) (oi := ⟨some 41, _, _, _, _, _⟩) (v := .bool true) rfl (by kernel_rfl) (by kernel_rfl) (by kernel_rfl) (fun _ _ _ h => h) (Or.inl ⟨by kernel_rfl, fun w' hSw => ?_⟩) hS ?_
  · go_simp
  simp only [Act.put, List.setIfInBounds_toArray, List.set_cons_zero, List.set_cons_succ]
  refine wpAnyH_take (i := 8) (oi := ⟨some 42, _, _, _, _, _⟩) (v := .pointer (some ⟨C, 0, none⟩)) rfl (by kernel_rfl) (by kernel_rfl) (by kernel_rfl) (fun _ _ _ h => h) (Or.inl ⟨by kernel_rfl, fun w' hSw => ?_⟩) hS ?_
  · go_simp
  simp only [Act.put, List.setIfInBounds_toArray, List.set_cons_zero, List.set_cons_succ]
  refine wpAnyH_take (i := 9) (oi := ⟨some 43, _, _, _, _, _⟩) (v := .agg (bv (y))) rfl (by kernel_rfl) (by kernel_rfl) (by kernel_rfl) (fun _ _ _ h => h) (yields_arr (by kernel_rfl) (.tmp 9) rfl (w6.heap.size) (y) rfl fun w' h => hY.below h hY.lt) hS ?_
  simp only [Act.put, List.setIfInBounds_toArray, List.set_cons_zero, List.set_cons_succ]
  refine wpAnyH_take (i := 11) (oi := ⟨some 45, _, _, _, _, _⟩) (v := .string ⟨#[107, 193, 190, 226, 46, 64, 159, 150, 233, 61, 126, 17, 115, 147, 23, 42]⟩) rfl (by kernel_rfl) (by kernel_rfl) (by kernel_rfl) (fun _ _ _ h => h) (Or.inl ⟨by kernel_rfl, fun w' hSw => ?_⟩) hS ?_
  · go_simp
  simp only [Act.put, List.setIfInBounds_toArray, List.set_cons_zero, List.set_cons_succ]
  refine wpAnyH_ready (rs := [10, 12]) (by kernel_rfl) (by simp) ?_
  refine (AllReadyH.cons (o := ⟨some 44, _, _, _, _, _⟩) rfl (fun K hK => ?_) (AllReadyH.cons (o := ⟨some 46, _, _, _, _, _⟩) rfl (fun K hK => ?_) AllReadyH.nil))
  · rw [if_pos (by kernel_rfl)]
    go_simp
    refine (HD0.out _ C (hC.below hS)).mono ?_
    rintro e v1 ⟨rfl, hq1⟩
    have hqz1 := hq1.size
    refine hK.out _ _ (hS.trans (hq1.mono (by first | exact hS.size | (have := hS.size; simp at this ⊢; omega)))) (fun hS => ?_)
    clear hK K
    refine wpAnyH_ready (rs := [12]) (by kernel_rfl) (by simp) ?_
    refine (AllReadyH.cons (o := ⟨some 46, _, _, _, _, _⟩) rfl (fun K hK => ?_) AllReadyH.nil)
    rw [if_pos (by kernel_rfl)]
    refine wpo_bytesL (.tmp 45) rfl (⟨#[107, 193, 190, 226, 46, 64, 159, 150, 233, 61, 126, 17, 115, 147, 23, 42]⟩) rfl 16 (Aes.pbA) (rfl) (by decide) (by unfold maxLen; omega) (fun c2 v2 hc2 hB2 hq2 hqz2 => ?_)
    refine hK.out _ _ (hS.trans (hq2.mono (by first | exact hS.size | (have := hS.size; simp at this ⊢; omega)))) (fun hS => ?_)
    clear hK K
    simp only [Act.put, List.setIfInBounds_toArray, List.set_cons_zero, List.set_cons_succ]
    refine wpAnyH_ready (rs := [13]) (by kernel_rfl) (by simp) ?_
    refine (AllReadyH.cons (o := ⟨some 47, _, _, _, _, _⟩) rfl (fun K hK => ?_) AllReadyH.nil)
    rw [if_pos (by kernel_rfl)]
    go_simp
    refine (HB.out _ _ c2 hB2).mono ?_
    rintro e v3 ⟨rfl, hq3⟩
    have hB2 := hB2.below hq3
    have hqz3 := hq3.size
    refine hK.out _ _ (hS.trans (hq3.mono (by first | exact hS.size | (have := hS.size; simp at this ⊢; omega)))) (fun hS => ?_)
    clear hK K
    refine wpAnyH_take (i := 14) (oi := ⟨some 48, _, _, _, _, _⟩) (v := .bool true) rfl (by kernel_rfl) (by kernel_rfl) (by kernel_rfl) (fun _ _ _ h => h) (yields_same (by kernel_rfl) (.tmp 44) (.tmp 47) rfl (p) rfl rfl) hS ?_
    simp only [Act.put, List.setIfInBounds_toArray, List.set_cons_zero, List.set_cons_succ]
    refine wpAnyH_take (i := 15) (oi := ⟨some 49, _, _, _, _, _⟩) (v := .bool true) rfl (by kernel_rfl) (by kernel_rfl) (by kernel_rfl) (fun _ _ _ h => h) (Or.inl ⟨by kernel_rfl, fun w' hSw => ?_⟩) hS ?_
    · go_simp
    simp only [Act.put, List.setIfInBounds_toArray, List.set_cons_zero, List.set_cons_succ]
    refine wpAnyH_take (i := 16) (oi := ⟨some 50, _, _, _, _, _⟩) (v := .bool true) rfl (by kernel_rfl) (by kernel_rfl) (by kernel_rfl) (fun _ _ _ h => h) (Or.inl ⟨by kernel_rfl, fun w' hSw => ?_⟩) hS ?_
    · go_simp
    simp only [Act.put, List.setIfInBounds_toArray, List.set_cons_zero, List.set_cons_succ]
    refine wpAnyH_ready (rs := [17]) (by kernel_rfl) (by simp) ?_
    refine (AllReadyH.cons (o := ⟨some 51, _, _, _, _, _⟩) rfl (fun K hK => ?_) AllReadyH.nil)
    rw [if_pos (by kernel_rfl)]
    go_simp
    refine (awake6 _).mono ?_
    rintro e v4 ⟨rfl, hq4⟩
    have hB2 := hB2.below hq4
    have hqz4 := hq4.size
    refine hK.out _ _ (hS.trans (hq4.mono (by first | exact hS.size | (have := hS.size; simp at this ⊢; omega)))) (fun hS => ?_)
    clear hK K
    refine wpAnyH_take (i := 18) (oi := ⟨some 52, _, _, _, _, _⟩) (v := .bool true) rfl (by kernel_rfl) (by kernel_rfl) (by kernel_rfl) (fun _ _ _ h => h) (Or.inl ⟨by kernel_rfl, fun w' hSw => ?_⟩) hS ?_
    · go_simp
    simp only [Act.put, List.setIfInBounds_toArray, List.set_cons_zero, List.set_cons_succ]
    refine wpAnyH_take (i := 19) (oi := ⟨some 2, _, _, _, _, _⟩) (v := .bool true) rfl (by kernel_rfl) (by kernel_rfl) (by kernel_rfl) (fun _ _ _ h => h) (Or.inl ⟨by kernel_rfl, fun w' hSw => ?_⟩) hS ?_
    · go_simp
    simp only [Act.put, List.setIfInBounds_toArray, List.set_cons_zero, List.set_cons_succ]
    refine wpAnyH_done (by kernel_rfl) ?_ _
    go_wp2_with fail
    go_ret
    exact ⟨rfl, hb7.trans (hS.mono (by omega))⟩
  · rw [if_pos (by kernel_rfl)]
    refine wpo_bytesL (.tmp 45) rfl (⟨#[107, 193, 190, 226, 46, 64, 159, 150, 233, 61, 126, 17, 115, 147, 23, 42]⟩) rfl 16 (Aes.pbA) (rfl) (by decide) (by unfold maxLen; omega) (fun c1 v1 hc1 hB1 hq1 hqz1 => ?_)
    refine hK.out _ _ (hS.trans (hq1.mono (by first | exact hS.size | (have := hS.size; simp at this ⊢; omega)))) (fun hS => ?_)
    clear hK K
    simp only [Act.put, List.setIfInBounds_toArray, List.set_cons_zero, List.set_cons_succ]
    refine wpAnyH_ready (rs := [10]) (by kernel_rfl) (by simp) ?_
    refine (AllReadyH.cons (o := ⟨some 44, _, _, _, _, _⟩) rfl (fun K hK => ?_) AllReadyH.nil)
    rw [if_pos (by kernel_rfl)]
    go_simp
    refine (HD0.out _ C (hC.below hS)).mono ?_
    rintro e v2 ⟨rfl, hq2⟩
    have hB1 := hB1.below hq2
    have hqz2 := hq2.size
    refine hK.out _ _ (hS.trans (hq2.mono (by first | exact hS.size | (have := hS.size; simp at this ⊢; omega)))) (fun hS => ?_)
    clear hK K
    refine wpAnyH_ready (rs := [13]) (by kernel_rfl) (by simp) ?_
    refine (AllReadyH.cons (o := ⟨some 47, _, _, _, _, _⟩) rfl (fun K hK => ?_) AllReadyH.nil)
    rw [if_pos (by kernel_rfl)]
    go_simp
    refine (HB.out _ _ c1 hB1).mono ?_
    rintro e v3 ⟨rfl, hq3⟩
    have hB1 := hB1.below hq3
    have hqz3 := hq3.size
    refine hK.out _ _ (hS.trans (hq3.mono (by first | exact hS.size | (have := hS.size; simp at this ⊢; omega)))) (fun hS => ?_)
    clear hK K
    refine wpAnyH_take (i := 14) (oi := ⟨some 48, _, _, _, _, _⟩) (v := .bool true) rfl (by kernel_rfl) (by kernel_rfl) (by kernel_rfl) (fun _ _ _ h => h) (yields_same (by kernel_rfl) (.tmp 44) (.tmp 47) rfl (p) rfl rfl) hS ?_
    simp only [Act.put, List.setIfInBounds_toArray, List.set_cons_zero, List.set_cons_succ]
    refine wpAnyH_take (i := 15) (oi := ⟨some 49, _, _, _, _, _⟩) (v := .bool true) rfl (by kernel_rfl) (by kernel_rfl) (by kernel_rfl) (fun _ _ _ h => h) (Or.inl ⟨by kernel_rfl, fun w' hSw => ?_⟩) hS ?_
    · go_simp
    simp only [Act.put, List.setIfInBounds_toArray, List.set_cons_zero, List.set_cons_succ]
    refine wpAnyH_take (i := 16) (oi := ⟨some 50, _, _, _, _, _⟩) (v := .bool true) rfl (by kernel_rfl) (by kernel_rfl) (by kernel_rfl) (fun _ _ _ h => h) (Or.inl ⟨by kernel_rfl, fun w' hSw => ?_⟩) hS ?_
    · go_simp
    simp only [Act.put, List.setIfInBounds_toArray, List.set_cons_zero, List.set_cons_succ]
    refine wpAnyH_ready (rs := [17]) (by kernel_rfl) (by simp) ?_
    refine (AllReadyH.cons (o := ⟨some 51, _, _, _, _, _⟩) rfl (fun K hK => ?_) AllReadyH.nil)
    rw [if_pos (by kernel_rfl)]
    go_simp
    refine (awake6 _).mono ?_
    rintro e v4 ⟨rfl, hq4⟩
    have hB1 := hB1.below hq4
    have hqz4 := hq4.size
    refine hK.out _ _ (hS.trans (hq4.mono (by first | exact hS.size | (have := hS.size; simp at this ⊢; omega)))) (fun hS => ?_)
    clear hK K
    refine wpAnyH_take (i := 18) (oi := ⟨some 52, _, _, _, _, _⟩) (v := .bool true) rfl (by kernel_rfl) (by kernel_rfl) (by kernel_rfl) (fun _ _ _ h => h) (Or.inl ⟨by kernel_rfl, fun w' hSw => ?_⟩) hS ?_
    · go_simp
    simp only [Act.put, List.setIfInBounds_toArray, List.set_cons_zero, List.set_cons_succ]
    refine wpAnyH_take (i := 19) (oi := ⟨some 2, _, _, _, _, _⟩) (v := .bool true) rfl (by kernel_rfl) (by kernel_rfl) (by kernel_rfl) (fun _ _ _ h => h) (Or.inl ⟨by kernel_rfl, fun w' hSw => ?_⟩) hS ?_
    · go_simp
    simp only [Act.put, List.setIfInBounds_toArray, List.set_cons_zero, List.set_cons_succ]
    refine wpAnyH_done (by kernel_rfl) ?_ _
    go_wp2_with fail
    go_ret
    exact ⟨rfl, hb7.trans (hS.mono (by omega))⟩
set_option maxRecDepth 100000 in
set_option maxHeartbeats 4000000 in
theorem known6_1 (k : Int) (w : World) (h : k % 2 = 1) :
    Calls Try.prog 19 #[.int .i64 k] w fun e w' => e = .returned (.bool true) ∧ Below w.heap.size w w' := by
  have HR := Box.mk (fun w => round_any k 2 (by omega) (by omega) w)
  rw [h] at HR
  have HE : Box (∀ (w : World) (C : Nat), Ciph w C (words Aes.kbB) → Calls Try.prog 61 #[.pointer (some ⟨C, 0, none⟩), .agg (bv (ofL Aes.pbA))] w fun e w' => e = .returned (.agg (bv (encK Aes.kbB (ofL Aes.pbA)))) ∧ Below w.heap.size w w') := ⟨fun w C h => encrypt_key C _ _ mayKB pbA_lt w h⟩
  have HD0 : Box (∀ (w : World) (C : Nat), Ciph w C (words Aes.kbB) → Calls Try.prog 60 #[.pointer (some ⟨C, 0, none⟩), .agg (bv (encK Aes.kbB (ofL Aes.pbA)))] w fun e w' => e = .returned (.agg (bv (ofL Aes.pbA))) ∧ Below w.heap.size w w') := ⟨fun w C h => by have h := decrypt_key C _ (encK Aes.kbB (ofL Aes.pbA)) mayKB (encK_lt pbA_lt) w h; rwa [dec_encK pbA_lt] at h⟩
  have HB : Box (∀ (w : World) (A : Option Addr) (c : Nat), Bytes w A 16 Aes.pbA → Calls Try.prog 38 #[.slice A 16 c] w fun e w' => e = .returned (.agg (bv (ofL Aes.pbA))) ∧ Below w.heap.size w w') := ⟨fun w A c h => block_walk A 16 c _ w h⟩
  have HL : Box (decide (strL (listB (encK Aes.kbB (ofL Aes.pbA))) = ⟨#[243, 238, 209, 189, 181, 210, 160, 60, 6, 75, 90, 126, 61, 177, 129, 248]⟩) = true) := ⟨by rw [endB]; exact decide_eq_true (by decide)⟩
  have Hy : Box (∀ i, encK Aes.kbB (ofL Aes.pbA) i < 256) := ⟨encK_lt pbA_lt⟩
  revert HE HD0 HB HL Hy
  generalize encK Aes.kbB (ofL Aes.pbA) = y
  generalize ofL Aes.pbA = p
  intro HE HD0 HB HL Hy
  have hK : ((w.alloc (.cells #[.string ⟨#[43, 126, 21, 22, 40, 174, 210, 166, 171, 247, 21, 136, 9, 207, 79, 60]⟩, .string ⟨#[96, 61, 235, 16, 21, 202, 113, 190, 43, 115, 174, 240, 133, 125, 119, 129, 31, 53, 44, 7, 59, 97, 8, 215, 45, 152, 16, 163, 9, 20, 223, 244]⟩] 9)).alloc (.cells #[.string ⟨#[58, 215, 123, 180, 13, 122, 54, 96, 168, 158, 202, 243, 36, 102, 239, 151]⟩, .string ⟨#[243, 238, 209, 189, 181, 210, 160, 60, 6, 75, 90, 126, 61, 177, 129, 248]⟩] 9)).cell? ⟨w.heap.size, 1, none⟩ = some (.string ⟨#[96, 61, 235, 16, 21, 202, 113, 190, 43, 115, 174, 240, 133, 125, 119, 129, 31, 53, 44, 7, 59, 97, 8, 215, 45, 152, 16, 163, 9, 20, 223, 244]⟩) := by simp [World.cell?, World.alloc, -World.alloc_eq, Array.getElem?_push]
  have hE : ((w.alloc (.cells #[.string ⟨#[43, 126, 21, 22, 40, 174, 210, 166, 171, 247, 21, 136, 9, 207, 79, 60]⟩, .string ⟨#[96, 61, 235, 16, 21, 202, 113, 190, 43, 115, 174, 240, 133, 125, 119, 129, 31, 53, 44, 7, 59, 97, 8, 215, 45, 152, 16, 163, 9, 20, 223, 244]⟩] 9)).alloc (.cells #[.string ⟨#[58, 215, 123, 180, 13, 122, 54, 96, 168, 158, 202, 243, 36, 102, 239, 151]⟩, .string ⟨#[243, 238, 209, 189, 181, 210, 160, 60, 6, 75, 90, 126, 61, 177, 129, 248]⟩] 9)).cell? ⟨w.heap.size + 1, 1, none⟩ = some (.string ⟨#[243, 238, 209, 189, 181, 210, 160, 60, 6, 75, 90, 126, 61, 177, 129, 248]⟩) := (new_cell _ _ 9 1 _ (by simp)).trans rfl
  have hb1 : Below w.heap.size w ((w.alloc (.cells #[.string ⟨#[43, 126, 21, 22, 40, 174, 210, 166, 171, 247, 21, 136, 9, 207, 79, 60]⟩, .string ⟨#[96, 61, 235, 16, 21, 202, 113, 190, 43, 115, 174, 240, 133, 125, 119, 129, 31, 53, 44, 7, 59, 97, 8, 215, 45, 152, 16, 163, 9, 20, 223, 244]⟩] 9)).alloc (.cells #[.string ⟨#[58, 215, 123, 180, 13, 122, 54, 96, 168, 158, 202, 243, 36, 102, 239, 151]⟩, .string ⟨#[243, 238, 209, 189, 181, 210, 160, 60, 6, 75, 90, 126, 61, 177, 129, 248]⟩] 9)) := ((Below.refl _ _).alloc (Nat.le_refl _) _).alloc (by simp) _
  have hlt : w.heap.size + 1 < ((w.alloc (.cells #[.string ⟨#[43, 126, 21, 22, 40, 174, 210, 166, 171, 247, 21, 136, 9, 207, 79, 60]⟩, .string ⟨#[96, 61, 235, 16, 21, 202, 113, 190, 43, 115, 174, 240, 133, 125, 119, 129, 31, 53, 44, 7, 59, 97, 8, 215, 45, 152, 16, 163, 9, 20, 223, 244]⟩] 9)).alloc (.cells #[.string ⟨#[58, 215, 123, 180, 13, 122, 54, 96, 168, 158, 202, 243, 36, 102, 239, 151]⟩, .string ⟨#[243, 238, 209, 189, 181, 210, 160, 60, 6, 75, 90, 126, 61, 177, 129, 248]⟩] 9)).heap.size := by simp
  go_enter Try.func19, Try.ntmps19
  go_wp2_with fail
  revert hK hE hb1 hlt
  generalize ((w.alloc (.cells #[.string ⟨#[43, 126, 21, 22, 40, 174, 210, 166, 171, 247, 21, 136, 9, 207, 79, 60]⟩, .string ⟨#[96, 61, 235, 16, 21, 202, 113, 190, 43, 115, 174, 240, 133, 125, 119, 129, 31, 53, 44, 7, 59, 97, 8, 215, 45, 152, 16, 163, 9, 20, 223, 244]⟩] 9)).alloc (.cells #[.string ⟨#[58, 215, 123, 180, 13, 122, 54, 96, 168, 158, 202, 243, 36, 102, 239, 151]⟩, .string ⟨#[243, 238, 209, 189, 181, 210, 160, 60, 6, 75, 90, 126, 61, 177, 129, 248]⟩] 9)) = w1
  intro hK hE hb1 hlt
  refine (HR.out _).mono ?_
  rintro e w' ⟨rfl, rfl⟩
  go_wp2_with (first
    | ((with_reducible show wpList _ _ _ (⟨some 19, Op.convert 9 29 (.tmp 18), _, _, _, _⟩ :: _) _ _); refine wpList_bytesL rfl (.tmp 18) rfl ⟨#[96, 61, 235, 16, 21, 202, 113, 190, 43, 115, 174, 240, 133, 125, 119, 129, 31, 53, 44, 7, 59, 97, 8, 215, 45, 152, 16, 163, 9, 20, 223, 244]⟩ rfl 32 Aes.kbB rfl (by decide) (by unfold maxLen; omega) ?_))
  intro c2 w2 hc2 hB2 hb2 hz2
  have hE := (hb2.cell (p := ⟨w.heap.size + 1, 1, none⟩) hlt).trans hE
  have hlt : w.heap.size + 1 < w2.heap.size := by omega
  have hb2 := hb1.trans (hb2.mono (by omega))
  go_wp2_with fail
  refine (new_any _ 32 c2 _ w2 hB2 hc2 (Or.inr rfl)).mono ?_
  rintro e w3 ⟨C, rfl, hC, hb3, hC0⟩
  have hE := (hb3.cell (p := ⟨w.heap.size + 1, 1, none⟩) hlt).trans hE
  have hlt : w.heap.size + 1 < w3.heap.size := by have := hb3.size; omega
  have hb3 := hb2.trans (hb3.mono (by omega))
  clear hK hb1 hb2 hz2 hB2 hC0
  go_wp2_with (first
    | ((with_reducible show wpList _ _ _ (⟨some 31, Op.convert 9 29 (.tmp 30), _, _, _, _⟩ :: _) _ _); refine wpList_bytesL rfl (.tmp 30) rfl ⟨#[107, 193, 190, 226, 46, 64, 159, 150, 233, 61, 126, 17, 115, 147, 23, 42]⟩ rfl 16 Aes.pbA rfl (by decide) (by unfold maxLen; omega) ?_))
  intro c4 w4 hc4 hB4 hb4 hz4
  have hE := (hb4.cell (p := ⟨w.heap.size + 1, 1, none⟩) hlt).trans hE
  have hC := hC.below hb4
  have hlt : w.heap.size + 1 < w4.heap.size := by have := hb4.size; omega
  have hb4 := hb3.trans (hb4.mono (by omega))
  go_wp2_with fail
  refine (HB.out _ _ c4 hB4).mono ?_
  rintro e w5 ⟨rfl, hb5⟩
  have hE := (hb5.cell (p := ⟨w.heap.size + 1, 1, none⟩) hlt).trans hE
  have hC := hC.below hb5
  have hlt : w.heap.size + 1 < w5.heap.size := by have := hb5.size; omega
  have hb5 := hb4.trans (hb5.mono (by omega))
  clear hb3 hb4 hz4 hB4
  go_wp2_with fail
  refine (HE.out _ C hC).mono ?_
  rintro e w6 ⟨rfl, hb6⟩
  have hE := (hb6.cell (p := ⟨w.heap.size + 1, 1, none⟩) hlt).trans hE
  have hC := hC.below hb6
  have hlt : w.heap.size + 1 < w6.heap.size := by have := hb6.size; omega
  have hb6 := hb5.trans (hb6.mono (by omega))
  clear hb5
  go_wp2_with (first
    | ((with_reducible show wpList _ _ _ (⟨_, Op.store 36 (.tmp 9) (.tmp 33), _, _, _, _⟩ :: _) _ _); refine wp_store_arr rfl (.tmp 9) (.tmp 33) rfl (w6.heap.size) (fun _ => 0) (y) rfl rfl (Arr.zero _ _ rfl) ?_))
  have hY : Arr ((w6.alloc (.cells #[.int .u8 0, .int .u8 0, .int .u8 0, .int .u8 0, .int .u8 0, .int .u8 0, .int .u8 0, .int .u8 0, .int .u8 0, .int .u8 0, .int .u8 0, .int .u8 0, .int .u8 0, .int .u8 0, .int .u8 0, .int .u8 0] 36)).setRow w6.heap.size (bv y)) w6.heap.size y := (Arr.zero _ _ rfl).setRow
  have hbelW : Below w6.heap.size w6 ((w6.alloc (.cells #[.int .u8 0, .int .u8 0, .int .u8 0, .int .u8 0, .int .u8 0, .int .u8 0, .int .u8 0, .int .u8 0, .int .u8 0, .int .u8 0, .int .u8 0, .int .u8 0, .int .u8 0, .int .u8 0, .int .u8 0, .int .u8 0] 36)).setRow w6.heap.size (bv y)) := below_setRow ((Below.refl _ _).alloc (Nat.le_refl _) _) (Nat.le_refl _) _
  revert hY hbelW
  generalize ((w6.alloc (.cells #[.int .u8 0, .int .u8 0, .int .u8 0, .int .u8 0, .int .u8 0, .int .u8 0, .int .u8 0, .int .u8 0, .int .u8 0, .int .u8 0, .int .u8 0, .int .u8 0, .int .u8 0, .int .u8 0, .int .u8 0, .int .u8 0] 36)).setRow w6.heap.size (bv y)) = w7
  intro hY hbelW
  have hE := (hbelW.cell (p := ⟨w.heap.size + 1, 1, none⟩) hlt).trans hE
  have hC := hC.below hbelW
  have hlt : w.heap.size + 1 < w7.heap.size := by have := hbelW.size; omega
  have hb7 := hb6.trans (hbelW.mono (by omega))
  clear hb6 hbelW
  refine wp_region_held_drew (S := fun w' => Below w7.heap.size w7 w') (by kernel_rfl) (Below.refl _ _).drew (fun hS => ?_)
  refine wpAnyH_take (i := 0) (oi := ⟨some 34, _, _, _, _, _⟩) (v := .slice (some ⟨w6.heap.size, 0, none⟩) 16 16) rfl (by kernel_rfl) (by kernel_rfl) (by kernel_rfl) (fun _ _ _ h => h) (Or.inl ⟨by kernel_rfl, fun w' hSw => ?_⟩) hS ?_
  · go_simp
  simp only [Act.put, List.setIfInBounds_toArray, List.set_cons_zero, List.set_cons_succ]
  refine wpAnyH_take (i := 1) (oi := ⟨some 35, _, _, _, _, _⟩) (v := .string (strL (listB y))) rfl (by kernel_rfl) (by kernel_rfl) (by kernel_rfl) (fun _ _ _ h => h) (yields_str (by kernel_rfl) (.tmp 34) rfl (some ⟨w6.heap.size, 0, none⟩) (16) (16) (listB y) rfl (fun w' h => (hY.below h hY.lt).bytes Hy.out)) hS ?_
  simp only [Act.put, List.setIfInBounds_toArray, List.set_cons_zero, List.set_cons_succ]
  refine wpAnyH_take (i := 2) (oi := ⟨some 36, _, _, _, _, _⟩) (v := .slice (some ⟨w.heap.size + 1, 0, none⟩) 2 2) rfl (by kernel_rfl) (by kernel_rfl) (by kernel_rfl) (fun _ _ _ h => h) (Or.inl ⟨by kernel_rfl, fun w' hSw => ?_⟩) hS ?_
  · go_simp
  simp only [Act.put, List.setIfInBounds_toArray, List.set_cons_zero, List.set_cons_succ]
  refine wpAnyH_take (i := 3) (oi := ⟨some 37, _, _, _, _, _⟩) (v := .int .i64 1) rfl (by kernel_rfl) (by kernel_rfl) (by kernel_rfl) (fun _ _ _ h => h) (Or.inl ⟨by kernel_rfl, fun w' hSw => ?_⟩) hS ?_
  · go_simp
  simp only [Act.put, List.setIfInBounds_toArray, List.set_cons_zero, List.set_cons_succ]
  refine wpAnyH_take (i := 4) (oi := ⟨some 38, _, _, _, _, _⟩) (v := .pointer (some ⟨w.heap.size + 1, 1, none⟩)) rfl (by kernel_rfl) (by kernel_rfl) (by kernel_rfl) (fun _ _ _ h => h) (Or.inl ⟨by kernel_rfl, fun w' hSw => ?_⟩) hS ?_
  · go_simp
  simp only [Act.put, List.setIfInBounds_toArray, List.set_cons_zero, List.set_cons_succ]
  refine wpAnyH_take (i := 5) (oi := ⟨some 39, _, _, _, _, _⟩) (v := .string ⟨#[243, 238, 209, 189, 181, 210, 160, 60, 6, 75, 90, 126, 61, 177, 129, 248]⟩) rfl (by kernel_rfl) (by kernel_rfl) (by kernel_rfl) (fun _ _ _ h => h) (Or.inl ⟨by kernel_rfl, fun w' hSw => ?_⟩) hS ?_
  · (have c := (hSw.cell (p := ⟨w.heap.size + 1, 1, none⟩) hlt).trans hE; go_simp)
  simp only [Act.put, List.setIfInBounds_toArray, List.set_cons_zero, List.set_cons_succ]
  refine wpAnyH_take (i := 6) (oi := ⟨some 40, _, _, _, _, _⟩) (v := .bool true) rfl (by kernel_rfl) (by kernel_rfl) (by kernel_rfl) (fun _ _ _ h => h) (yields_strEq (by kernel_rfl) (.tmp 35) (.tmp 39) rfl (strL (listB y)) (⟨#[243, 238, 209, 189, 181, 210, 160, 60, 6, 75, 90, 126, 61, 177, 129, 248]⟩) _ (HL.out) rfl rfl) hS ?_
  simp only [Act.put, List.setIfInBounds_toArray, List.set_cons_zero, List.set_cons_succ]
  refine wpAnyH_take (i := 7) (oi := ⟨some 41, _, _, _, _, _⟩) (v := .bool true) rfl (by kernel_rfl) (by kernel_rfl) (by kernel_rfl) (fun _ _ _ h => h) (Or.inl ⟨by kernel_rfl, fun w' hSw => ?_⟩) hS ?_
  · go_simp
  simp only [Act.put, List.setIfInBounds_toArray, List.set_cons_zero, List.set_cons_succ]
  refine wpAnyH_take (i := 8) (oi := ⟨some 42, _, _, _, _, _⟩) (v := .pointer (some ⟨C, 0, none⟩)) rfl (by kernel_rfl) (by kernel_rfl) (by kernel_rfl) (fun _ _ _ h => h) (Or.inl ⟨by kernel_rfl, fun w' hSw => ?_⟩) hS ?_
  · go_simp
  simp only [Act.put, List.setIfInBounds_toArray, List.set_cons_zero, List.set_cons_succ]
  refine wpAnyH_take (i := 9) (oi := ⟨some 43, _, _, _, _, _⟩) (v := .agg (bv (y))) rfl (by kernel_rfl) (by kernel_rfl) (by kernel_rfl) (fun _ _ _ h => h) (yields_arr (by kernel_rfl) (.tmp 9) rfl (w6.heap.size) (y) rfl fun w' h => hY.below h hY.lt) hS ?_
  simp only [Act.put, List.setIfInBounds_toArray, List.set_cons_zero, List.set_cons_succ]
  refine wpAnyH_take (i := 11) (oi := ⟨some 45, _, _, _, _, _⟩) (v := .string ⟨#[107, 193, 190, 226, 46, 64, 159, 150, 233, 61, 126, 17, 115, 147, 23, 42]⟩) rfl (by kernel_rfl) (by kernel_rfl) (by kernel_rfl) (fun _ _ _ h => h) (Or.inl ⟨by kernel_rfl, fun w' hSw => ?_⟩) hS ?_
  · go_simp
  simp only [Act.put, List.setIfInBounds_toArray, List.set_cons_zero, List.set_cons_succ]
  refine wpAnyH_ready (rs := [10, 12]) (by kernel_rfl) (by simp) ?_
  refine (AllReadyH.cons (o := ⟨some 44, _, _, _, _, _⟩) rfl (fun K hK => ?_) (AllReadyH.cons (o := ⟨some 46, _, _, _, _, _⟩) rfl (fun K hK => ?_) AllReadyH.nil))
  · rw [if_pos (by kernel_rfl)]
    go_simp
    refine (HD0.out _ C (hC.below hS)).mono ?_
    rintro e v1 ⟨rfl, hq1⟩
    have hqz1 := hq1.size
    refine hK.out _ _ (hS.trans (hq1.mono (by first | exact hS.size | (have := hS.size; simp at this ⊢; omega)))) (fun hS => ?_)
    clear hK K
    refine wpAnyH_ready (rs := [12]) (by kernel_rfl) (by simp) ?_
    refine (AllReadyH.cons (o := ⟨some 46, _, _, _, _, _⟩) rfl (fun K hK => ?_) AllReadyH.nil)
    rw [if_pos (by kernel_rfl)]
    refine wpo_bytesL (.tmp 45) rfl (⟨#[107, 193, 190, 226, 46, 64, 159, 150, 233, 61, 126, 17, 115, 147, 23, 42]⟩) rfl 16 (Aes.pbA) (rfl) (by decide) (by unfold maxLen; omega) (fun c2 v2 hc2 hB2 hq2 hqz2 => ?_)
    refine hK.out _ _ (hS.trans (hq2.mono (by first | exact hS.size | (have := hS.size; simp at this ⊢; omega)))) (fun hS => ?_)
    clear hK K
    simp only [Act.put, List.setIfInBounds_toArray, List.set_cons_zero, List.set_cons_succ]
    refine wpAnyH_ready (rs := [13]) (by kernel_rfl) (by simp) ?_
    refine (AllReadyH.cons (o := ⟨some 47, _, _, _, _, _⟩) rfl (fun K hK => ?_) AllReadyH.nil)
    rw [if_pos (by kernel_rfl)]
    go_simp
    refine (HB.out _ _ c2 hB2).mono ?_
    rintro e v3 ⟨rfl, hq3⟩
    have hB2 := hB2.below hq3
    have hqz3 := hq3.size
    refine hK.out _ _ (hS.trans (hq3.mono (by first | exact hS.size | (have := hS.size; simp at this ⊢; omega)))) (fun hS => ?_)
    clear hK K
    refine wpAnyH_take (i := 14) (oi := ⟨some 48, _, _, _, _, _⟩) (v := .bool true) rfl (by kernel_rfl) (by kernel_rfl) (by kernel_rfl) (fun _ _ _ h => h) (yields_same (by kernel_rfl) (.tmp 44) (.tmp 47) rfl (p) rfl rfl) hS ?_
    simp only [Act.put, List.setIfInBounds_toArray, List.set_cons_zero, List.set_cons_succ]
    refine wpAnyH_take (i := 15) (oi := ⟨some 49, _, _, _, _, _⟩) (v := .bool true) rfl (by kernel_rfl) (by kernel_rfl) (by kernel_rfl) (fun _ _ _ h => h) (Or.inl ⟨by kernel_rfl, fun w' hSw => ?_⟩) hS ?_
    · go_simp
    simp only [Act.put, List.setIfInBounds_toArray, List.set_cons_zero, List.set_cons_succ]
    refine wpAnyH_take (i := 16) (oi := ⟨some 50, _, _, _, _, _⟩) (v := .bool true) rfl (by kernel_rfl) (by kernel_rfl) (by kernel_rfl) (fun _ _ _ h => h) (Or.inl ⟨by kernel_rfl, fun w' hSw => ?_⟩) hS ?_
    · go_simp
    simp only [Act.put, List.setIfInBounds_toArray, List.set_cons_zero, List.set_cons_succ]
    refine wpAnyH_ready (rs := [17]) (by kernel_rfl) (by simp) ?_
    refine (AllReadyH.cons (o := ⟨some 51, _, _, _, _, _⟩) rfl (fun K hK => ?_) AllReadyH.nil)
    rw [if_pos (by kernel_rfl)]
    go_simp
    refine (awake6 _).mono ?_
    rintro e v4 ⟨rfl, hq4⟩
    have hB2 := hB2.below hq4
    have hqz4 := hq4.size
    refine hK.out _ _ (hS.trans (hq4.mono (by first | exact hS.size | (have := hS.size; simp at this ⊢; omega)))) (fun hS => ?_)
    clear hK K
    refine wpAnyH_take (i := 18) (oi := ⟨some 52, _, _, _, _, _⟩) (v := .bool true) rfl (by kernel_rfl) (by kernel_rfl) (by kernel_rfl) (fun _ _ _ h => h) (Or.inl ⟨by kernel_rfl, fun w' hSw => ?_⟩) hS ?_
    · go_simp
    simp only [Act.put, List.setIfInBounds_toArray, List.set_cons_zero, List.set_cons_succ]
    refine wpAnyH_take (i := 19) (oi := ⟨some 2, _, _, _, _, _⟩) (v := .bool true) rfl (by kernel_rfl) (by kernel_rfl) (by kernel_rfl) (fun _ _ _ h => h) (Or.inl ⟨by kernel_rfl, fun w' hSw => ?_⟩) hS ?_
    · go_simp
    simp only [Act.put, List.setIfInBounds_toArray, List.set_cons_zero, List.set_cons_succ]
    refine wpAnyH_done (by kernel_rfl) ?_ _
    go_wp2_with fail
    go_ret
    exact ⟨rfl, hb7.trans (hS.mono (by omega))⟩
  · rw [if_pos (by kernel_rfl)]
    refine wpo_bytesL (.tmp 45) rfl (⟨#[107, 193, 190, 226, 46, 64, 159, 150, 233, 61, 126, 17, 115, 147, 23, 42]⟩) rfl 16 (Aes.pbA) (rfl) (by decide) (by unfold maxLen; omega) (fun c1 v1 hc1 hB1 hq1 hqz1 => ?_)
    refine hK.out _ _ (hS.trans (hq1.mono (by first | exact hS.size | (have := hS.size; simp at this ⊢; omega)))) (fun hS => ?_)
    clear hK K
    simp only [Act.put, List.setIfInBounds_toArray, List.set_cons_zero, List.set_cons_succ]
    refine wpAnyH_ready (rs := [10]) (by kernel_rfl) (by simp) ?_
    refine (AllReadyH.cons (o := ⟨some 44, _, _, _, _, _⟩) rfl (fun K hK => ?_) AllReadyH.nil)
    rw [if_pos (by kernel_rfl)]
    go_simp
    refine (HD0.out _ C (hC.below hS)).mono ?_
    rintro e v2 ⟨rfl, hq2⟩
    have hB1 := hB1.below hq2
    have hqz2 := hq2.size
    refine hK.out _ _ (hS.trans (hq2.mono (by first | exact hS.size | (have := hS.size; simp at this ⊢; omega)))) (fun hS => ?_)
    clear hK K
    refine wpAnyH_ready (rs := [13]) (by kernel_rfl) (by simp) ?_
    refine (AllReadyH.cons (o := ⟨some 47, _, _, _, _, _⟩) rfl (fun K hK => ?_) AllReadyH.nil)
    rw [if_pos (by kernel_rfl)]
    go_simp
    refine (HB.out _ _ c1 hB1).mono ?_
    rintro e v3 ⟨rfl, hq3⟩
    have hB1 := hB1.below hq3
    have hqz3 := hq3.size
    refine hK.out _ _ (hS.trans (hq3.mono (by first | exact hS.size | (have := hS.size; simp at this ⊢; omega)))) (fun hS => ?_)
    clear hK K
    refine wpAnyH_take (i := 14) (oi := ⟨some 48, _, _, _, _, _⟩) (v := .bool true) rfl (by kernel_rfl) (by kernel_rfl) (by kernel_rfl) (fun _ _ _ h => h) (yields_same (by kernel_rfl) (.tmp 44) (.tmp 47) rfl (p) rfl rfl) hS ?_
    simp only [Act.put, List.setIfInBounds_toArray, List.set_cons_zero, List.set_cons_succ]
    refine wpAnyH_take (i := 15) (oi := ⟨some 49, _, _, _, _, _⟩) (v := .bool true) rfl (by kernel_rfl) (by kernel_rfl) (by kernel_rfl) (fun _ _ _ h => h) (Or.inl ⟨by kernel_rfl, fun w' hSw => ?_⟩) hS ?_
    · go_simp
    simp only [Act.put, List.setIfInBounds_toArray, List.set_cons_zero, List.set_cons_succ]
    refine wpAnyH_take (i := 16) (oi := ⟨some 50, _, _, _, _, _⟩) (v := .bool true) rfl (by kernel_rfl) (by kernel_rfl) (by kernel_rfl) (fun _ _ _ h => h) (Or.inl ⟨by kernel_rfl, fun w' hSw => ?_⟩) hS ?_
    · go_simp
    simp only [Act.put, List.setIfInBounds_toArray, List.set_cons_zero, List.set_cons_succ]
    refine wpAnyH_ready (rs := [17]) (by kernel_rfl) (by simp) ?_
    refine (AllReadyH.cons (o := ⟨some 51, _, _, _, _, _⟩) rfl (fun K hK => ?_) AllReadyH.nil)
    rw [if_pos (by kernel_rfl)]
    go_simp
    refine (awake6 _).mono ?_
    rintro e v4 ⟨rfl, hq4⟩
    have hB1 := hB1.below hq4
    have hqz4 := hq4.size
    refine hK.out _ _ (hS.trans (hq4.mono (by first | exact hS.size | (have := hS.size; simp at this ⊢; omega)))) (fun hS => ?_)
    clear hK K
    refine wpAnyH_take (i := 18) (oi := ⟨some 52, _, _, _, _, _⟩) (v := .bool true) rfl (by kernel_rfl) (by kernel_rfl) (by kernel_rfl) (fun _ _ _ h => h) (Or.inl ⟨by kernel_rfl, fun w' hSw => ?_⟩) hS ?_
    · go_simp
    simp only [Act.put, List.setIfInBounds_toArray, List.set_cons_zero, List.set_cons_succ]
    refine wpAnyH_take (i := 19) (oi := ⟨some 2, _, _, _, _, _⟩) (v := .bool true) rfl (by kernel_rfl) (by kernel_rfl) (by kernel_rfl) (fun _ _ _ h => h) (Or.inl ⟨by kernel_rfl, fun w' hSw => ?_⟩) hS ?_
    · go_simp
    simp only [Act.put, List.setIfInBounds_toArray, List.set_cons_zero, List.set_cons_succ]
    refine wpAnyH_done (by kernel_rfl) ?_ _
    go_wp2_with fail
    go_ret
    exact ⟨rfl, hb7.trans (hS.mono (by omega))⟩
theorem aesKnown_walk {w : World} (k : Int) (_h0 : -9223372036854775808 ≤ k) (_h1 : k ≤ 9223372036854775807) :
    Calls Try.prog 19 #[.int .i64 k] w fun e w' => e = .returned (.bool true) ∧ Below w.heap.size w w' := by
  rcases (show k % 2 = 0 ∨ k % 2 = 1 by omega) with h | h
  · exact known6_0 k w h
  · exact known6_1 k w h
end Go.Proofs.Ytibfihjcjohadaa
