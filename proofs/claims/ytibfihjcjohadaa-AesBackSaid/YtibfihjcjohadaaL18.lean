/-
  The walk of the law on both ways of a block: it returns true, whatever the input, and writes nothing that was there.
-/
import Derived.Test.YtibfihjcjohadaaLawsB
namespace Go.Proofs.Ytibfihjcjohadaa
open Go.RowKit Go.Op
open Aes (words)
set_option maxRecDepth 100000 in
set_option maxHeartbeats 1000000 in
theorem back6_outN (A : Option Addr) (n c : Nat) (B : Option Addr) (n1 c1 : Nat) (D : Option Addr) (n2 c2 : Nat) (w : World) (h16 : ((n : Int) != 16) = true) (h32 : ((n : Int) != 32) = true) :
    Calls Try.prog 18 #[.slice A n c, .slice B n1 c1, .slice D n2 c2] w fun e w' => e = .returned (.bool true) ∧ Below w.heap.size w w' := by
  go_enter Try.func18, Try.ntmps18
  go_wp2_with fail
  refine (awake6 _).mono ?_
  rintro e w' ⟨rfl, hbel⟩
  go_wp2_with fail
  go_ret
  exact ⟨rfl, hbel⟩
set_option maxRecDepth 100000 in
set_option maxHeartbeats 1000000 in
theorem back6_outA (A : Option Addr) (n c : Nat) (B : Option Addr) (n1 c1 : Nat) (D : Option Addr) (n2 c2 : Nat) (w : World) (h16 : ((n : Int) != 16) = false) (h1 : 100 < n1) :
    Calls Try.prog 18 #[.slice A n c, .slice B n1 c1, .slice D n2 c2] w fun e w' => e = .returned (.bool true) ∧ Below w.heap.size w w' := by
  go_enter Try.func18, Try.ntmps18
  go_wp2_with fail
  refine (awake6 _).mono ?_
  rintro e w' ⟨rfl, hbel⟩
  go_wp2_with fail
  go_ret
  exact ⟨rfl, hbel⟩
set_option maxRecDepth 100000 in
set_option maxHeartbeats 1000000 in
theorem back6_outB (A : Option Addr) (n c : Nat) (B : Option Addr) (n1 c1 : Nat) (D : Option Addr) (n2 c2 : Nat) (w : World) (h16 : ((n : Int) != 16) = true) (h32 : ((n : Int) != 32) = false) (h1 : 100 < n1) :
    Calls Try.prog 18 #[.slice A n c, .slice B n1 c1, .slice D n2 c2] w fun e w' => e = .returned (.bool true) ∧ Below w.heap.size w w' := by
  go_enter Try.func18, Try.ntmps18
  go_wp2_with fail
  refine (awake6 _).mono ?_
  rintro e w' ⟨rfl, hbel⟩
  go_wp2_with fail
  go_ret
  exact ⟨rfl, hbel⟩
set_option maxRecDepth 100000 in
set_option maxHeartbeats 1000000 in
theorem back6_outC (A : Option Addr) (n c : Nat) (B : Option Addr) (n1 c1 : Nat) (D : Option Addr) (n2 c2 : Nat) (w : World) (h16 : ((n : Int) != 16) = false) (h1 : n1 ≤ 100) (h2 : 100 < n2) :
    Calls Try.prog 18 #[.slice A n c, .slice B n1 c1, .slice D n2 c2] w fun e w' => e = .returned (.bool true) ∧ Below w.heap.size w w' := by
  go_enter Try.func18, Try.ntmps18
  go_wp2_with fail
  refine (awake6 _).mono ?_
  rintro e w' ⟨rfl, hbel⟩
  go_wp2_with fail
  go_ret
  exact ⟨rfl, hbel⟩
set_option maxRecDepth 100000 in
set_option maxHeartbeats 1000000 in
theorem back6_outD (A : Option Addr) (n c : Nat) (B : Option Addr) (n1 c1 : Nat) (D : Option Addr) (n2 c2 : Nat) (w : World) (h16 : ((n : Int) != 16) = true) (h32 : ((n : Int) != 32) = false) (h1 : n1 ≤ 100) (h2 : 100 < n2) :
    Calls Try.prog 18 #[.slice A n c, .slice B n1 c1, .slice D n2 c2] w fun e w' => e = .returned (.bool true) ∧ Below w.heap.size w w' := by
  go_enter Try.func18, Try.ntmps18
  go_wp2_with fail
  refine (awake6 _).mono ?_
  rintro e w' ⟨rfl, hbel⟩
  go_wp2_with fail
  go_ret
  exact ⟨rfl, hbel⟩
set_option maxRecDepth 100000 in
set_option maxHeartbeats 4000000 in
theorem back6_in (A : Option Addr) (n c : Nat) (l : List Nat) (B : Option Addr) (n1 c1 : Nat) (l1 : List Nat) (D : Option Addr) (n2 c2 : Nat) (l2 : List Nat) (w : World) (hl : Bytes w A n l) (hc : n ≤ c) (hl1 : Bytes w B n1 l1) (hl2 : Bytes w D n2 l2)
    (hn : n = 16 ∨ n = 32) (h16 : (((n : Int) != 16) && ((n : Int) != 32)) = false) (h1 : n1 ≤ 100) (h2 : n2 ≤ 100) :
    Calls Try.prog 18 #[.slice A n c, .slice B n1 c1, .slice D n2 c2] w fun e w' => e = .returned (.bool true) ∧ Below w.heap.size w w' := by
  have hk : Box (MayK l.length) := ⟨by rw [hl.1]; exact hn⟩
  have HC := Box.mk (fun w hl => block_walk B n1 c1 l1 w hl)
  have HD := Box.mk (fun w hl => block_walk D n2 c2 l2 w hl)
  have HK := Box.mk (fun w hl => new_any A n c l w hl hc hn)
  have Hf : Box (∀ i, ofL l1 i < 256) := ⟨ofL_lt hl1.2.2.1⟩
  have Hg : Box (∀ i, ofL l2 i < 256) := ⟨ofL_lt hl2.2.2.1⟩
  revert HC HD Hf Hg
  generalize ofL l1 = f
  generalize ofL l2 = g
  intro HC HD Hf Hg
  go_enter Try.func18, Try.ntmps18
  go_wp2_with fail
  all_goals
    refine (HK.out _ hl).mono ?_
    rintro e w1 ⟨C, rfl, hC, hb1, hC0⟩
    go_wp2_with fail
    refine (HC.out _ (hl1.below hb1)).mono ?_
    rintro e w2 ⟨rfl, hb2⟩
    have hC2 := hC.below hb2
    have hb2' := hb1.trans (hb2.mono hb1.size)
    go_wp2_with fail
    refine (HD.out _ (hl2.below hb2')).mono ?_
    rintro e w3 ⟨rfl, hb3⟩
    have hC3 := hC2.below hb3
    have hb3' := hb2'.trans (hb3.mono hb2'.size)
    clear hC hC2 hb1 hb2 hb2' hb3 hC0 HC HD HK hl hl1 hl2
    have hs3 := hb3'.size
    go_wp2_with (first
        | ((with_reducible show wpList _ _ _ (⟨_, Op.store 36 (.tmp 9) (.tmp 42), _, _, _, _⟩ :: _) _ _); refine wp_store_arr rfl (.tmp 9) (.tmp 42) rfl (w3.heap.size) (fun _ => 0) (f) rfl rfl ((Arr.zero _ _ rfl).alloc _) ?_)
        | ((with_reducible show wpList _ _ _ (⟨_, Op.store 36 (.tmp 10) (.tmp 44), _, _, _, _⟩ :: _) _ _); refine wp_store_arr rfl (.tmp 10) (.tmp 44) rfl (w3.heap.size + 1) (fun _ => 0) (g) rfl rfl ((Arr.zero _ _ (by simp)).setRow_far (by omega)) ?_))
    have hF : Arr ((((w3.alloc (.cells #[.int .u8 0, .int .u8 0, .int .u8 0, .int .u8 0, .int .u8 0, .int .u8 0, .int .u8 0, .int .u8 0, .int .u8 0, .int .u8 0, .int .u8 0, .int .u8 0, .int .u8 0, .int .u8 0, .int .u8 0, .int .u8 0] 36)).alloc (.cells #[.int .u8 0, .int .u8 0, .int .u8 0, .int .u8 0, .int .u8 0, .int .u8 0, .int .u8 0, .int .u8 0, .int .u8 0, .int .u8 0, .int .u8 0, .int .u8 0, .int .u8 0, .int .u8 0, .int .u8 0, .int .u8 0] 36)).setRow w3.heap.size (bv f)).setRow (w3.heap.size + 1) (bv g)) w3.heap.size f := (((Arr.zero _ _ rfl).alloc _).setRow).setRow_far (by omega)
    have hG : Arr ((((w3.alloc (.cells #[.int .u8 0, .int .u8 0, .int .u8 0, .int .u8 0, .int .u8 0, .int .u8 0, .int .u8 0, .int .u8 0, .int .u8 0, .int .u8 0, .int .u8 0, .int .u8 0, .int .u8 0, .int .u8 0, .int .u8 0, .int .u8 0] 36)).alloc (.cells #[.int .u8 0, .int .u8 0, .int .u8 0, .int .u8 0, .int .u8 0, .int .u8 0, .int .u8 0, .int .u8 0, .int .u8 0, .int .u8 0, .int .u8 0, .int .u8 0, .int .u8 0, .int .u8 0, .int .u8 0, .int .u8 0] 36)).setRow w3.heap.size (bv f)).setRow (w3.heap.size + 1) (bv g)) (w3.heap.size + 1) g := ((Arr.zero _ _ (by simp)).setRow_far (by omega)).setRow
    have hbelW : Below w3.heap.size w3 ((((w3.alloc (.cells #[.int .u8 0, .int .u8 0, .int .u8 0, .int .u8 0, .int .u8 0, .int .u8 0, .int .u8 0, .int .u8 0, .int .u8 0, .int .u8 0, .int .u8 0, .int .u8 0, .int .u8 0, .int .u8 0, .int .u8 0, .int .u8 0] 36)).alloc (.cells #[.int .u8 0, .int .u8 0, .int .u8 0, .int .u8 0, .int .u8 0, .int .u8 0, .int .u8 0, .int .u8 0, .int .u8 0, .int .u8 0, .int .u8 0, .int .u8 0, .int .u8 0, .int .u8 0, .int .u8 0, .int .u8 0] 36)).setRow w3.heap.size (bv f)).setRow (w3.heap.size + 1) (bv g)) := below_setRow (below_setRow (((Below.refl _ _).alloc (Nat.le_refl _) _).alloc (by simp) _) (Nat.le_refl _) _) (by omega) _
    revert hF hG hbelW
    generalize ((((w3.alloc (.cells #[.int .u8 0, .int .u8 0, .int .u8 0, .int .u8 0, .int .u8 0, .int .u8 0, .int .u8 0, .int .u8 0, .int .u8 0, .int .u8 0, .int .u8 0, .int .u8 0, .int .u8 0, .int .u8 0, .int .u8 0, .int .u8 0] 36)).alloc (.cells #[.int .u8 0, .int .u8 0, .int .u8 0, .int .u8 0, .int .u8 0, .int .u8 0, .int .u8 0, .int .u8 0, .int .u8 0, .int .u8 0, .int .u8 0, .int .u8 0, .int .u8 0, .int .u8 0, .int .u8 0, .int .u8 0] 36)).setRow w3.heap.size (bv f)).setRow (w3.heap.size + 1) (bv g)) = w4
    intro hF hG hbelW
    have hC4 := hC3.below hbelW
    have hb4 := hb3'.trans (hbelW.mono hs3)
    have HE : Box (∀ (h : Nat → Nat) (w1 : World), (∀ i, h i < 256) → Below w4.heap.size w4 w1 → Calls Try.prog 61 #[.pointer (some ⟨C, 0, none⟩), .agg (bv h)] w1 fun e w' => e = .returned (.agg (bv (encK l h))) ∧ Below w1.heap.size w1 w') := ⟨fun h w1 hh hb => encrypt_key C l h hk.out hh w1 (hC4.below hb)⟩
    have HD : Box (∀ (h : Nat → Nat) (w1 : World), (∀ i, h i < 256) → Below w4.heap.size w4 w1 → Calls Try.prog 60 #[.pointer (some ⟨C, 0, none⟩), .agg (bv h)] w1 fun e w' => e = .returned (.agg (bv (decK l h))) ∧ Below w1.heap.size w1 w') := ⟨fun h w1 hh hb => decrypt_key C l h hk.out hh w1 (hC4.below hb)⟩
    obtain ⟨b, hb⟩ : ∃ b, eqB f g = b := ⟨_, rfl⟩
    have HB := Box.mk hb
    clear hb hC3 hC4 hb3' hs3 hbelW
    refine wp_region_held_drew (S := fun w' => Below w4.heap.size w4 w') (by kernel_rfl) (Below.refl _ _).drew (fun hS => ?_)
    refine wpAnyH_take (i := 0) (oi := ⟨some 45, _, _, _, _, _⟩) (v := .pointer (some ⟨C, 0, none⟩)) rfl (by kernel_rfl) (by kernel_rfl) (by kernel_rfl) (fun _ _ _ h => h) (Or.inl ⟨by kernel_rfl, fun w' hSw => ?_⟩) hS ?_
    · go_simp
    simp only [Act.put, List.setIfInBounds_toArray, List.set_cons_zero, List.set_cons_succ]
    refine wpAnyH_take (i := 1) (oi := ⟨some 46, _, _, _, _, _⟩) (v := .pointer (some ⟨C, 0, none⟩)) rfl (by kernel_rfl) (by kernel_rfl) (by kernel_rfl) (fun _ _ _ h => h) (Or.inl ⟨by kernel_rfl, fun w' hSw => ?_⟩) hS ?_
    · go_simp
    simp only [Act.put, List.setIfInBounds_toArray, List.set_cons_zero, List.set_cons_succ]
    refine wpAnyH_take (i := 2) (oi := ⟨some 47, _, _, _, _, _⟩) (v := .agg (bv (f))) rfl (by kernel_rfl) (by kernel_rfl) (by kernel_rfl) (fun _ _ _ h => h) (yields_arr (by kernel_rfl) (.tmp 9) rfl (w3.heap.size) (f) rfl fun w' h => hF.below h hF.lt) hS ?_
    simp only [Act.put, List.setIfInBounds_toArray, List.set_cons_zero, List.set_cons_succ]
    refine wpAnyH_take (i := 5) (oi := ⟨some 50, _, _, _, _, _⟩) (v := .agg (bv (f))) rfl (by kernel_rfl) (by kernel_rfl) (by kernel_rfl) (fun _ _ _ h => h) (yields_arr (by kernel_rfl) (.tmp 9) rfl (w3.heap.size) (f) rfl fun w' h => hF.below h hF.lt) hS ?_
    simp only [Act.put, List.setIfInBounds_toArray, List.set_cons_zero, List.set_cons_succ]
    refine wpAnyH_ready (rs := [3]) (by kernel_rfl) (by simp) ?_
    refine (AllReadyH.cons (o := ⟨some 48, _, _, _, _, _⟩) rfl (fun K hK => ?_) AllReadyH.nil)
    rw [if_pos (by kernel_rfl)]
    go_simp
    refine (HE.out f _ Hf.out hS).mono ?_
    rintro e v1 ⟨rfl, hq1⟩
    have hqz1 := hq1.size
    refine hK.out _ _ (hS.trans (hq1.mono (by first | exact hS.size | (have := hS.size; simp at this ⊢; omega)))) (fun hS => ?_)
    clear hK K
    refine wpAnyH_ready (rs := [4]) (by kernel_rfl) (by simp) ?_
    refine (AllReadyH.cons (o := ⟨some 49, _, _, _, _, _⟩) rfl (fun K hK => ?_) AllReadyH.nil)
    rw [if_pos (by kernel_rfl)]
    go_simp
    refine (HD.out (encK l f) _ (encK_lt Hf.out) hS).mono ?_
    rw [dec_encK Hf.out]
    rintro e v2 ⟨rfl, hq2⟩
    have hqz2 := hq2.size
    refine hK.out _ _ (hS.trans (hq2.mono (by first | exact hS.size | (have := hS.size; simp at this ⊢; omega)))) (fun hS => ?_)
    clear hK K
    refine wpAnyH_take (i := 6) (oi := ⟨some 51, _, _, _, _, _⟩) (v := .bool true) rfl (by kernel_rfl) (by kernel_rfl) (by kernel_rfl) (fun _ _ _ h => h) (yields_same (by kernel_rfl) (.tmp 49) (.tmp 50) rfl (f) rfl rfl) hS ?_
    simp only [Act.put, List.setIfInBounds_toArray, List.set_cons_zero, List.set_cons_succ]
    refine wpAnyH_take (i := 7) (oi := ⟨some 52, _, _, _, _, _⟩) (v := .bool true) rfl (by kernel_rfl) (by kernel_rfl) (by kernel_rfl) (fun _ _ _ h => h) (Or.inl ⟨by kernel_rfl, fun w' hSw => ?_⟩) hS ?_
    · go_simp
    simp only [Act.put, List.setIfInBounds_toArray, List.set_cons_zero, List.set_cons_succ]
    refine wpAnyH_take (i := 8) (oi := ⟨some 53, _, _, _, _, _⟩) (v := .pointer (some ⟨C, 0, none⟩)) rfl (by kernel_rfl) (by kernel_rfl) (by kernel_rfl) (fun _ _ _ h => h) (Or.inl ⟨by kernel_rfl, fun w' hSw => ?_⟩) hS ?_
    · go_simp
    simp only [Act.put, List.setIfInBounds_toArray, List.set_cons_zero, List.set_cons_succ]
    refine wpAnyH_take (i := 9) (oi := ⟨some 54, _, _, _, _, _⟩) (v := .pointer (some ⟨C, 0, none⟩)) rfl (by kernel_rfl) (by kernel_rfl) (by kernel_rfl) (fun _ _ _ h => h) (Or.inl ⟨by kernel_rfl, fun w' hSw => ?_⟩) hS ?_
    · go_simp
    simp only [Act.put, List.setIfInBounds_toArray, List.set_cons_zero, List.set_cons_succ]
    refine wpAnyH_take (i := 10) (oi := ⟨some 55, _, _, _, _, _⟩) (v := .agg (bv (f))) rfl (by kernel_rfl) (by kernel_rfl) (by kernel_rfl) (fun _ _ _ h => h) (yields_arr (by kernel_rfl) (.tmp 9) rfl (w3.heap.size) (f) rfl fun w' h => hF.below h hF.lt) hS ?_
    simp only [Act.put, List.setIfInBounds_toArray, List.set_cons_zero, List.set_cons_succ]
    refine wpAnyH_take (i := 13) (oi := ⟨some 58, _, _, _, _, _⟩) (v := .agg (bv (f))) rfl (by kernel_rfl) (by kernel_rfl) (by kernel_rfl) (fun _ _ _ h => h) (yields_arr (by kernel_rfl) (.tmp 9) rfl (w3.heap.size) (f) rfl fun w' h => hF.below h hF.lt) hS ?_
    simp only [Act.put, List.setIfInBounds_toArray, List.set_cons_zero, List.set_cons_succ]
    refine wpAnyH_ready (rs := [11]) (by kernel_rfl) (by simp) ?_
    refine (AllReadyH.cons (o := ⟨some 56, _, _, _, _, _⟩) rfl (fun K hK => ?_) AllReadyH.nil)
    rw [if_pos (by kernel_rfl)]
    go_simp
    refine (HD.out f _ Hf.out hS).mono ?_
    rintro e v3 ⟨rfl, hq3⟩
    have hqz3 := hq3.size
    refine hK.out _ _ (hS.trans (hq3.mono (by first | exact hS.size | (have := hS.size; simp at this ⊢; omega)))) (fun hS => ?_)
    clear hK K
    refine wpAnyH_ready (rs := [12]) (by kernel_rfl) (by simp) ?_
    refine (AllReadyH.cons (o := ⟨some 57, _, _, _, _, _⟩) rfl (fun K hK => ?_) AllReadyH.nil)
    rw [if_pos (by kernel_rfl)]
    go_simp
    refine (HE.out (decK l f) _ (decK_lt Hf.out) hS).mono ?_
    rw [enc_decK Hf.out]
    rintro e v4 ⟨rfl, hq4⟩
    have hqz4 := hq4.size
    refine hK.out _ _ (hS.trans (hq4.mono (by first | exact hS.size | (have := hS.size; simp at this ⊢; omega)))) (fun hS => ?_)
    clear hK K
    refine wpAnyH_take (i := 14) (oi := ⟨some 59, _, _, _, _, _⟩) (v := .bool true) rfl (by kernel_rfl) (by kernel_rfl) (by kernel_rfl) (fun _ _ _ h => h) (yields_same (by kernel_rfl) (.tmp 57) (.tmp 58) rfl (f) rfl rfl) hS ?_
    simp only [Act.put, List.setIfInBounds_toArray, List.set_cons_zero, List.set_cons_succ]
    refine wpAnyH_take (i := 15) (oi := ⟨some 60, _, _, _, _, _⟩) (v := .bool true) rfl (by kernel_rfl) (by kernel_rfl) (by kernel_rfl) (fun _ _ _ h => h) (Or.inl ⟨by kernel_rfl, fun w' hSw => ?_⟩) hS ?_
    · go_simp
    simp only [Act.put, List.setIfInBounds_toArray, List.set_cons_zero, List.set_cons_succ]
    refine wpAnyH_take (i := 16) (oi := ⟨some 61, _, _, _, _, _⟩) (v := .bool true) rfl (by kernel_rfl) (by kernel_rfl) (by kernel_rfl) (fun _ _ _ h => h) (Or.inl ⟨by kernel_rfl, fun w' hSw => ?_⟩) hS ?_
    · go_simp
    simp only [Act.put, List.setIfInBounds_toArray, List.set_cons_zero, List.set_cons_succ]
    refine wpAnyH_take (i := 17) (oi := ⟨some 62, _, _, _, _, _⟩) (v := .pointer (some ⟨C, 0, none⟩)) rfl (by kernel_rfl) (by kernel_rfl) (by kernel_rfl) (fun _ _ _ h => h) (Or.inl ⟨by kernel_rfl, fun w' hSw => ?_⟩) hS ?_
    · go_simp
    simp only [Act.put, List.setIfInBounds_toArray, List.set_cons_zero, List.set_cons_succ]
    refine wpAnyH_take (i := 18) (oi := ⟨some 63, _, _, _, _, _⟩) (v := .agg (bv (f))) rfl (by kernel_rfl) (by kernel_rfl) (by kernel_rfl) (fun _ _ _ h => h) (yields_arr (by kernel_rfl) (.tmp 9) rfl (w3.heap.size) (f) rfl fun w' h => hF.below h hF.lt) hS ?_
    simp only [Act.put, List.setIfInBounds_toArray, List.set_cons_zero, List.set_cons_succ]
    refine wpAnyH_take (i := 20) (oi := ⟨some 65, _, _, _, _, _⟩) (v := .pointer (some ⟨C, 0, none⟩)) rfl (by kernel_rfl) (by kernel_rfl) (by kernel_rfl) (fun _ _ _ h => h) (Or.inl ⟨by kernel_rfl, fun w' hSw => ?_⟩) hS ?_
    · go_simp
    simp only [Act.put, List.setIfInBounds_toArray, List.set_cons_zero, List.set_cons_succ]
    refine wpAnyH_take (i := 21) (oi := ⟨some 66, _, _, _, _, _⟩) (v := .agg (bv (g))) rfl (by kernel_rfl) (by kernel_rfl) (by kernel_rfl) (fun _ _ _ h => h) (yields_arr (by kernel_rfl) (.tmp 10) rfl (w3.heap.size + 1) (g) rfl fun w' h => hG.below h hG.lt) hS ?_
    simp only [Act.put, List.setIfInBounds_toArray, List.set_cons_zero, List.set_cons_succ]
    refine wpAnyH_take (i := 24) (oi := ⟨some 69, _, _, _, _, _⟩) (v := .agg (bv (f))) rfl (by kernel_rfl) (by kernel_rfl) (by kernel_rfl) (fun _ _ _ h => h) (yields_arr (by kernel_rfl) (.tmp 9) rfl (w3.heap.size) (f) rfl fun w' h => hF.below h hF.lt) hS ?_
    simp only [Act.put, List.setIfInBounds_toArray, List.set_cons_zero, List.set_cons_succ]
    refine wpAnyH_take (i := 25) (oi := ⟨some 70, _, _, _, _, _⟩) (v := .agg (bv (g))) rfl (by kernel_rfl) (by kernel_rfl) (by kernel_rfl) (fun _ _ _ h => h) (yields_arr (by kernel_rfl) (.tmp 10) rfl (w3.heap.size + 1) (g) rfl fun w' h => hG.below h hG.lt) hS ?_
    simp only [Act.put, List.setIfInBounds_toArray, List.set_cons_zero, List.set_cons_succ]
    refine wpAnyH_take (i := 26) (oi := ⟨some 71, _, _, _, _, _⟩) (v := .bool b) rfl (by kernel_rfl) (by kernel_rfl) (by kernel_rfl) (fun _ _ _ h => h) (yields_eqB (by kernel_rfl) (.tmp 69) (.tmp 70) rfl (f) (g) _ (HB.out) rfl rfl) hS ?_
    simp only [Act.put, List.setIfInBounds_toArray, List.set_cons_zero, List.set_cons_succ]
    refine wpAnyH_ready (rs := [19]) (by kernel_rfl) (by simp) ?_
    refine (AllReadyH.cons (o := ⟨some 64, _, _, _, _, _⟩) rfl (fun K hK => ?_) AllReadyH.nil)
    rw [if_pos (by kernel_rfl)]
    go_simp
    refine (HE.out f _ Hf.out hS).mono ?_
    rintro e v5 ⟨rfl, hq5⟩
    have hqz5 := hq5.size
    refine hK.out _ _ (hS.trans (hq5.mono (by first | exact hS.size | (have := hS.size; simp at this ⊢; omega)))) (fun hS => ?_)
    clear hK K
    refine wpAnyH_ready (rs := [22]) (by kernel_rfl) (by simp) ?_
    refine (AllReadyH.cons (o := ⟨some 67, _, _, _, _, _⟩) rfl (fun K hK => ?_) AllReadyH.nil)
    rw [if_pos (by kernel_rfl)]
    go_simp
    refine (HE.out g _ Hg.out hS).mono ?_
    rintro e v6 ⟨rfl, hq6⟩
    have hqz6 := hq6.size
    refine hK.out _ _ (hS.trans (hq6.mono (by first | exact hS.size | (have := hS.size; simp at this ⊢; omega)))) (fun hS => ?_)
    clear hK K
    refine wpAnyH_take (i := 23) (oi := ⟨some 68, _, _, _, _, _⟩) (v := .bool b) rfl (by kernel_rfl) (by kernel_rfl) (by kernel_rfl) (fun _ _ _ h => h) (yields_eqB (by kernel_rfl) (.tmp 64) (.tmp 67) rfl (encK l f) (encK l g) _ ((eqB_encK Hf.out Hg.out).trans HB.out) rfl rfl) hS ?_
    simp only [Act.put, List.setIfInBounds_toArray, List.set_cons_zero, List.set_cons_succ]
    refine wpAnyH_take (i := 27) (oi := ⟨some 72, _, _, _, _, _⟩) (v := .bool true) rfl (by kernel_rfl) (by kernel_rfl) (by kernel_rfl) (fun _ _ _ h => h) (Or.inl ⟨by kernel_rfl, fun w' hSw => ?_⟩) hS ?_
    · (cases b <;> go_simp)
    simp only [Act.put, List.setIfInBounds_toArray, List.set_cons_zero, List.set_cons_succ]
    refine wpAnyH_take (i := 28) (oi := ⟨some 73, _, _, _, _, _⟩) (v := .bool true) rfl (by kernel_rfl) (by kernel_rfl) (by kernel_rfl) (fun _ _ _ h => h) (Or.inl ⟨by kernel_rfl, fun w' hSw => ?_⟩) hS ?_
    · go_simp
    simp only [Act.put, List.setIfInBounds_toArray, List.set_cons_zero, List.set_cons_succ]
    refine wpAnyH_take (i := 29) (oi := ⟨some 74, _, _, _, _, _⟩) (v := .bool true) rfl (by kernel_rfl) (by kernel_rfl) (by kernel_rfl) (fun _ _ _ h => h) (Or.inl ⟨by kernel_rfl, fun w' hSw => ?_⟩) hS ?_
    · go_simp
    simp only [Act.put, List.setIfInBounds_toArray, List.set_cons_zero, List.set_cons_succ]
    refine wpAnyH_ready (rs := [30]) (by kernel_rfl) (by simp) ?_
    refine (AllReadyH.cons (o := ⟨some 75, _, _, _, _, _⟩) rfl (fun K hK => ?_) AllReadyH.nil)
    rw [if_pos (by kernel_rfl)]
    go_simp
    refine (awake6 _).mono ?_
    rintro e v7 ⟨rfl, hq7⟩
    have hqz7 := hq7.size
    refine hK.out _ _ (hS.trans (hq7.mono (by first | exact hS.size | (have := hS.size; simp at this ⊢; omega)))) (fun hS => ?_)
    clear hK K
    refine wpAnyH_take (i := 31) (oi := ⟨some 76, _, _, _, _, _⟩) (v := .bool true) rfl (by kernel_rfl) (by kernel_rfl) (by kernel_rfl) (fun _ _ _ h => h) (Or.inl ⟨by kernel_rfl, fun w' hSw => ?_⟩) hS ?_
    · go_simp
    simp only [Act.put, List.setIfInBounds_toArray, List.set_cons_zero, List.set_cons_succ]
    refine wpAnyH_take (i := 32) (oi := ⟨some 6, _, _, _, _, _⟩) (v := .bool true) rfl (by kernel_rfl) (by kernel_rfl) (by kernel_rfl) (fun _ _ _ h => h) (Or.inl ⟨by kernel_rfl, fun w' hSw => ?_⟩) hS ?_
    · go_simp
    simp only [Act.put, List.setIfInBounds_toArray, List.set_cons_zero, List.set_cons_succ]
    refine wpAnyH_done (by kernel_rfl) ?_ _
    go_wp2_with fail
    go_ret
    exact ⟨rfl, hb4.trans (hS.mono hb4.size)⟩
theorem aesBack_walk {w : World} (A : Option Addr) (n c : Nat) (l : List Nat) (hc : n ≤ c) (hl : Bytes w A n l) (B : Option Addr) (n1 c1 : Nat) (l1 : List Nat) (_hc1 : n1 ≤ c1) (hl1 : Bytes w B n1 l1) (D : Option Addr) (n2 c2 : Nat) (l2 : List Nat) (_hc2 : n2 ≤ c2) (hl2 : Bytes w D n2 l2) :
    Calls Try.prog 18 #[.slice A n c, .slice B n1 c1, .slice D n2 c2] w fun e w' => e = .returned (.bool true) ∧ Below w.heap.size w w' := by
  by_cases h16 : n = 16
  · have e : ((n : Int) != 16) = false := by simp; omega
    by_cases h1 : n1 ≤ 100
    · by_cases h2 : n2 ≤ 100
      · exact back6_in A n c l B n1 c1 l1 D n2 c2 l2 w hl hc hl1 hl2 (.inl h16) (by rw [e]; rfl) h1 h2
      · exact back6_outC A n c B n1 c1 D n2 c2 w e h1 (by omega)
    · exact back6_outA A n c B n1 c1 D n2 c2 w e (by omega)
  · have e : ((n : Int) != 16) = true := by simp; omega
    by_cases h32 : n = 32
    · have e2 : ((n : Int) != 32) = false := by simp; omega
      by_cases h1 : n1 ≤ 100
      · by_cases h2 : n2 ≤ 100
        · exact back6_in A n c l B n1 c1 l1 D n2 c2 l2 w hl hc hl1 hl2 (.inr h32) (by rw [e, e2]; rfl) h1 h2
        · exact back6_outD A n c B n1 c1 D n2 c2 w e e2 h1 (by omega)
      · exact back6_outB A n c B n1 c1 D n2 c2 w e e2 (by omega)
    · exact back6_outN A n c B n1 c1 D n2 c2 w e (by simp; omega)
end Go.Proofs.Ytibfihjcjohadaa
