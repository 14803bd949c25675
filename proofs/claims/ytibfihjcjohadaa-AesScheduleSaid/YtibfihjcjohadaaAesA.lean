/-
  The walk of the cipher's add: a round's key is added to a block; nothing that was there is written.
-/
import Derived.Test.YtibfihjcjohadaaAesK
import Derived.Test.YtibfihjcjohadaaArr
namespace Go.Proofs.Ytibfihjcjohadaa
open Go.RowKit Go.Op
open Aes (words words_len keyB addF)
/-- what the region reads that adds a byte of a key -/
structure S83 (B k C : Nat) (b : Nat) (v : Value) (p : Addr) (x : Nat) (w' : World) : Prop where
  cb : w'.cell? ⟨B, k, none⟩ = some (.int .u8 (b : Int))
  fb : w'.frozen? ⟨B, k, none⟩ = false
  ck : w'.cell? ⟨C, 1, none⟩ = some v
  cx : w'.cell? p = some (.int .u32 (x : Int))
set_option maxRecDepth 100000 in
set_option maxHeartbeats 4000000 in
theorem add_walk (C r : Nat) (ws : List Nat) (f : Nat → Nat) (hf : ∀ i, f i < 256) (w : World) (hC : Ciph w C ws) (hr : 4 * r + 4 ≤ ws.length) (hw9 : ws.length ≤ 1000) :
    Calls Try.prog 83 #[.pointer (some ⟨C, 0, none⟩), .agg (bv f), .int .i64 (r : Int)] w fun e w' => e = .returned (.agg (bv (addF (fun i => ws.getD i 0) r f))) ∧ Below w.heap.size w w' := by
  have HF := Box.mk hf
  have HC := Box.mk hC
  clear hf hC
  go_enter Try.func83, Try.ntmps83
  go_wp2_with fail
  go_loopw [7, 8] (fun u i wr => ∃ (k : Nat) (h : Nat → Nat), i = .int .i64 (k : Int) ∧ k ≤ 16 ∧ Box (∀ j, h j = if j < k then addF (fun i => ws.getD i 0) r f j else f j) ∧ Arr wr w.heap.size h ∧ Arr wr (w.heap.size + 1) (fun _ => 0) ∧ Below w.heap.size w wr ∧ w.heap.size + 2 ≤ wr.heap.size) (fun _ i _ => 16 - (intOf i).toNat)
  case atStart => exact ⟨0, f, rfl, by omega, ⟨fun j => by simp⟩, (Arr.new _ _ _ rfl).alloc _, Arr.zero _ _ (by simp), ((Below.refl _ _).alloc (Nat.le_refl _) _).alloc (by simp) _, by simp⟩
  case round =>
    obtain ⟨k, h, rfl, hk, H, ha, hz, hbel, hsz⟩ := hrel
    by_cases h6 : k = 16
    · subst h6
      have ha2 : Arr wr w.heap.size (addF (fun i => ws.getD i 0) r f) := ha.congr (fun j hj => by rw [H.out j, if_pos hj])
      clear ha H
      go_wp2_with (first
          | ((with_reducible show wpList _ _ _ (⟨some 34, Op.load 36 (.tmp 4), _, _, _, _⟩ :: _) _ _); refine wp_load_arr rfl (.tmp 4) rfl (w.heap.size) (addF (fun i => ws.getD i 0) r f) rfl (ha2) ?_)
          | ((with_reducible show wpList _ _ _ (⟨_, Op.store 36 (.tmp 6) (.tmp 34), _, _, _, _⟩ :: _) _ _); refine wp_store_arr rfl (.tmp 6) (.tmp 34) rfl (w.heap.size + 1) (fun _ => 0) (addF (fun i => ws.getD i 0) r f) rfl rfl (hz) ?_))
      exact bodyPost_ret (results_arr rfl _ _ (w.heap.size + 1) (addF (fun i => ws.getD i 0) r f) rfl hz.setRow) rfl ⟨rfl, below_setRow hbel (by omega) _⟩
    · have hk2 : k < 16 := by omega
      clear h6
      obtain ⟨T, A, c, g1, g2, g3⟩ := HC.out.below hbel
      obtain ⟨ad, rfl⟩ := words_some g3 (by omega)
      obtain ⟨q, hq, hq2⟩ : ∃ q : Nat, q = 4 * r + k / 4 ∧ q < ws.length := ⟨_, rfl, by omega⟩
      have hcx := words_cell g3 hq2
      obtain ⟨x, hx⟩ : ∃ x, ws.getD q 0 = x := ⟨_, rfl⟩
      rw [hx] at hcx
      have hxl : x < 4294967296 := by rw [← hx]; exact Aes.getD_lt g3.2.2.1 q
      obtain ⟨s, hs⟩ : ∃ s : Nat, s = 24 - 8 * (k % 4) := ⟨_, rfl⟩
      have hsl : s ≤ 24 := by omega
      obtain ⟨y, hy⟩ : ∃ y, y = x / 2 ^ s := ⟨_, rfl⟩
      have hyl : y < 4294967296 := by rw [hy]; exact Nat.lt_of_le_of_lt (Nat.div_le_self _ _) hxl
      have HY : Box ((x : Int) / 2 ^ s = (y : Int)) := ⟨by rw [hy, Int.natCast_ediv, Int.natCast_pow]; rfl⟩
      obtain ⟨y8, hy8⟩ : ∃ y8, y8 = y % 256 := ⟨_, rfl⟩
      have HY8 : Box (IntKind.u8.wrap (y : Int) = (y8 : Int)) := ⟨by rw [IntKind.wrap_u8, hy8]; omega⟩
      obtain ⟨b, hb⟩ : ∃ b, h k = b := ⟨_, rfl⟩
      have hbl : b < 256 := by rw [← hb, H.out k, if_neg (by omega)]; exact HF.out k
      have hxr := u8_xor_nat b y8 hbl (by omega)
      have HB : Box (b ^^^ y8 = addF (fun i => ws.getD i 0) r f k) := ⟨by unfold addF keyB; rw [← hb, H.out k, if_neg (by omega), hy8, hy, ← hx, hq, hs]⟩
      have HQ := Box.mk hq
      have HS2 := Box.mk hs
      have cb := ha.cell hk2
      rw [hb] at cb
      have hSS : S83 w.heap.size k C b (.slice (some ad) ws.length c) (ad.add q) x wr.drew := ⟨cb, ha.free k, g1.keys, hcx⟩
      have hL2 : ((q : Nat) : Int) < ((ws.length : Nat) : Int) := by omega
      have hq0 : (0 : Int) ≤ (q : Int) := by omega
      have hs0 : (0 : Int) ≤ (s : Int) := by omega
      clear hcx hx hy hy8 hb hq hs cb
      revert hSS hL2 hq2
      generalize ws.length = L
      intro hq2 hSS hL2
      go_wp2_with fail
      refine wp_region_Z 22 22 (S83 w.heap.size k C b (.slice (some ad) L c) (ad.add q) x) (fun _ => True) (by kernel_rfl) ?_
      have hS : _ ∧ True := ⟨hSS, trivial⟩
      refine wpAnyZ_any (i := 0) (oi := ⟨some 11, _, _, _, _, _⟩) (v := .int .i64 (k : Int)) rfl (by kernel_rfl) (by kernel_rfl) (by kernel_rfl) (by kernel_rfl) (fun _ _ _ h => h) (Or.inl ⟨by kernel_rfl, fun w' _ => ?_⟩) ⟨.inr hS.1, .inr hS.2⟩ ?_
      · go_simp
      simp only [Act.put, List.setIfInBounds_toArray, List.set_cons_zero, List.set_cons_succ]
      refine wpAnyZ_any (i := 1) (oi := ⟨some 12, _, _, _, _, _⟩) (v := .pointer (some ⟨w.heap.size, k, none⟩)) rfl (by kernel_rfl) (by kernel_rfl) (by kernel_rfl) (by kernel_rfl) (fun _ _ _ h => h) (Or.inl ⟨by kernel_rfl, fun w' _ => ?_⟩) ⟨.inr hS.1, .inr hS.2⟩ ?_
      · go_simp
      simp only [Act.put, List.setIfInBounds_toArray, List.set_cons_zero, List.set_cons_succ]
      refine wpAnyZ_take (i := 2) (oi := ⟨some 13, _, _, _, _, _⟩) (v := .int .u8 (b : Int)) rfl (by kernel_rfl) (by kernel_rfl) (by kernel_rfl) (by kernel_rfl) (fun _ _ _ h => h) (Or.inl ⟨by kernel_rfl, fun w' hSw => ?_⟩) hS ?_
      · (have c := hSw.cb; go_simp)
      simp only [Act.put, List.setIfInBounds_toArray, List.set_cons_zero, List.set_cons_succ]
      refine wpAnyZ_any (i := 3) (oi := ⟨some 14, _, _, _, _, _⟩) (v := .pointer (some ⟨C, 0, none⟩)) rfl (by kernel_rfl) (by kernel_rfl) (by kernel_rfl) (by kernel_rfl) (fun _ _ _ h => h) (Or.inl ⟨by kernel_rfl, fun w' _ => ?_⟩) ⟨.inr hS.1, .inr hS.2⟩ ?_
      · go_simp
      simp only [Act.put, List.setIfInBounds_toArray, List.set_cons_zero, List.set_cons_succ]
      refine wpAnyZ_any (i := 4) (oi := ⟨some 15, _, _, _, _, _⟩) (v := .pointer (some ⟨C, 0, none⟩)) rfl (by kernel_rfl) (by kernel_rfl) (by kernel_rfl) (by kernel_rfl) (fun _ _ _ h => h) (Or.inl ⟨by kernel_rfl, fun w' _ => ?_⟩) ⟨.inr hS.1, .inr hS.2⟩ ?_
      · go_simp
      simp only [Act.put, List.setIfInBounds_toArray, List.set_cons_zero, List.set_cons_succ]
      refine wpAnyZ_any (i := 5) (oi := ⟨some 16, _, _, _, _, _⟩) (v := .pointer (some ⟨C, 1, none⟩)) rfl (by kernel_rfl) (by kernel_rfl) (by kernel_rfl) (by kernel_rfl) (fun _ _ _ h => h) (Or.inl ⟨by kernel_rfl, fun w' _ => ?_⟩) ⟨.inr hS.1, .inr hS.2⟩ ?_
      · go_simp
      simp only [Act.put, List.setIfInBounds_toArray, List.set_cons_zero, List.set_cons_succ]
      refine wpAnyZ_take (i := 6) (oi := ⟨some 17, _, _, _, _, _⟩) (v := .slice (some ad) L c) rfl (by kernel_rfl) (by kernel_rfl) (by kernel_rfl) (by kernel_rfl) (fun _ _ _ h => h) (Or.inl ⟨by kernel_rfl, fun w' hSw => ?_⟩) hS ?_
      · (have c := hSw.ck; go_simp)
      simp only [Act.put, List.setIfInBounds_toArray, List.set_cons_zero, List.set_cons_succ]
      refine wpAnyZ_any (i := 7) (oi := ⟨some 18, _, _, _, _, _⟩) (v := .int .i64 (r : Int)) rfl (by kernel_rfl) (by kernel_rfl) (by kernel_rfl) (by kernel_rfl) (fun _ _ _ h => h) (Or.inl ⟨by kernel_rfl, fun w' _ => ?_⟩) ⟨.inr hS.1, .inr hS.2⟩ ?_
      · go_simp
      simp only [Act.put, List.setIfInBounds_toArray, List.set_cons_zero, List.set_cons_succ]
      refine wpAnyZ_any (i := 8) (oi := ⟨some 19, _, _, _, _, _⟩) (v := .int .i64 (4 * (r : Int))) rfl (by kernel_rfl) (by kernel_rfl) (by kernel_rfl) (by kernel_rfl) (fun _ _ _ h => h) (Or.inl ⟨by kernel_rfl, fun w' _ => ?_⟩) ⟨.inr hS.1, .inr hS.2⟩ ?_
      · (go_simp; try first | exact Int.tmod_eq_emod_of_nonneg (by omega) | exact IntWalk.i64_in _ (by omega) | (rw [Int.tdiv_eq_ediv_of_nonneg (by omega)]; exact IntWalk.i64_in _ (by omega)) | (rw [Int.tmod_eq_emod_of_nonneg (by omega)]; exact IntWalk.i64_in _ (by omega)))
      simp only [Act.put, List.setIfInBounds_toArray, List.set_cons_zero, List.set_cons_succ]
      refine wpAnyZ_any (i := 9) (oi := ⟨some 20, _, _, _, _, _⟩) (v := .int .i64 (k : Int)) rfl (by kernel_rfl) (by kernel_rfl) (by kernel_rfl) (by kernel_rfl) (fun _ _ _ h => h) (Or.inl ⟨by kernel_rfl, fun w' _ => ?_⟩) ⟨.inr hS.1, .inr hS.2⟩ ?_
      · go_simp
      simp only [Act.put, List.setIfInBounds_toArray, List.set_cons_zero, List.set_cons_succ]
      refine wpAnyZ_any (i := 10) (oi := ⟨some 21, _, _, _, _, _⟩) (v := .int .i64 ((k / 4 : Nat) : Int)) rfl (by kernel_rfl) (by kernel_rfl) (by kernel_rfl) (by kernel_rfl) (fun _ _ _ h => h) (Or.inl ⟨by kernel_rfl, fun w' _ => ?_⟩) ⟨.inr hS.1, .inr hS.2⟩ ?_
      · (go_simp; try first | exact Int.tmod_eq_emod_of_nonneg (by omega) | exact IntWalk.i64_in _ (by omega) | (rw [Int.tdiv_eq_ediv_of_nonneg (by omega)]; exact IntWalk.i64_in _ (by omega)) | (rw [Int.tmod_eq_emod_of_nonneg (by omega)]; exact IntWalk.i64_in _ (by omega)))
      simp only [Act.put, List.setIfInBounds_toArray, List.set_cons_zero, List.set_cons_succ]
      refine wpAnyZ_any (i := 11) (oi := ⟨some 22, _, _, _, _, _⟩) (v := .int .i64 (q : Int)) rfl (by kernel_rfl) (by kernel_rfl) (by kernel_rfl) (by kernel_rfl) (fun _ _ _ h => h) (Or.inl ⟨by kernel_rfl, fun w' _ => ?_⟩) ⟨.inr hS.1, .inr hS.2⟩ ?_
      · (go_simp; have h := HQ.out; rw [show 4 * (r : Int) + (k : Int) / 4 = (q : Int) by omega]; exact IntWalk.i64_in _ (by omega))
      simp only [Act.put, List.setIfInBounds_toArray, List.set_cons_zero, List.set_cons_succ]
      refine wpAnyZ_any (i := 12) (oi := ⟨some 23, _, _, _, _, _⟩) (v := .pointer (some (ad.add q))) rfl (by kernel_rfl) (by kernel_rfl) (by kernel_rfl) (by kernel_rfl) (fun _ _ _ h => h) (Or.inl ⟨by kernel_rfl, fun w' _ => ?_⟩) ⟨.inr hS.1, .inr hS.2⟩ ?_
      · go_simp
      simp only [Act.put, List.setIfInBounds_toArray, List.set_cons_zero, List.set_cons_succ]
      refine wpAnyZ_take (i := 13) (oi := ⟨some 24, _, _, _, _, _⟩) (v := .int .u32 (x : Int)) rfl (by kernel_rfl) (by kernel_rfl) (by kernel_rfl) (by kernel_rfl) (fun _ _ _ h => h) (Or.inl ⟨by kernel_rfl, fun w' hSw => ?_⟩) hS ?_
      · (have c := hSw.cx; go_simp)
      simp only [Act.put, List.setIfInBounds_toArray, List.set_cons_zero, List.set_cons_succ]
      refine wpAnyZ_any (i := 14) (oi := ⟨some 25, _, _, _, _, _⟩) (v := .int .i64 (k : Int)) rfl (by kernel_rfl) (by kernel_rfl) (by kernel_rfl) (by kernel_rfl) (fun _ _ _ h => h) (Or.inl ⟨by kernel_rfl, fun w' _ => ?_⟩) ⟨.inr hS.1, .inr hS.2⟩ ?_
      · go_simp
      simp only [Act.put, List.setIfInBounds_toArray, List.set_cons_zero, List.set_cons_succ]
      refine wpAnyZ_any (i := 15) (oi := ⟨some 26, _, _, _, _, _⟩) (v := .int .i64 ((k % 4 : Nat) : Int)) rfl (by kernel_rfl) (by kernel_rfl) (by kernel_rfl) (by kernel_rfl) (fun _ _ _ h => h) (Or.inl ⟨by kernel_rfl, fun w' _ => ?_⟩) ⟨.inr hS.1, .inr hS.2⟩ ?_
      · (go_simp; try first | exact Int.tmod_eq_emod_of_nonneg (by omega) | exact IntWalk.i64_in _ (by omega) | (rw [Int.tdiv_eq_ediv_of_nonneg (by omega)]; exact IntWalk.i64_in _ (by omega)) | (rw [Int.tmod_eq_emod_of_nonneg (by omega)]; exact IntWalk.i64_in _ (by omega)))
      simp only [Act.put, List.setIfInBounds_toArray, List.set_cons_zero, List.set_cons_succ]
      refine wpAnyZ_any (i := 16) (oi := ⟨some 27, _, _, _, _, _⟩) (v := .int .i64 (8 * ((k % 4 : Nat) : Int))) rfl (by kernel_rfl) (by kernel_rfl) (by kernel_rfl) (by kernel_rfl) (fun _ _ _ h => h) (Or.inl ⟨by kernel_rfl, fun w' _ => ?_⟩) ⟨.inr hS.1, .inr hS.2⟩ ?_
      · (go_simp; try first | exact Int.tmod_eq_emod_of_nonneg (by omega) | exact IntWalk.i64_in _ (by omega) | (rw [Int.tdiv_eq_ediv_of_nonneg (by omega)]; exact IntWalk.i64_in _ (by omega)) | (rw [Int.tmod_eq_emod_of_nonneg (by omega)]; exact IntWalk.i64_in _ (by omega)))
      simp only [Act.put, List.setIfInBounds_toArray, List.set_cons_zero, List.set_cons_succ]
      refine wpAnyZ_any (i := 17) (oi := ⟨some 28, _, _, _, _, _⟩) (v := .int .i64 (s : Int)) rfl (by kernel_rfl) (by kernel_rfl) (by kernel_rfl) (by kernel_rfl) (fun _ _ _ h => h) (Or.inl ⟨by kernel_rfl, fun w' _ => ?_⟩) ⟨.inr hS.1, .inr hS.2⟩ ?_
      · (go_simp; have h := HS2.out; rw [show 24 - 8 * ((k : Int) % 4) = (s : Int) by omega]; exact IntWalk.i64_in _ (by omega))
      simp only [Act.put, List.setIfInBounds_toArray, List.set_cons_zero, List.set_cons_succ]
      refine wpAnyZ_any (i := 18) (oi := ⟨some 29, _, _, _, _, _⟩) (v := .int .u32 (y : Int)) rfl (by kernel_rfl) (by kernel_rfl) (by kernel_rfl) (by kernel_rfl) (fun _ _ _ h => h) (Or.inl ⟨by kernel_rfl, fun w' _ => ?_⟩) ⟨.inr hS.1, .inr hS.2⟩ ?_
      · (have h := HY.out; go_simp)
      simp only [Act.put, List.setIfInBounds_toArray, List.set_cons_zero, List.set_cons_succ]
      refine wpAnyZ_any (i := 19) (oi := ⟨some 30, _, _, _, _, _⟩) (v := .int .u8 (y8 : Int)) rfl (by kernel_rfl) (by kernel_rfl) (by kernel_rfl) (by kernel_rfl) (fun _ _ _ h => h) (Or.inl ⟨by kernel_rfl, fun w' _ => ?_⟩) ⟨.inr hS.1, .inr hS.2⟩ ?_
      · (have h := HY8.out; go_simp)
      simp only [Act.put, List.setIfInBounds_toArray, List.set_cons_zero, List.set_cons_succ]
      refine wpAnyZ_any (i := 20) (oi := ⟨some 31, _, _, _, _, _⟩) (v := .int .u8 ((b ^^^ y8 : Nat) : Int)) rfl (by kernel_rfl) (by kernel_rfl) (by kernel_rfl) (by kernel_rfl) (fun _ _ _ h => h) (Or.inl ⟨by kernel_rfl, fun w' _ => ?_⟩) ⟨.inr hS.1, .inr hS.2⟩ ?_
      · go_simp
      simp only [Act.put, List.setIfInBounds_toArray, List.set_cons_zero, List.set_cons_succ]
      refine wpAnyZ_any (i := 21) (oi := ⟨some 32, _, _, _, _, _⟩) (v := .pointer (some ⟨w.heap.size, k, none⟩)) rfl (by kernel_rfl) (by kernel_rfl) (by kernel_rfl) (by kernel_rfl) (fun _ _ _ h => h) (Or.inl ⟨by kernel_rfl, fun w' _ => ?_⟩) ⟨.inr hS.1, .inr hS.2⟩ ?_
      · go_simp
      simp only [Act.put, List.setIfInBounds_toArray, List.set_cons_zero, List.set_cons_succ]
      refine wpAnyZ_one (i := 22) (o := ⟨none, _, _, _, _, _⟩) (by kernel_rfl) rfl (by kernel_rfl) (fun K hK => ?_)
      have c := hS.1.cb
      have hfz := hS.1.fb
      go_simp
      refine hK.out _ _ ⟨.inl (show _ = true by kernel_rfl), .inl (show _ = true by kernel_rfl)⟩ ?_
      clear hK K hS
      refine wpAnyZ_done (by kernel_rfl) ?_ _
      go_wp2_with fail
      go_roundw
      case rel =>
        refine ⟨k + 1, upd h k (b ^^^ y8), by go_num, by omega, ⟨fun j => ?_⟩, (Arr.set ha).drew, (hz.far (show w.heap.size + 1 ≠ w.heap.size by omega) _).drew, (hbel.setCell (Nat.le_refl _) _).drew, ?_⟩
        · unfold upd
          by_cases e : j = k
          · subst e; rw [if_pos rfl, if_pos (by omega)]; exact HB.out
          · rw [if_neg e, H.out j]
            by_cases hjk : j < k
            · rw [if_pos hjk, if_pos (by omega)]
            · rw [if_neg hjk, if_neg (by omega)]
        · show _ ≤ (wr.setCell _ _).heap.size
          rw [World.size_setCell]; exact hsz
      case measure => simp [intOf]; omega
end Go.Proofs.Ytibfihjcjohadaa
