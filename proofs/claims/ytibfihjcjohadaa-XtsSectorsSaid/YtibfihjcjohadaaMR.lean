/-
  The walks of the reference's cipher. Conditions: a key of 16 or 32 bytes.
-/
import Derived.Test.YtibfihjcjohadaaRNewB
import Derived.Test.YtibfihjcjohadaaMD
import Derived.Test.YtibfihjcjohadaaML
/- The walk of the reference's added: a round's key is added to a block; nothing that was there is written. -/
namespace Go.Proofs.Ytibfihjcjohadaa
open Go.RowKit Go.Op
open Aes (words words_len keyB addF)
/-- what the region reads that adds a byte of a key -/
structure S86 (B k C : Nat) (b : Nat) (v : Value) (p : Addr) (x : Nat) (w' : World) : Prop where
  cb : w'.cell? ⟨B, k, none⟩ = some (.int .u8 (b : Int))
  fb : w'.frozen? ⟨B, k, none⟩ = false
  ck : w'.cell? ⟨C, 1, none⟩ = some v
  cx : w'.cell? p = some (.int .u32 (x : Int))
set_option maxRecDepth 100000 in
set_option maxHeartbeats 4000000 in
theorem radd_walk (C X r : Nat) (ws : List Nat) (f : Nat → Nat) (hf : ∀ i, f i < 256) (w : World) (hC : Rciph w C X ws) (hr : 4 * r + 4 ≤ ws.length) (hw9 : ws.length ≤ 1000) :
    Calls Try.prog 86 #[.pointer (some ⟨C, 0, none⟩), .agg (bv f), .int .i64 (r : Int)] w fun e w' => e = .returned (.agg (bv (addF (fun i => ws.getD i 0) r f))) ∧ Below w.heap.size w w' := by
  have HF := Box.mk hf
  have HC := Box.mk hC
  clear hf hC
  go_enter Try.func86, Try.ntmps86
  go_wp2_with fail
  go_loopw [7] (fun i wr => ∃ (k : Nat) (h : Nat → Nat), i = .int .i64 (k : Int) ∧ k ≤ 16 ∧ Box (∀ j, h j = if j < k then addF (fun i => ws.getD i 0) r f j else f j) ∧ Arr wr w.heap.size h ∧ Arr wr (w.heap.size + 1) (fun _ => 0) ∧ Below w.heap.size w wr ∧ w.heap.size + 2 ≤ wr.heap.size) (fun i _ => 16 - (intOf i).toNat)
  case atStart => exact ⟨0, f, rfl, by omega, ⟨fun j => by simp⟩, (Arr.new _ _ _ rfl).alloc _, Arr.zero _ _ (by simp), ((Below.refl _ _).alloc (Nat.le_refl _) _).alloc (by simp) _, by simp⟩
  case round =>
    obtain ⟨k, h, rfl, hk, H, ha, hz, hbel, hsz⟩ := hrel
    by_cases h6 : k = 16
    · subst h6
      have ha2 : Arr wr w.heap.size (addF (fun i => ws.getD i 0) r f) := ha.congr (fun j hj => by rw [H.out j, if_pos hj])
      clear ha H
      go_wp2_with (first
          | ((with_reducible show wpList _ _ _ (⟨some 35, Op.load 36 (.tmp 4), _, _, _, _⟩ :: _) _ _); refine wp_load_arr rfl (.tmp 4) rfl (w.heap.size) (addF (fun i => ws.getD i 0) r f) rfl (ha2) ?_)
          | ((with_reducible show wpList _ _ _ (⟨_, Op.store 36 (.tmp 6) (.tmp 35), _, _, _, _⟩ :: _) _ _); refine wp_store_arr rfl (.tmp 6) (.tmp 35) rfl (w.heap.size + 1) (fun _ => 0) (addF (fun i => ws.getD i 0) r f) rfl rfl (hz) ?_))
      exact bodyPost_ret (results_arr rfl _ _ (w.heap.size + 1) (addF (fun i => ws.getD i 0) r f) rfl hz.setRow) rfl ⟨rfl, below_setRow hbel (by omega) _⟩
    · have hk2 : k < 16 := by omega
      clear h6
      obtain ⟨A, c, g1, g2, g3⟩ := HC.out.below hbel
      obtain ⟨ad, rfl⟩ := words_some g3 (by omega)
      obtain ⟨q, hq, hq2⟩ : ∃ q : Nat, q = 4 * r + k / 4 ∧ q < ws.length := ⟨_, rfl, by omega⟩
      have hcx := words_cell g3 hq2
      obtain ⟨x, hx⟩ : ∃ x, ws.getD q 0 = x := ⟨_, rfl⟩
      rw [hx] at hcx
      have hxl : x < 4294967296 := by rw [← hx]; exact Aes.getD_lt g3.2.2.1 q
      obtain ⟨s, hs⟩ : ∃ s : Nat, s = 24 - 8 * (k % 4) := ⟨_, rfl⟩
      have hsl : s ≤ 24 := by omega
      obtain ⟨y, hy⟩ : ∃ y, y = x / 2 ^ s := ⟨_, rfl⟩
      have hyl : y < 4294967296 := by rw [hy]; exact Nat.lt_of_le_of_lt (Nat.div_le_self _ _) hxl
      have HY : Box ((x : Int) / 2 ^ s = (y : Int)) := ⟨by rw [hy, Int.natCast_ediv, Int.natCast_pow]; rfl⟩
      obtain ⟨y8, hy8⟩ : ∃ y8, y8 = y % 256 := ⟨_, rfl⟩
      have HY8 : Box (IntKind.u8.wrap (y : Int) = (y8 : Int)) := ⟨by rw [IntKind.wrap_u8, hy8]; omega⟩
      obtain ⟨b, hb⟩ : ∃ b, h k = b := ⟨_, rfl⟩
      have hbl : b < 256 := by rw [← hb, H.out k, if_neg (by omega)]; exact HF.out k
      have hxr := u8_xor_nat b y8 hbl (by omega)
      have HB : Box (b ^^^ y8 = addF (fun i => ws.getD i 0) r f k) := ⟨by unfold addF keyB; rw [← hb, H.out k, if_neg (by omega), hy8, hy, ← hx, hq, hs]⟩
      have HQ := Box.mk hq
      have HS2 := Box.mk hs
      have cb := ha.cell hk2
      rw [hb] at cb
      have hSS : S86 w.heap.size k C b (.slice (some ad) ws.length c) (ad.add q) x wr.drew := ⟨cb, ha.free k, g1.keys, hcx⟩
      have hL2 : ((q : Nat) : Int) < ((ws.length : Nat) : Int) := by omega
      have hq0 : (0 : Int) ≤ (q : Int) := by omega
      have hs0 : (0 : Int) ≤ (s : Int) := by omega
      clear hcx hx hy hy8 hb hq hs cb
      revert hSS hL2 hq2
      generalize ws.length = L
      intro hq2 hSS hL2
      go_wp2_with fail
      refine wp_region_Z 23 23 (S86 w.heap.size k C b (.slice (some ad) L c) (ad.add q) x) (fun _ => True) (by kernel_rfl) ?_
      have hS : _ ∧ True := ⟨hSS, trivial⟩
      refine wpAnyZ_any (i := 0) (oi := ⟨some 12, _, _, _, _, _⟩) (v := .int .i64 (k : Int)) rfl (by kernel_rfl) (by kernel_rfl) (by kernel_rfl) (by kernel_rfl) (fun _ _ _ h => h) (Or.inl ⟨by kernel_rfl, fun w' _ => ?_⟩) ⟨.inr hS.1, .inr hS.2⟩ ?_
      · go_simp
      simp only [Act.put, List.setIfInBounds_toArray, List.set_cons_zero, List.set_cons_succ]
      refine wpAnyZ_any (i := 1) (oi := ⟨some 13, _, _, _, _, _⟩) (v := .int .i64 (k : Int)) rfl (by kernel_rfl) (by kernel_rfl) (by kernel_rfl) (by kernel_rfl) (fun _ _ _ h => h) (Or.inl ⟨by kernel_rfl, fun w' _ => ?_⟩) ⟨.inr hS.1, .inr hS.2⟩ ?_
      · go_simp
      simp only [Act.put, List.setIfInBounds_toArray, List.set_cons_zero, List.set_cons_succ]
      refine wpAnyZ_any (i := 2) (oi := ⟨some 14, _, _, _, _, _⟩) (v := .pointer (some ⟨w.heap.size, k, none⟩)) rfl (by kernel_rfl) (by kernel_rfl) (by kernel_rfl) (by kernel_rfl) (fun _ _ _ h => h) (Or.inl ⟨by kernel_rfl, fun w' _ => ?_⟩) ⟨.inr hS.1, .inr hS.2⟩ ?_
      · go_simp
      simp only [Act.put, List.setIfInBounds_toArray, List.set_cons_zero, List.set_cons_succ]
      refine wpAnyZ_take (i := 3) (oi := ⟨some 15, _, _, _, _, _⟩) (v := .int .u8 (b : Int)) rfl (by kernel_rfl) (by kernel_rfl) (by kernel_rfl) (by kernel_rfl) (fun _ _ _ h => h) (Or.inl ⟨by kernel_rfl, fun w' hSw => ?_⟩) hS ?_
      · (have c := hSw.cb; go_simp)
      simp only [Act.put, List.setIfInBounds_toArray, List.set_cons_zero, List.set_cons_succ]
      refine wpAnyZ_any (i := 4) (oi := ⟨some 16, _, _, _, _, _⟩) (v := .pointer (some ⟨C, 0, none⟩)) rfl (by kernel_rfl) (by kernel_rfl) (by kernel_rfl) (by kernel_rfl) (fun _ _ _ h => h) (Or.inl ⟨by kernel_rfl, fun w' _ => ?_⟩) ⟨.inr hS.1, .inr hS.2⟩ ?_
      · go_simp
      simp only [Act.put, List.setIfInBounds_toArray, List.set_cons_zero, List.set_cons_succ]
      refine wpAnyZ_any (i := 5) (oi := ⟨some 17, _, _, _, _, _⟩) (v := .pointer (some ⟨C, 0, none⟩)) rfl (by kernel_rfl) (by kernel_rfl) (by kernel_rfl) (by kernel_rfl) (fun _ _ _ h => h) (Or.inl ⟨by kernel_rfl, fun w' _ => ?_⟩) ⟨.inr hS.1, .inr hS.2⟩ ?_
      · go_simp
      simp only [Act.put, List.setIfInBounds_toArray, List.set_cons_zero, List.set_cons_succ]
      refine wpAnyZ_any (i := 6) (oi := ⟨some 18, _, _, _, _, _⟩) (v := .pointer (some ⟨C, 1, none⟩)) rfl (by kernel_rfl) (by kernel_rfl) (by kernel_rfl) (by kernel_rfl) (fun _ _ _ h => h) (Or.inl ⟨by kernel_rfl, fun w' _ => ?_⟩) ⟨.inr hS.1, .inr hS.2⟩ ?_
      · go_simp
      simp only [Act.put, List.setIfInBounds_toArray, List.set_cons_zero, List.set_cons_succ]
      refine wpAnyZ_take (i := 7) (oi := ⟨some 19, _, _, _, _, _⟩) (v := .slice (some ad) L c) rfl (by kernel_rfl) (by kernel_rfl) (by kernel_rfl) (by kernel_rfl) (fun _ _ _ h => h) (Or.inl ⟨by kernel_rfl, fun w' hSw => ?_⟩) hS ?_
      · (have c := hSw.ck; go_simp)
      simp only [Act.put, List.setIfInBounds_toArray, List.set_cons_zero, List.set_cons_succ]
      refine wpAnyZ_any (i := 8) (oi := ⟨some 20, _, _, _, _, _⟩) (v := .int .i64 (r : Int)) rfl (by kernel_rfl) (by kernel_rfl) (by kernel_rfl) (by kernel_rfl) (fun _ _ _ h => h) (Or.inl ⟨by kernel_rfl, fun w' _ => ?_⟩) ⟨.inr hS.1, .inr hS.2⟩ ?_
      · go_simp
      simp only [Act.put, List.setIfInBounds_toArray, List.set_cons_zero, List.set_cons_succ]
      refine wpAnyZ_any (i := 9) (oi := ⟨some 21, _, _, _, _, _⟩) (v := .int .i64 (4 * (r : Int))) rfl (by kernel_rfl) (by kernel_rfl) (by kernel_rfl) (by kernel_rfl) (fun _ _ _ h => h) (Or.inl ⟨by kernel_rfl, fun w' _ => ?_⟩) ⟨.inr hS.1, .inr hS.2⟩ ?_
      · (go_simp; try first | exact Int.tmod_eq_emod_of_nonneg (by omega) | exact IntWalk.i64_in _ (by omega) | (rw [Int.tdiv_eq_ediv_of_nonneg (by omega)]; exact IntWalk.i64_in _ (by omega)) | (rw [Int.tmod_eq_emod_of_nonneg (by omega)]; exact IntWalk.i64_in _ (by omega)))
      simp only [Act.put, List.setIfInBounds_toArray, List.set_cons_zero, List.set_cons_succ]
      refine wpAnyZ_any (i := 10) (oi := ⟨some 22, _, _, _, _, _⟩) (v := .int .i64 (k : Int)) rfl (by kernel_rfl) (by kernel_rfl) (by kernel_rfl) (by kernel_rfl) (fun _ _ _ h => h) (Or.inl ⟨by kernel_rfl, fun w' _ => ?_⟩) ⟨.inr hS.1, .inr hS.2⟩ ?_
      · go_simp
      simp only [Act.put, List.setIfInBounds_toArray, List.set_cons_zero, List.set_cons_succ]
      refine wpAnyZ_any (i := 11) (oi := ⟨some 23, _, _, _, _, _⟩) (v := .int .i64 ((k / 4 : Nat) : Int)) rfl (by kernel_rfl) (by kernel_rfl) (by kernel_rfl) (by kernel_rfl) (fun _ _ _ h => h) (Or.inl ⟨by kernel_rfl, fun w' _ => ?_⟩) ⟨.inr hS.1, .inr hS.2⟩ ?_
      · (go_simp; try first | exact Int.tmod_eq_emod_of_nonneg (by omega) | exact IntWalk.i64_in _ (by omega) | (rw [Int.tdiv_eq_ediv_of_nonneg (by omega)]; exact IntWalk.i64_in _ (by omega)) | (rw [Int.tmod_eq_emod_of_nonneg (by omega)]; exact IntWalk.i64_in _ (by omega)))
      simp only [Act.put, List.setIfInBounds_toArray, List.set_cons_zero, List.set_cons_succ]
      refine wpAnyZ_any (i := 12) (oi := ⟨some 24, _, _, _, _, _⟩) (v := .int .i64 (q : Int)) rfl (by kernel_rfl) (by kernel_rfl) (by kernel_rfl) (by kernel_rfl) (fun _ _ _ h => h) (Or.inl ⟨by kernel_rfl, fun w' _ => ?_⟩) ⟨.inr hS.1, .inr hS.2⟩ ?_
      · (go_simp; have h := HQ.out; rw [show 4 * (r : Int) + (k : Int) / 4 = (q : Int) by omega]; exact IntWalk.i64_in _ (by omega))
      simp only [Act.put, List.setIfInBounds_toArray, List.set_cons_zero, List.set_cons_succ]
      refine wpAnyZ_any (i := 13) (oi := ⟨some 25, _, _, _, _, _⟩) (v := .pointer (some (ad.add q))) rfl (by kernel_rfl) (by kernel_rfl) (by kernel_rfl) (by kernel_rfl) (fun _ _ _ h => h) (Or.inl ⟨by kernel_rfl, fun w' _ => ?_⟩) ⟨.inr hS.1, .inr hS.2⟩ ?_
      · go_simp
      simp only [Act.put, List.setIfInBounds_toArray, List.set_cons_zero, List.set_cons_succ]
      refine wpAnyZ_take (i := 14) (oi := ⟨some 26, _, _, _, _, _⟩) (v := .int .u32 (x : Int)) rfl (by kernel_rfl) (by kernel_rfl) (by kernel_rfl) (by kernel_rfl) (fun _ _ _ h => h) (Or.inl ⟨by kernel_rfl, fun w' hSw => ?_⟩) hS ?_
      · (have c := hSw.cx; go_simp)
      simp only [Act.put, List.setIfInBounds_toArray, List.set_cons_zero, List.set_cons_succ]
      refine wpAnyZ_any (i := 15) (oi := ⟨some 27, _, _, _, _, _⟩) (v := .int .i64 (k : Int)) rfl (by kernel_rfl) (by kernel_rfl) (by kernel_rfl) (by kernel_rfl) (fun _ _ _ h => h) (Or.inl ⟨by kernel_rfl, fun w' _ => ?_⟩) ⟨.inr hS.1, .inr hS.2⟩ ?_
      · go_simp
      simp only [Act.put, List.setIfInBounds_toArray, List.set_cons_zero, List.set_cons_succ]
      refine wpAnyZ_any (i := 16) (oi := ⟨some 28, _, _, _, _, _⟩) (v := .int .i64 ((k % 4 : Nat) : Int)) rfl (by kernel_rfl) (by kernel_rfl) (by kernel_rfl) (by kernel_rfl) (fun _ _ _ h => h) (Or.inl ⟨by kernel_rfl, fun w' _ => ?_⟩) ⟨.inr hS.1, .inr hS.2⟩ ?_
      · (go_simp; try first | exact Int.tmod_eq_emod_of_nonneg (by omega) | exact IntWalk.i64_in _ (by omega) | (rw [Int.tdiv_eq_ediv_of_nonneg (by omega)]; exact IntWalk.i64_in _ (by omega)) | (rw [Int.tmod_eq_emod_of_nonneg (by omega)]; exact IntWalk.i64_in _ (by omega)))
      simp only [Act.put, List.setIfInBounds_toArray, List.set_cons_zero, List.set_cons_succ]
      refine wpAnyZ_any (i := 17) (oi := ⟨some 29, _, _, _, _, _⟩) (v := .int .i64 (8 * ((k % 4 : Nat) : Int))) rfl (by kernel_rfl) (by kernel_rfl) (by kernel_rfl) (by kernel_rfl) (fun _ _ _ h => h) (Or.inl ⟨by kernel_rfl, fun w' _ => ?_⟩) ⟨.inr hS.1, .inr hS.2⟩ ?_
      · (go_simp; try first | exact Int.tmod_eq_emod_of_nonneg (by omega) | exact IntWalk.i64_in _ (by omega) | (rw [Int.tdiv_eq_ediv_of_nonneg (by omega)]; exact IntWalk.i64_in _ (by omega)) | (rw [Int.tmod_eq_emod_of_nonneg (by omega)]; exact IntWalk.i64_in _ (by omega)))
      simp only [Act.put, List.setIfInBounds_toArray, List.set_cons_zero, List.set_cons_succ]
      refine wpAnyZ_any (i := 18) (oi := ⟨some 30, _, _, _, _, _⟩) (v := .int .i64 (s : Int)) rfl (by kernel_rfl) (by kernel_rfl) (by kernel_rfl) (by kernel_rfl) (fun _ _ _ h => h) (Or.inl ⟨by kernel_rfl, fun w' _ => ?_⟩) ⟨.inr hS.1, .inr hS.2⟩ ?_
      · (go_simp; have h := HS2.out; rw [show 24 - 8 * ((k : Int) % 4) = (s : Int) by omega]; exact IntWalk.i64_in _ (by omega))
      simp only [Act.put, List.setIfInBounds_toArray, List.set_cons_zero, List.set_cons_succ]
      refine wpAnyZ_any (i := 19) (oi := ⟨some 31, _, _, _, _, _⟩) (v := .int .u32 (y : Int)) rfl (by kernel_rfl) (by kernel_rfl) (by kernel_rfl) (by kernel_rfl) (fun _ _ _ h => h) (Or.inl ⟨by kernel_rfl, fun w' _ => ?_⟩) ⟨.inr hS.1, .inr hS.2⟩ ?_
      · (have h := HY.out; go_simp)
      simp only [Act.put, List.setIfInBounds_toArray, List.set_cons_zero, List.set_cons_succ]
      refine wpAnyZ_any (i := 20) (oi := ⟨some 32, _, _, _, _, _⟩) (v := .int .u8 (y8 : Int)) rfl (by kernel_rfl) (by kernel_rfl) (by kernel_rfl) (by kernel_rfl) (fun _ _ _ h => h) (Or.inl ⟨by kernel_rfl, fun w' _ => ?_⟩) ⟨.inr hS.1, .inr hS.2⟩ ?_
      · (have h := HY8.out; go_simp)
      simp only [Act.put, List.setIfInBounds_toArray, List.set_cons_zero, List.set_cons_succ]
      refine wpAnyZ_any (i := 21) (oi := ⟨some 33, _, _, _, _, _⟩) (v := .int .u8 ((b ^^^ y8 : Nat) : Int)) rfl (by kernel_rfl) (by kernel_rfl) (by kernel_rfl) (by kernel_rfl) (fun _ _ _ h => h) (Or.inl ⟨by kernel_rfl, fun w' _ => ?_⟩) ⟨.inr hS.1, .inr hS.2⟩ ?_
      · go_simp
      simp only [Act.put, List.setIfInBounds_toArray, List.set_cons_zero, List.set_cons_succ]
      refine wpAnyZ_any (i := 22) (oi := ⟨some 34, _, _, _, _, _⟩) (v := .pointer (some ⟨w.heap.size, k, none⟩)) rfl (by kernel_rfl) (by kernel_rfl) (by kernel_rfl) (by kernel_rfl) (fun _ _ _ h => h) (Or.inl ⟨by kernel_rfl, fun w' _ => ?_⟩) ⟨.inr hS.1, .inr hS.2⟩ ?_
      · go_simp
      simp only [Act.put, List.setIfInBounds_toArray, List.set_cons_zero, List.set_cons_succ]
      refine wpAnyZ_one (i := 23) (o := ⟨none, _, _, _, _, _⟩) (by kernel_rfl) rfl (by kernel_rfl) (fun K hK => ?_)
      have c := hS.1.cb
      have hfz := hS.1.fb
      go_simp
      refine hK.out _ _ ⟨.inl (show _ = true by kernel_rfl), .inl (show _ = true by kernel_rfl)⟩ ?_
      clear hK K hS
      refine wpAnyZ_done (by kernel_rfl) ?_ _
      go_wp2_with fail
      go_roundw
      case rel =>
        refine ⟨k + 1, upd h k (b ^^^ y8), by go_num, by omega, ⟨fun j => ?_⟩, (Arr.set ha).drew, (hz.far (show w.heap.size + 1 ≠ w.heap.size by omega) _).drew, (hbel.setCell (Nat.le_refl _) _).drew, ?_⟩
        · unfold upd
          by_cases e : j = k
          · subst e; rw [if_pos rfl, if_pos (by omega)]; exact HB.out
          · rw [if_neg e, H.out j]
            by_cases hjk : j < k
            · rw [if_pos hjk, if_pos (by omega)]
            · rw [if_neg hjk, if_neg (by omega)]
        · show _ ≤ (wr.setCell _ _).heap.size
          rw [World.size_setCell]; exact hsz
      case measure => simp [intOf]; omega
end Go.Proofs.Ytibfihjcjohadaa
/- The walk of the reference's mixed: a block's columns mixed by four factors; nothing that was there is written. -/
namespace Go.Proofs.Ytibfihjcjohadaa
open Go.RowKit Go.Op
open Fld (mul mul_lt mul_comm)
open Sbx (sub sub_lt back back_lt)
open Aes (mx un mixF mixF_lt)
/-- a column's byte, as far as n products -/
def rmixP (l f : Nat → Nat) (k i : Nat) : Nat → Nat
  | 0 => 0
  | n + 1 => rmixP l f k i n ^^^ mul (l ((n + 4 - i) % 4)) (f (4 * k + n))
theorem xor_lt' {a b : Nat} (ha : a < 256) (hb : b < 256) : a ^^^ b < 256 := Nat.xor_lt_two_pow (n := 8) ha hb
theorem rmixP_lt {l f : Nat → Nat} (hl : ∀ i, l i < 256) (k i : Nat) : ∀ n, rmixP l f k i n < 256
  | 0 => by show 0 < 256; decide
  | n + 1 => xor_lt' (rmixP_lt hl k i n) (mul_lt (hl _))
/-- all of it -/
def rmixF (l f : Nat → Nat) (j : Nat) : Nat := rmixP l f (j / 4) (j % 4) 4
/-- four factors as a row -/
def l4 (a b c d : Nat) (i : Nat) : Nat := [a, b, c, d].getD i 0
theorem l4_lt {a b c d : Nat} (ha : a < 256) (hb : b < 256) (hc : c < 256) (hd : d < 256) (i : Nat) : l4 a b c d i < 256 := by
  unfold l4
  match i with
  | 0 => exact ha
  | 1 => exact hb
  | 2 => exact hc
  | 3 => exact hd
  | _ + 4 => show 0 < 256; decide
/-- a block of four factors -/
def Row4 (w : World) (g a b c d : Nat) : Prop := w.heap[g]? = some (.cells (cells4 a b c d) 98 (0, 0))
theorem Row4.cell {w : World} {g a b c d : Nat} (h : Row4 w g a b c d) {i : Nat} (hi : i < 4) : w.cell? ⟨g, i, none⟩ = some (.int .u8 ((l4 a b c d i : Nat) : Int)) := by
  rw [cell_of_row w g i _ 98 (0, 0) h]
  match i, hi with
  | 0, _ => rfl
  | 1, _ => rfl
  | 2, _ => rfl
  | 3, _ => rfl
theorem Row4.lt {w : World} {g a b c d : Nat} (h : Row4 w g a b c d) : g < w.heap.size := by
  rcases Nat.lt_or_ge g w.heap.size with hlt | hge
  · exact hlt
  · unfold Row4 at h; rw [Array.getElem?_eq_none hge] at h; cases h
theorem Row4.below {w w' : World} {g a b c d B : Nat} (h : Row4 w g a b c d) (hb : Below B w w') (hg : g < B) : Row4 w' g a b c d := (hb.block g hg).trans h
theorem rmix_eq (m l f : Nat → Nat) (h0 : l 0 = m 0) (h1 : l 1 = m 3) (h2 : l 2 = m 2) (h3 : l 3 = m 1) (hl : ∀ i, l i < 256) (hf : ∀ i, f i < 256) {j : Nat} (_ : j < 16) : rmixF l f j = mixF m f j := by
  unfold rmixF mixF rmixP rmixP rmixP rmixP rmixP
  rw [Nat.zero_xor, Nat.add_zero, show 4 * (j / 4) = j / 4 * 4 from Nat.mul_comm _ _, mul_comm (hl _) (hf _), mul_comm (hl _) (hf _), mul_comm (hl _) (hf _), mul_comm (hl _) (hf _)]
  have hr : j % 4 = 0 ∨ j % 4 = 1 ∨ j % 4 = 2 ∨ j % 4 = 3 := by omega
  rcases hr with hr | hr | hr | hr
  · rw [hr, show (j + 3) % 4 = 3 by omega, show (j + 2) % 4 = 2 by omega, show (j + 1) % 4 = 1 by omega]
    simp only [h0, h1, h2, h3, Nat.add_zero]
  · rw [hr, show (j + 3) % 4 = 0 by omega, show (j + 2) % 4 = 3 by omega, show (j + 1) % 4 = 2 by omega]
    simp only [h0, h1, h2, h3, Nat.add_zero]
  · rw [hr, show (j + 3) % 4 = 1 by omega, show (j + 2) % 4 = 0 by omega, show (j + 1) % 4 = 3 by omega]
    simp only [h0, h1, h2, h3, Nat.add_zero]
  · rw [hr, show (j + 3) % 4 = 2 by omega, show (j + 2) % 4 = 1 by omega, show (j + 1) % 4 = 0 by omega]
    simp only [h0, h1, h2, h3, Nat.add_zero]
set_option maxRecDepth 100000 in
set_option maxHeartbeats 8000000 in
theorem rmix_walk (a b c d : Nat) (ha : a < 256) (hb : b < 256) (hc : c < 256) (hd : d < 256) (f : Nat → Nat) (hf : ∀ i, f i < 256) (w : World) :
    Calls Try.prog 87 #[.agg (bv f), .agg (cells4 a b c d)] w fun e w' => e = .returned (.agg (bv (rmixF (l4 a b c d) f))) ∧ Below w.heap.size w w' := by
  have HF := Box.mk hf
  have HL := Box.mk (l4_lt ha hb hc hd)
  have h0 : Arr ((((w.alloc (.cells (bv f) 36)).alloc (.cells (cells4 a b c d) 98)).alloc (.cells #[.int .u8 0, .int .u8 0, .int .u8 0, .int .u8 0, .int .u8 0, .int .u8 0, .int .u8 0, .int .u8 0, .int .u8 0, .int .u8 0, .int .u8 0, .int .u8 0, .int .u8 0, .int .u8 0, .int .u8 0, .int .u8 0] 36)).alloc (.cells #[.int .u8 0, .int .u8 0, .int .u8 0, .int .u8 0, .int .u8 0, .int .u8 0, .int .u8 0, .int .u8 0, .int .u8 0, .int .u8 0, .int .u8 0, .int .u8 0, .int .u8 0, .int .u8 0, .int .u8 0, .int .u8 0] 36)) w.heap.size f := (((Arr.new _ _ _ rfl).alloc _).alloc _).alloc _
  have h1 : Row4 ((((w.alloc (.cells (bv f) 36)).alloc (.cells (cells4 a b c d) 98)).alloc (.cells #[.int .u8 0, .int .u8 0, .int .u8 0, .int .u8 0, .int .u8 0, .int .u8 0, .int .u8 0, .int .u8 0, .int .u8 0, .int .u8 0, .int .u8 0, .int .u8 0, .int .u8 0, .int .u8 0, .int .u8 0, .int .u8 0] 36)).alloc (.cells #[.int .u8 0, .int .u8 0, .int .u8 0, .int .u8 0, .int .u8 0, .int .u8 0, .int .u8 0, .int .u8 0, .int .u8 0, .int .u8 0, .int .u8 0, .int .u8 0, .int .u8 0, .int .u8 0, .int .u8 0, .int .u8 0] 36)) (w.heap.size + 1) a b c d := by
    have e := heap_alloc_new (w.alloc (.cells (bv f) 36)) (.cells (cells4 a b c d) 98)
    rw [show (w.alloc (.cells (bv f) 36)).heap.size = w.heap.size + 1 by simp] at e
    exact (Below.heap_alloc _ _ _ (by simp)).trans ((Below.heap_alloc _ _ _ (by simp)).trans e)
  have h4 : Arr ((((w.alloc (.cells (bv f) 36)).alloc (.cells (cells4 a b c d) 98)).alloc (.cells #[.int .u8 0, .int .u8 0, .int .u8 0, .int .u8 0, .int .u8 0, .int .u8 0, .int .u8 0, .int .u8 0, .int .u8 0, .int .u8 0, .int .u8 0, .int .u8 0, .int .u8 0, .int .u8 0, .int .u8 0, .int .u8 0] 36)).alloc (.cells #[.int .u8 0, .int .u8 0, .int .u8 0, .int .u8 0, .int .u8 0, .int .u8 0, .int .u8 0, .int .u8 0, .int .u8 0, .int .u8 0, .int .u8 0, .int .u8 0, .int .u8 0, .int .u8 0, .int .u8 0, .int .u8 0] 36)) (w.heap.size + 1 + 1) (fun _ => 0) := (Arr.zero _ _ (by simp)).alloc _
  have h5 : Arr ((((w.alloc (.cells (bv f) 36)).alloc (.cells (cells4 a b c d) 98)).alloc (.cells #[.int .u8 0, .int .u8 0, .int .u8 0, .int .u8 0, .int .u8 0, .int .u8 0, .int .u8 0, .int .u8 0, .int .u8 0, .int .u8 0, .int .u8 0, .int .u8 0, .int .u8 0, .int .u8 0, .int .u8 0, .int .u8 0] 36)).alloc (.cells #[.int .u8 0, .int .u8 0, .int .u8 0, .int .u8 0, .int .u8 0, .int .u8 0, .int .u8 0, .int .u8 0, .int .u8 0, .int .u8 0, .int .u8 0, .int .u8 0, .int .u8 0, .int .u8 0, .int .u8 0, .int .u8 0] 36)) (w.heap.size + 1 + 1 + 1) (fun _ => 0) := Arr.zero _ _ (by simp)
  have hb0 : Below w.heap.size w ((((w.alloc (.cells (bv f) 36)).alloc (.cells (cells4 a b c d) 98)).alloc (.cells #[.int .u8 0, .int .u8 0, .int .u8 0, .int .u8 0, .int .u8 0, .int .u8 0, .int .u8 0, .int .u8 0, .int .u8 0, .int .u8 0, .int .u8 0, .int .u8 0, .int .u8 0, .int .u8 0, .int .u8 0, .int .u8 0] 36)).alloc (.cells #[.int .u8 0, .int .u8 0, .int .u8 0, .int .u8 0, .int .u8 0, .int .u8 0, .int .u8 0, .int .u8 0, .int .u8 0, .int .u8 0, .int .u8 0, .int .u8 0, .int .u8 0, .int .u8 0, .int .u8 0, .int .u8 0] 36)) := ((((Below.refl _ _).alloc (Nat.le_refl _) _).alloc (by simp) _).alloc (by simp; omega) _).alloc (by simp; omega) _
  have hs0 : w.heap.size + 4 ≤ (((((w.alloc (.cells (bv f) 36)).alloc (.cells (cells4 a b c d) 98)).alloc (.cells #[.int .u8 0, .int .u8 0, .int .u8 0, .int .u8 0, .int .u8 0, .int .u8 0, .int .u8 0, .int .u8 0, .int .u8 0, .int .u8 0, .int .u8 0, .int .u8 0, .int .u8 0, .int .u8 0, .int .u8 0, .int .u8 0] 36)).alloc (.cells #[.int .u8 0, .int .u8 0, .int .u8 0, .int .u8 0, .int .u8 0, .int .u8 0, .int .u8 0, .int .u8 0, .int .u8 0, .int .u8 0, .int .u8 0, .int .u8 0, .int .u8 0, .int .u8 0, .int .u8 0, .int .u8 0] 36))).heap.size := by simp
  clear hf ha hb hc hd
  generalize hle0 : l4 a b c d = l at HL ⊢
  have HLE := Box.mk hle0
  clear hle0
  go_enter Try.func87, Try.ntmps87
  go_wp2_with fail
  revert h0 h1 h4 h5 hb0 hs0
  generalize ((((w.alloc (.cells (bv f) 36)).alloc (.cells (cells4 a b c d) 98)).alloc (.cells #[.int .u8 0, .int .u8 0, .int .u8 0, .int .u8 0, .int .u8 0, .int .u8 0, .int .u8 0, .int .u8 0, .int .u8 0, .int .u8 0, .int .u8 0, .int .u8 0, .int .u8 0, .int .u8 0, .int .u8 0, .int .u8 0] 36)).alloc (.cells #[.int .u8 0, .int .u8 0, .int .u8 0, .int .u8 0, .int .u8 0, .int .u8 0, .int .u8 0, .int .u8 0, .int .u8 0, .int .u8 0, .int .u8 0, .int .u8 0, .int .u8 0, .int .u8 0, .int .u8 0, .int .u8 0] 36)) = w0
  intro h0 h1 h4 h5 hb0 hs0
  go_loopw [6, 7, 8, 9] (fun r _p _q _s wr => ∃ (k : Nat) (h : Nat → Nat), r = .int .i64 (k : Int) ∧ k ≤ 4 ∧ Box (∀ j, j < 16 → h j = if j < 4 * k then rmixF l f j else 0) ∧ Arr wr (w.heap.size + 1 + 1 + 1) h ∧ Below (w.heap.size + 1 + 1 + 1) w0 wr) (fun r _ _ _ _ => 4 - (intOf r).toNat)
  case atStart => exact ⟨0, _, rfl, by omega, ⟨fun j _ => by simp⟩, h5, Below.refl _ _⟩
  case round =>
    obtain ⟨k, h, rfl, hk, H, hA, hB⟩ := hrel
    clear h5
    by_cases hk4 : k = 4
    · subst hk4
      have hA2 : Arr wr (w.heap.size + 1 + 1 + 1) (rmixF l f) := hA.congr (fun j hj => by rw [H.out j hj, if_pos (by omega)])
      have hz := h4.below hB (by omega)
      clear hA H
      go_wp2_with (first
          | ((with_reducible show wpList _ _ _ (⟨some 44, Op.load 36 (.tmp 5), _, _, _, _⟩ :: _) _ _); refine wp_load_arr rfl (.tmp 5) rfl (w.heap.size + 1 + 1 + 1) (rmixF l f) rfl (hA2) ?_)
          | ((with_reducible show wpList _ _ _ (⟨_, Op.store 36 (.tmp 4) (.tmp 44), _, _, _, _⟩ :: _) _ _); refine wp_store_arr rfl (.tmp 4) (.tmp 44) rfl (w.heap.size + 1 + 1) (fun _ => 0) (rmixF l f) rfl rfl (hz) ?_))
      exact bodyPost_ret (results_arr rfl _ _ (w.heap.size + 1 + 1) (rmixF l f) rfl hz.setRow) rfl ⟨rfl, below_setRow (hb0.trans (hB.mono (by omega))) (by omega) _⟩
    · have hk2 : k < 4 := by omega
      clear hk4
      have hdk : decide ((k : Int) < 4) = true := decide_eq_true (by omega)
      go_wp2_with fail
      obtain ⟨wo, rfl⟩ : ∃ wo : World, wo = wr := ⟨_, rfl⟩
      go_loopw [7, 8, 9] (fun r _q _s wr => ∃ (i : Nat) (h : Nat → Nat), r = .int .i64 (i : Int) ∧ i ≤ 4 ∧ Box (∀ j, j < 16 → h j = if j < 4 * k + i then rmixF l f j else 0) ∧ Arr wr (w.heap.size + 1 + 1 + 1) h ∧ Below (w.heap.size + 1 + 1 + 1) w0 wr) (fun r _ _ _ => 4 - (intOf r).toNat)
      case atStart => exact ⟨0, _, rfl, by omega, H, hA, hB⟩
      case round =>
        clear H hA hB h
        obtain ⟨i, h, rfl, hi, H, hA, hB⟩ := hrel
        by_cases hi4 : i = 4
        · subst hi4
          go_wp2_with fail
          go_roundw
          case rel => exact ⟨k + 1, h, by go_num, by omega, ⟨fun j hj => by rw [H.out j hj, show 4 * (k + 1) = 4 * k + 4 by omega]⟩, hA, hB⟩
          case measure => simp [intOf]; omega
        · have hi2 : i < 4 := by omega
          clear hi4
          have hdi : decide ((i : Int) < 4) = true := decide_eq_true (by omega)
          go_wp2_with fail
          obtain ⟨wq, rfl⟩ : ∃ wq : World, wq = wr := ⟨_, rfl⟩
          go_loopw [8, 9] (fun u s wr => ∃ (n v : Nat), s = .int .i64 (n : Int) ∧ u = .int .u8 (v : Int) ∧ v = rmixP l f k i n ∧ n ≤ 4 ∧ Arr wr (w.heap.size + 1 + 1 + 1) h ∧ Below (w.heap.size + 1 + 1 + 1) w0 wr) (fun _ s _ => 4 - (intOf s).toNat)
          case atStart => exact ⟨0, 0, rfl, rfl, rfl, by omega, hA, hB⟩
          case round =>
            clear hA hB
            obtain ⟨n, v, rfl, rfl, hv, hn, hA, hB⟩ := hrel
            have HV := Box.mk hv
            have hvl : v < 256 := by rw [hv]; exact rmixP_lt HL.out k i n
            clear hv
            by_cases hn4 : n = 4
            · subst hn4
              have hc := hA.cell (k := 4 * k + i) (by omega)
              have hfz := hA.free (4 * k + i)
              have q0 : (0 : Int) ≤ 4 * (k : Int) + (i : Int) := by omega
              have q1 : 4 * (k : Int) + (i : Int) < 16 := by omega
              rw [H.out _ (by omega), if_neg (by omega)] at hc
              go_wp2_with fail
              go_roundw
              case rel =>
                refine ⟨i + 1, upd h (4 * k + i) v, by go_num, by omega, ⟨fun j hj => ?_⟩, Arr.set hA, hB.setCell (Nat.le_refl _) _⟩
                unfold upd
                by_cases e : j = 4 * k + i
                · subst e
                  rw [if_pos rfl, if_pos (by omega), HV.out]
                  unfold rmixF
                  rw [show (4 * k + i) / 4 = k by omega, show (4 * k + i) % 4 = i by omega]
                · rw [if_neg e, H.out j hj]
                  by_cases hjk : j < 4 * k + i
                  · rw [if_pos hjk, if_pos (by omega)]
                  · rw [if_neg hjk, if_neg (by omega)]
              case measure => simp [intOf]; omega
            · have hn2 : n < 4 := by omega
              clear hn4
              obtain ⟨d', hd'⟩ : ∃ d' : Nat, d' = (n + 4 - i) % 4 := ⟨_, rfl⟩
              have hdl : d' < 4 := by omega
              have HD : Box (((n : Int) - (i : Int) + 4) % 4 = (d' : Int)) := ⟨by omega⟩
              obtain ⟨q, hq⟩ : ∃ q : Nat, q = 4 * k + n := ⟨_, rfl⟩
              have HQ := Box.mk hq
              have hql : q < 16 := by omega
              have hcx := (h1.below hB (by omega)).cell hdl
              rw [HLE.out] at hcx
              have hcb := (h0.below hB (by omega)).cell hql
              obtain ⟨x, hx⟩ : ∃ x, l d' = x := ⟨_, rfl⟩
              obtain ⟨b', hb'⟩ : ∃ b', f q = b' := ⟨_, rfl⟩
              rw [hx] at hcx
              rw [hb'] at hcb
              have hxl : x < 256 := by rw [← hx]; exact HL.out _
              have hbl : b' < 256 := by rw [← hb']; exact HF.out _
              have HM := Box.mk (fun w => rmul_any x b' hxl hbl w)
              obtain ⟨m, hm⟩ : ∃ m, mul x b' = m := ⟨_, rfl⟩
              rw [hm] at HM
              have hml : m < 256 := by rw [← hm]; exact mul_lt hxl
              have hxr := u8_xor_nat v m hvl hml
              have HN : Box (v ^^^ m = rmixP l f k i (n + 1)) := ⟨by show _ = rmixP l f k i n ^^^ mul (l ((n + 4 - i) % 4)) (f (4 * k + n)); rw [← hd', ← hq, hx, hb', hm, HV.out]⟩
              have h0lt : w.heap.size < wr.heap.size := by have := hA.lt; omega
              have h1lt : w.heap.size + 1 < wr.heap.size := by have := hA.lt; omega
              have q0 : (0 : Int) ≤ (q : Int) := by omega
              have q1 : (q : Int) < 16 := by omega
              have d0 : (0 : Int) ≤ (d' : Int) := by omega
              have d1 : (d' : Int) < 4 := by omega
              clear hx hb' hm hd' hq HV
              go_wp2_with fail
              refine wp_region_held_drew (S := fun w' => Below wr.heap.size wr w') (by kernel_rfl) (Below.refl _ _).drew (fun hS => ?_)
              refine wpAnyH_take (i := 0) (oi := ⟨some 22, _, _, _, _, _⟩) (v := .int .u8 (v : Int)) rfl (by kernel_rfl) (by kernel_rfl) (by kernel_rfl) (fun _ _ _ h => h) (Or.inl ⟨by kernel_rfl, fun w' hSw => ?_⟩) hS ?_
              · go_simp
              simp only [Act.put, List.setIfInBounds_toArray, List.set_cons_zero, List.set_cons_succ]
              refine wpAnyH_take (i := 1) (oi := ⟨some 23, _, _, _, _, _⟩) (v := .int .i64 (n : Int)) rfl (by kernel_rfl) (by kernel_rfl) (by kernel_rfl) (fun _ _ _ h => h) (Or.inl ⟨by kernel_rfl, fun w' hSw => ?_⟩) hS ?_
              · go_simp
              simp only [Act.put, List.setIfInBounds_toArray, List.set_cons_zero, List.set_cons_succ]
              refine wpAnyH_take (i := 2) (oi := ⟨some 24, _, _, _, _, _⟩) (v := .int .i64 (i : Int)) rfl (by kernel_rfl) (by kernel_rfl) (by kernel_rfl) (fun _ _ _ h => h) (Or.inl ⟨by kernel_rfl, fun w' hSw => ?_⟩) hS ?_
              · go_simp
              simp only [Act.put, List.setIfInBounds_toArray, List.set_cons_zero, List.set_cons_succ]
              refine wpAnyH_take (i := 3) (oi := ⟨some 25, _, _, _, _, _⟩) (v := .int .i64 ((n : Int) - (i : Int))) rfl (by kernel_rfl) (by kernel_rfl) (by kernel_rfl) (fun _ _ _ h => h) (Or.inl ⟨by kernel_rfl, fun w' hSw => ?_⟩) hS ?_
              · (go_simp; try first | exact IntWalk.i64_in _ (by omega) | (rw [Int.tmod_eq_emod_of_nonneg (by omega)]; exact IntWalk.i64_in _ (by omega)))
              simp only [Act.put, List.setIfInBounds_toArray, List.set_cons_zero, List.set_cons_succ]
              refine wpAnyH_take (i := 4) (oi := ⟨some 26, _, _, _, _, _⟩) (v := .int .i64 ((n : Int) - (i : Int) + 4)) rfl (by kernel_rfl) (by kernel_rfl) (by kernel_rfl) (fun _ _ _ h => h) (Or.inl ⟨by kernel_rfl, fun w' hSw => ?_⟩) hS ?_
              · (go_simp; try first | exact IntWalk.i64_in _ (by omega) | (rw [Int.tmod_eq_emod_of_nonneg (by omega)]; exact IntWalk.i64_in _ (by omega)))
              simp only [Act.put, List.setIfInBounds_toArray, List.set_cons_zero, List.set_cons_succ]
              refine wpAnyH_take (i := 5) (oi := ⟨some 27, _, _, _, _, _⟩) (v := .int .i64 (d' : Int)) rfl (by kernel_rfl) (by kernel_rfl) (by kernel_rfl) (fun _ _ _ h => h) (Or.inl ⟨by kernel_rfl, fun w' hSw => ?_⟩) hS ?_
              · (go_simp; rw [Int.tmod_eq_emod_of_nonneg (by omega), HD.out]; try exact IntWalk.i64_in _ (by omega))
              simp only [Act.put, List.setIfInBounds_toArray, List.set_cons_zero, List.set_cons_succ]
              refine wpAnyH_take (i := 6) (oi := ⟨some 28, _, _, _, _, _⟩) (v := .pointer (some ⟨w.heap.size + 1, d', none⟩)) rfl (by kernel_rfl) (by kernel_rfl) (by kernel_rfl) (fun _ _ _ h => h) (Or.inl ⟨by kernel_rfl, fun w' hSw => ?_⟩) hS ?_
              · go_simp
              simp only [Act.put, List.setIfInBounds_toArray, List.set_cons_zero, List.set_cons_succ]
              refine wpAnyH_take (i := 7) (oi := ⟨some 29, _, _, _, _, _⟩) (v := .int .u8 (x : Int)) rfl (by kernel_rfl) (by kernel_rfl) (by kernel_rfl) (fun _ _ _ h => h) (Or.inl ⟨by kernel_rfl, fun w' hSw => ?_⟩) hS ?_
              · (have c := (hSw.cell (p := ⟨w.heap.size + 1, d', none⟩) h1lt).trans hcx; go_simp)
              simp only [Act.put, List.setIfInBounds_toArray, List.set_cons_zero, List.set_cons_succ]
              refine wpAnyH_take (i := 8) (oi := ⟨some 30, _, _, _, _, _⟩) (v := .int .i64 (k : Int)) rfl (by kernel_rfl) (by kernel_rfl) (by kernel_rfl) (fun _ _ _ h => h) (Or.inl ⟨by kernel_rfl, fun w' hSw => ?_⟩) hS ?_
              · go_simp
              simp only [Act.put, List.setIfInBounds_toArray, List.set_cons_zero, List.set_cons_succ]
              refine wpAnyH_take (i := 9) (oi := ⟨some 31, _, _, _, _, _⟩) (v := .int .i64 (4 * (k : Int))) rfl (by kernel_rfl) (by kernel_rfl) (by kernel_rfl) (fun _ _ _ h => h) (Or.inl ⟨by kernel_rfl, fun w' hSw => ?_⟩) hS ?_
              · (go_simp; try first | exact IntWalk.i64_in _ (by omega) | (rw [Int.tmod_eq_emod_of_nonneg (by omega)]; exact IntWalk.i64_in _ (by omega)))
              simp only [Act.put, List.setIfInBounds_toArray, List.set_cons_zero, List.set_cons_succ]
              refine wpAnyH_take (i := 10) (oi := ⟨some 32, _, _, _, _, _⟩) (v := .int .i64 (n : Int)) rfl (by kernel_rfl) (by kernel_rfl) (by kernel_rfl) (fun _ _ _ h => h) (Or.inl ⟨by kernel_rfl, fun w' hSw => ?_⟩) hS ?_
              · go_simp
              simp only [Act.put, List.setIfInBounds_toArray, List.set_cons_zero, List.set_cons_succ]
              refine wpAnyH_take (i := 11) (oi := ⟨some 33, _, _, _, _, _⟩) (v := .int .i64 (q : Int)) rfl (by kernel_rfl) (by kernel_rfl) (by kernel_rfl) (fun _ _ _ h => h) (Or.inl ⟨by kernel_rfl, fun w' hSw => ?_⟩) hS ?_
              · (go_simp; rw [show 4 * (k : Int) + (n : Int) = (q : Int) by have := HQ.out; omega]; exact IntWalk.i64_in _ (by omega))
              simp only [Act.put, List.setIfInBounds_toArray, List.set_cons_zero, List.set_cons_succ]
              refine wpAnyH_take (i := 12) (oi := ⟨some 34, _, _, _, _, _⟩) (v := .pointer (some ⟨w.heap.size, q, none⟩)) rfl (by kernel_rfl) (by kernel_rfl) (by kernel_rfl) (fun _ _ _ h => h) (Or.inl ⟨by kernel_rfl, fun w' hSw => ?_⟩) hS ?_
              · go_simp
              simp only [Act.put, List.setIfInBounds_toArray, List.set_cons_zero, List.set_cons_succ]
              refine wpAnyH_take (i := 13) (oi := ⟨some 35, _, _, _, _, _⟩) (v := .int .u8 (b' : Int)) rfl (by kernel_rfl) (by kernel_rfl) (by kernel_rfl) (fun _ _ _ h => h) (Or.inl ⟨by kernel_rfl, fun w' hSw => ?_⟩) hS ?_
              · (have c := (hSw.cell (p := ⟨w.heap.size, q, none⟩) h0lt).trans hcb; go_simp)
              simp only [Act.put, List.setIfInBounds_toArray, List.set_cons_zero, List.set_cons_succ]
              refine wpAnyH_ready (rs := [14]) (by kernel_rfl) (by simp) ?_
              refine (AllReadyH.cons (o := ⟨some 36, _, _, _, _, _⟩) rfl (fun K hK => ?_) AllReadyH.nil)
              rw [if_pos (by kernel_rfl)]
              go_simp
              refine (HM.out _).mono ?_
              rintro e q ⟨rfl, rfl⟩
              refine hK.out _ _ hS (fun hS => ?_)
              clear hK K
              refine wpAnyH_take (i := 15) (oi := ⟨some 37, _, _, _, _, _⟩) (v := .int .u8 ((v ^^^ m : Nat) : Int)) rfl (by kernel_rfl) (by kernel_rfl) (by kernel_rfl) (fun _ _ _ h => h) (Or.inl ⟨by kernel_rfl, fun w' hSw => ?_⟩) hS ?_
              · go_simp
              simp only [Act.put, List.setIfInBounds_toArray, List.set_cons_zero, List.set_cons_succ]
              refine wpAnyH_take (i := 16) (oi := ⟨some 8, _, _, _, _, _⟩) (v := .int .u8 ((v ^^^ m : Nat) : Int)) rfl (by kernel_rfl) (by kernel_rfl) (by kernel_rfl) (fun _ _ _ h => h) (Or.inl ⟨by kernel_rfl, fun w' hSw => ?_⟩) hS ?_
              · go_simp
              simp only [Act.put, List.setIfInBounds_toArray, List.set_cons_zero, List.set_cons_succ]
              refine wpAnyH_done (by kernel_rfl) ?_ _
              go_wp2_with fail
              go_roundw
              case rel =>
                have hs := hS
                exact ⟨n + 1, v ^^^ m, by go_num, rfl, HN.out, by omega, hA.drew, hB.drew⟩
              case measure => simp [intOf]; omega
theorem rmix_mx (f : Nat → Nat) (hf : ∀ i, f i < 256) (w : World) :
    Calls Try.prog 87 #[.agg (bv f), .agg (cells4 2 3 1 1)] w fun e w' => e = .returned (.agg (bv (mixF mx f))) ∧ Below w.heap.size w w' := by
  have h := rmix_walk 2 3 1 1 (by decide) (by decide) (by decide) (by decide) f hf w
  rwa [bv_congr (fun j hj => rmix_eq mx (l4 2 3 1 1) f rfl rfl rfl rfl (l4_lt (by decide) (by decide) (by decide) (by decide)) hf hj)] at h
theorem rmix_un (f : Nat → Nat) (hf : ∀ i, f i < 256) (w : World) :
    Calls Try.prog 87 #[.agg (bv f), .agg (cells4 14 11 13 9)] w fun e w' => e = .returned (.agg (bv (mixF un f))) ∧ Below w.heap.size w w' := by
  have h := rmix_walk 14 11 13 9 (by decide) (by decide) (by decide) (by decide) f hf w
  rwa [bv_congr (fun j hj => rmix_eq un (l4 14 11 13 9) f rfl rfl rfl rfl (l4_lt (by decide) (by decide) (by decide) (by decide)) hf hj)] at h
end Go.Proofs.Ytibfihjcjohadaa
/- The walk of the reference's Encrypt: what a block is encrypted to; nothing that was there is written. -/
namespace Go.Proofs.Ytibfihjcjohadaa
open Go.RowKit Go.Op
open Sbx (sub sub_lt back back_lt)
open Aes (mx un mixF mixF_lt subF subF_lt backF backF_lt addF addF_lt fwd fwd_lt bwd bwd_lt encR encR_lt decR decR_lt enc shI shI_lt unI unI_lt)
set_option maxRecDepth 100000 in
set_option maxHeartbeats 8000000 in
theorem rencrypt_walk (C X N : Nat) (ws : List Nat) (W : Nat → Nat) (hW : (fun i => ws.getD i 0) = W) (f : Nat → Nat) (hf : ∀ i, f i < 256) (w : World) (hC : Rciph w C X ws) (hN : ws.length = 4 * (N + 1)) (h1 : 1 ≤ N) (h9 : N ≤ 100) :
    Calls Try.prog 66 #[.pointer (some ⟨C, 0, none⟩), .agg (bv f)] w fun e w' => e = .returned (.agg (bv (encR W N f N))) ∧ Below w.heap.size w w' := by
  have HF := Box.mk hf
  have HC := Box.mk hC
  have hlt : C < w.heap.size := by obtain ⟨_, _, h, _⟩ := hC; exact h.lt
  have HM : Box (∀ (g : Nat → Nat) (w1 : World), (∀ i, g i < 256) → Calls Try.prog 87 #[.agg (bv g), .agg #[.int .u8 2, .int .u8 3, .int .u8 1, .int .u8 1]] w1 fun e w' => e = .returned (.agg (bv (mixF mx g))) ∧ Below w1.heap.size w1 w') := ⟨fun g w1 h => rmix_mx g h w1⟩
  have HU : Box (∀ (g : Nat → Nat) (w1 : World), (∀ i, g i < 256) → Calls Try.prog 87 #[.agg (bv g), .agg #[.int .u8 14, .int .u8 11, .int .u8 13, .int .u8 9]] w1 fun e w' => e = .returned (.agg (bv (mixF un g))) ∧ Below w1.heap.size w1 w') := ⟨fun g w1 h => rmix_un g h w1⟩
  have HA : Box (∀ (r : Nat) (g : Nat → Nat) (w1 : World), (∀ i, g i < 256) → r ≤ N → Rciph w1 C X ws → Calls Try.prog 86 #[.pointer (some ⟨C, 0, none⟩), .agg (bv g), .int .i64 (r : Int)] w1 fun e w' => e = .returned (.agg (bv (addF W r g))) ∧ Below w1.heap.size w1 w') := ⟨fun r g w1 hg hr h => by
    rw [← hW]; exact radd_walk C X r ws g hg w1 h (by omega) (by omega)⟩
  have ha0 : Arr ((w.alloc (.cells (bv f) 36)).alloc (.cells #[.int .u8 0, .int .u8 0, .int .u8 0, .int .u8 0, .int .u8 0, .int .u8 0, .int .u8 0, .int .u8 0, .int .u8 0, .int .u8 0, .int .u8 0, .int .u8 0, .int .u8 0, .int .u8 0, .int .u8 0, .int .u8 0] 36)) w.heap.size f := (Arr.new _ _ _ rfl).alloc _
  have hz0 : Arr ((w.alloc (.cells (bv f) 36)).alloc (.cells #[.int .u8 0, .int .u8 0, .int .u8 0, .int .u8 0, .int .u8 0, .int .u8 0, .int .u8 0, .int .u8 0, .int .u8 0, .int .u8 0, .int .u8 0, .int .u8 0, .int .u8 0, .int .u8 0, .int .u8 0, .int .u8 0] 36)) (w.heap.size + 1) (fun _ => 0) := Arr.zero _ _ (by simp)
  have hb0 : Below w.heap.size w ((w.alloc (.cells (bv f) 36)).alloc (.cells #[.int .u8 0, .int .u8 0, .int .u8 0, .int .u8 0, .int .u8 0, .int .u8 0, .int .u8 0, .int .u8 0, .int .u8 0, .int .u8 0, .int .u8 0, .int .u8 0, .int .u8 0, .int .u8 0, .int .u8 0, .int .u8 0] 36)) := ((Below.refl _ _).alloc (Nat.le_refl _) _).alloc (by simp) _
  have hs0 : w.heap.size + 2 ≤ ((w.alloc (.cells (bv f) 36)).alloc (.cells #[.int .u8 0, .int .u8 0, .int .u8 0, .int .u8 0, .int .u8 0, .int .u8 0, .int .u8 0, .int .u8 0, .int .u8 0, .int .u8 0, .int .u8 0, .int .u8 0, .int .u8 0, .int .u8 0, .int .u8 0, .int .u8 0] 36)).heap.size := by simp
  obtain ⟨A, c, g1, g2, g3⟩ := HC.out.below hb0
  obtain ⟨ad, rfl⟩ := words_some g3 (by omega)
  have hck := g1.keys
  have hlen : (ws.length : Int) / 4 - 1 = (N : Int) := by omega
  generalize ws.length = L at hck hlen
  clear g1 g2 g3
  clear hf hC hN hW
  go_enter Try.func66, Try.ntmps66
  go_wp2_with (first
      | ((with_reducible show wpList _ _ _ (⟨some 17, Op.load 36 (.tmp 3), _, _, _, _⟩ :: _) _ _); refine wp_load_arr rfl (.tmp 3) rfl (w.heap.size) (f) rfl (ha0) ?_))
  refine (HA.out 0 f _ HF.out (Nat.zero_le _) (HC.out.below hb0)).mono ?_
  rintro e w2 ⟨rfl, hb2⟩
  have ha2 := ha0.below hb2 ha0.lt
  have hz2 := hz0.below hb2 hz0.lt
  have hs2 := hb2.size
  have hbel2 := hb0.trans (hb2.mono (by omega))
  clear ha0 hz0 hb0 hb2 hck
  go_wp2_with (first
      | ((with_reducible show wpList _ _ _ (⟨_, Op.store 36 (.tmp 3) (.tmp 18), _, _, _, _⟩ :: _) _ _); refine wp_store_arr rfl (.tmp 3) (.tmp 18) rfl (w.heap.size) (f) (addF W 0 f) rfl rfl (ha2) ?_))
  go_loopw [6, 7, 8] (fun r _p _q wr => ∃ (k : Nat), r = .int .i64 ((k : Int) + 1) ∧ k ≤ N ∧ Arr wr w.heap.size (encR W N f k) ∧ Arr wr (w.heap.size + 1) (fun _ => 0) ∧ Below w.heap.size w wr ∧ w.heap.size + 2 ≤ wr.heap.size) (fun r _ _ _ => (N + 1 - intOf r).toNat)
  case atStart => exact ⟨0, rfl, by omega, ha2.setRow, hz2.setRow_far (by omega), below_setRow hbel2 (Nat.le_refl _) _, by simp only [setRow_size]; omega⟩
  case round =>
    obtain ⟨k, rfl, hk, ha, hz, hbel, hsz⟩ := hrel
    clear ha2 hz2 hs2 hbel2 w2
    have hEl : Box (∀ i, encR W N f k i < 256) := ⟨encR_lt HF.out k⟩
    by_cases hkN : k = N
    · subst hkN
      have hle : ¬ ((k : Int) + 1 ≤ (k : Int)) := by omega
      go_wp2_with (first
          | ((with_reducible show wpList _ _ _ (⟨some 56, Op.load 36 (.tmp 3), _, _, _, _⟩ :: _) _ _); refine wp_load_arr rfl (.tmp 3) rfl (w.heap.size) (encR W k f k) rfl (ha) ?_)
          | ((with_reducible show wpList _ _ _ (⟨_, Op.store 36 (.tmp 4) (.tmp 56), _, _, _, _⟩ :: _) _ _); refine wp_store_arr rfl (.tmp 4) (.tmp 56) rfl (w.heap.size + 1) (fun _ => 0) (encR W k f k) rfl rfl (hz) ?_))
      exact bodyPost_ret (results_arr rfl _ _ (w.heap.size + 1) (encR W k f k) rfl hz.setRow) rfl ⟨rfl, below_setRow hbel (by omega) _⟩
    · have hk2 : k < N := by omega
      clear hkN
      have hle : ((k : Int) + 1 ≤ (N : Int)) := by omega
      have hled : decide ((k : Int) + 1 ≤ (N : Int)) = true := decide_eq_true hle
      obtain ⟨e, he⟩ : ∃ e, encR W N f k = e := ⟨_, rfl⟩
      rw [he] at ha hEl
      have HE := Box.mk he
      clear he
      have hn3 : Arr (wr.alloc (.cells #[.int .u8 0, .int .u8 0, .int .u8 0, .int .u8 0, .int .u8 0, .int .u8 0, .int .u8 0, .int .u8 0, .int .u8 0, .int .u8 0, .int .u8 0, .int .u8 0, .int .u8 0, .int .u8 0, .int .u8 0, .int .u8 0] 36)) wr.heap.size (fun _ => 0) := Arr.zero _ _ rfl
      have ha3 := ha.alloc (.cells #[.int .u8 0, .int .u8 0, .int .u8 0, .int .u8 0, .int .u8 0, .int .u8 0, .int .u8 0, .int .u8 0, .int .u8 0, .int .u8 0, .int .u8 0, .int .u8 0, .int .u8 0, .int .u8 0, .int .u8 0, .int .u8 0] 36)
      have hz3 := hz.alloc (.cells #[.int .u8 0, .int .u8 0, .int .u8 0, .int .u8 0, .int .u8 0, .int .u8 0, .int .u8 0, .int .u8 0, .int .u8 0, .int .u8 0, .int .u8 0, .int .u8 0, .int .u8 0, .int .u8 0, .int .u8 0, .int .u8 0] 36)
      have hb3 : Below w.heap.size w (wr.alloc (.cells #[.int .u8 0, .int .u8 0, .int .u8 0, .int .u8 0, .int .u8 0, .int .u8 0, .int .u8 0, .int .u8 0, .int .u8 0, .int .u8 0, .int .u8 0, .int .u8 0, .int .u8 0, .int .u8 0, .int .u8 0, .int .u8 0] 36)) := hbel.alloc (by omega) _
      have hs3 : w.heap.size + 2 ≤ (wr.alloc (.cells #[.int .u8 0, .int .u8 0, .int .u8 0, .int .u8 0, .int .u8 0, .int .u8 0, .int .u8 0, .int .u8 0, .int .u8 0, .int .u8 0, .int .u8 0, .int .u8 0, .int .u8 0, .int .u8 0, .int .u8 0, .int .u8 0] 36)).heap.size := by simp; omega
      go_wp2_with fail
      revert hn3 ha3 hz3 hb3 hs3
      generalize wr.alloc (.cells #[.int .u8 0, .int .u8 0, .int .u8 0, .int .u8 0, .int .u8 0, .int .u8 0, .int .u8 0, .int .u8 0, .int .u8 0, .int .u8 0, .int .u8 0, .int .u8 0, .int .u8 0, .int .u8 0, .int .u8 0, .int .u8 0] 36) = w3
      obtain ⟨g, hg⟩ : ∃ g, g = wr.heap.size := ⟨_, rfl⟩
      rw [← hg]
      have hgs : w.heap.size + 2 ≤ g := by omega
      intro hn3 ha3 hz3 hb3 hs3
      clear ha hz hbel hsz hg
      go_loopw [8] (fun i w4 => ∃ (i' : Nat) (h : Nat → Nat), i = .int .i64 (i' : Int) ∧ i' ≤ 16 ∧ Box (∀ j, h j = if j < i' then subF e j else 0) ∧ Arr w4 g h ∧ Arr w4 w.heap.size e ∧ Arr w4 (w.heap.size + 1) (fun _ => 0) ∧ Below w.heap.size w w4 ∧ w.heap.size + 2 ≤ w4.heap.size) (fun i _ => 16 - (intOf i).toNat)
      case atStart => exact ⟨0, _, rfl, by omega, ⟨fun j => by simp⟩, hn3, ha3, hz3, hb3, hs3⟩
      case round =>
        obtain ⟨i, h, rfl, hi, H, hn, ha, hz, hbel, hsz⟩ := hrel
        clear hn3 ha3 hz3 hb3 hs3 w3
        by_cases hi6 : i = 16
        · subst hi6
          have hn2 : Arr wr g (subF e) := hn.congr (fun j hj => by rw [H.out j, if_pos hj])
          clear hn H
          have HA1 : Box (∀ (g : Nat → Nat) (w1 : World), (∀ i, g i < 256) → Rciph w1 C X ws → Calls Try.prog 86 #[.pointer (some ⟨C, 0, none⟩), .agg (bv g), .int .i64 ((k : Int) + 1)] w1 fun e w' => e = .returned (.agg (bv (addF W (k + 1) g))) ∧ Below w1.heap.size w1 w') := ⟨fun g w1 hg h => HA.out (k + 1) g w1 hg (by omega) h⟩
          by_cases hl : k + 1 < N
          · have hl' : (k : Int) + 1 < (N : Int) := by omega
            have HNEW : Box (addF W (k + 1) (mixF mx (subF e)) = encR W N f (k + 1)) := ⟨by show _ = addF W (k + 1) (fwd N (k + 1) (encR W N f k)); rw [HE.out]; unfold fwd; rw [if_pos hl]⟩
            have HL8 : Box (∀ i, mixF mx (subF e) i < 256) := ⟨mixF_lt (subF_lt hEl.out)⟩
            clear hl
            go_wp2_with (first
                | ((with_reducible show wpList _ _ _ (⟨some 49, Op.load 36 (.tmp 7), _, _, _, _⟩ :: _) _ _); refine wp_load_arr rfl (.tmp 7) rfl (g) (subF e) rfl (hn2) ?_))
            refine (HM.out (subF e) _ (subF_lt hEl.out)).mono ?_
            rintro e5 w5 ⟨rfl, hb5⟩
            have hn5 := hn2.below hb5 hn2.lt
            have ha5 := ha.below hb5 ha.lt
            have hz5 := hz.below hb5 hz.lt
            have hs5 : wr.heap.size ≤ w5.heap.size := hb5.size
            have hbel5 := hbel.trans (hb5.mono (show w.heap.size ≤ wr.heap.size by omega))
            go_wp2_with (first
                | ((with_reducible show wpList _ _ _ (⟨_, Op.store 36 (.tmp 7) (.tmp 51), _, _, _, _⟩ :: _) _ _); refine wp_store_arr rfl (.tmp 7) (.tmp 51) rfl (g) (subF e) (mixF mx (subF e)) rfl rfl (hn5) ?_)
                | ((with_reducible show wpList _ _ _ (⟨some 53, Op.load 36 (.tmp 7), _, _, _, _⟩ :: _) _ _); refine wp_load_arr rfl (.tmp 7) rfl (g) (mixF mx (subF e)) rfl (hn5.setRow) ?_))
            have hn := hn5.setRow (h := mixF mx (subF e))
            have ha := ha5.setRow_far (g' := g) (c := bv (mixF mx (subF e))) (by omega)
            have hz := hz5.setRow_far (g' := g) (c := bv (mixF mx (subF e))) (by omega)
            have hbel := below_setRow hbel5 (show w.heap.size ≤ g by omega) (bv (mixF mx (subF e)))
            have hsz : w.heap.size + 2 ≤ (w5.setRow g (bv (mixF mx (subF e)))).heap.size := by simp only [setRow_size]; omega
            clear hn5 ha5 hz5 hs5 hbel5 hb5 hn2
            revert hn ha hz hbel hsz
            generalize w5.setRow g (bv (mixF mx (subF e))) = w7
            intro hn ha hz hbel hsz
            refine (HA1.out (mixF mx (subF e)) _ HL8.out (HC.out.below hbel)).mono ?_
            rintro e6 w6 ⟨rfl, hb6⟩
            have ha6 := ha.below hb6 ha.lt
            have hz6 := hz.below hb6 hz.lt
            have hs6 := hb6.size
            have hbel6 := hbel.trans (hb6.mono (by omega))
            clear hn hb6
            go_wp2_with (first
                | ((with_reducible show wpList _ _ _ (⟨_, Op.store 36 (.tmp 3) (.tmp 55), _, _, _, _⟩ :: _) _ _); refine wp_store_arr rfl (.tmp 3) (.tmp 55) rfl (w.heap.size) (e) (addF W (k + 1) (mixF mx (subF e))) rfl rfl (ha6) ?_))
            go_roundw
            case rel =>
              refine ⟨k + 1, by go_num, by omega, ?_, hz6.setRow_far (by omega), below_setRow hbel6 (Nat.le_refl _) _, by simp only [setRow_size]; omega⟩
              rw [← HNEW.out]
              exact ha6.setRow
            case measure => simp [intOf]; omega
          · have hl' : ¬ ((k : Int) + 1 < (N : Int)) := by omega
            have HNEW : Box (addF W (k + 1) (subF e) = encR W N f (k + 1)) := ⟨by show _ = addF W (k + 1) (fwd N (k + 1) (encR W N f k)); rw [HE.out]; unfold fwd; rw [if_neg hl]⟩
            have HL8 : Box (∀ i, subF e i < 256) := ⟨subF_lt hEl.out⟩
            have hn := hn2
            clear hl hn2
            go_wp2_with (first
                | ((with_reducible show wpList _ _ _ (⟨some 53, Op.load 36 (.tmp 7), _, _, _, _⟩ :: _) _ _); refine wp_load_arr rfl (.tmp 7) rfl (g) (subF e) rfl (hn) ?_))
            refine (HA1.out (subF e) _ HL8.out (HC.out.below hbel)).mono ?_
            rintro e6 w6 ⟨rfl, hb6⟩
            have ha6 := ha.below hb6 ha.lt
            have hz6 := hz.below hb6 hz.lt
            have hs6 := hb6.size
            have hbel6 := hbel.trans (hb6.mono (by omega))
            clear hn hb6
            go_wp2_with (first
                | ((with_reducible show wpList _ _ _ (⟨_, Op.store 36 (.tmp 3) (.tmp 55), _, _, _, _⟩ :: _) _ _); refine wp_store_arr rfl (.tmp 3) (.tmp 55) rfl (w.heap.size) (e) (addF W (k + 1) (subF e)) rfl rfl (ha6) ?_))
            go_roundw
            case rel =>
              refine ⟨k + 1, by go_num, by omega, ?_, hz6.setRow_far (by omega), below_setRow hbel6 (Nat.le_refl _) _, by simp only [setRow_size]; omega⟩
              rw [← HNEW.out]
              exact ha6.setRow
            case measure => simp [intOf]; omega
        · have hi2 : i < 16 := by omega
          clear hi6
          obtain ⟨A, c, g1, g2, g3⟩ := HC.out.below hbel
          obtain ⟨s, hs⟩ : ∃ s, s = shI i := ⟨_, rfl⟩
          have hsl : s < 16 := by rw [hs]; exact shI_lt i
          have HS2 : Box (s = (i + 4 * (i % 4)) % 16) := ⟨hs⟩
          obtain ⟨b, hb⟩ : ∃ b, e s = b := ⟨_, rfl⟩
          have hbl : b < 256 := by rw [← hb]; exact hEl.out s
          obtain ⟨y, hy⟩ : ∃ y, sub b = y := ⟨_, rfl⟩
          have HY : Box (y = subF e i) := ⟨by unfold subF; rw [← hs, hb, hy]⟩
          have cb := ha.cell hsl
          rw [hb] at cb
          have cy := g2.to hbl
          rw [hy] at cy
          have cg := hn.cell hi2
          rw [H.out i, if_neg (by omega)] at cg
          have hSS : S61 w.heap.size s C X b y g i wr.drew := ⟨g1.box, cb, cy, cg, hn.free i⟩
          have hs0 : (0 : Int) ≤ (s : Int) := by omega
          have hs1 : (s : Int) < 16 := by omega
          have hs2 : ¬ 16 ≤ s := by omega
          have hb0 : (0 : Int) ≤ (b : Int) := by omega
          have hb1 : (b : Int) < 256 := by omega
          clear hs hb hy cb cy cg g1 g2 g3
          go_wp2_with fail
          refine wp_region_Z 18 18 (S61 w.heap.size s C X b y g i) (fun _ => True) (by kernel_rfl) ?_
          have hS : _ ∧ True := ⟨hSS, trivial⟩
          refine wpAnyZ_any (i := 0) (oi := ⟨some 28, _, _, _, _, _⟩) (v := .int .i64 (i : Int)) rfl (by kernel_rfl) (by kernel_rfl) (by kernel_rfl) (by kernel_rfl) (fun _ _ _ h => h) (Or.inl ⟨by kernel_rfl, fun w' _ => ?_⟩) ⟨.inr hS.1, .inr hS.2⟩ ?_
          · go_simp
          simp only [Act.put, List.setIfInBounds_toArray, List.set_cons_zero, List.set_cons_succ]
          refine wpAnyZ_any (i := 1) (oi := ⟨some 29, _, _, _, _, _⟩) (v := .pointer (some ⟨C, 0, none⟩)) rfl (by kernel_rfl) (by kernel_rfl) (by kernel_rfl) (by kernel_rfl) (fun _ _ _ h => h) (Or.inl ⟨by kernel_rfl, fun w' _ => ?_⟩) ⟨.inr hS.1, .inr hS.2⟩ ?_
          · go_simp
          simp only [Act.put, List.setIfInBounds_toArray, List.set_cons_zero, List.set_cons_succ]
          refine wpAnyZ_any (i := 2) (oi := ⟨some 30, _, _, _, _, _⟩) (v := .pointer (some ⟨C, 0, none⟩)) rfl (by kernel_rfl) (by kernel_rfl) (by kernel_rfl) (by kernel_rfl) (fun _ _ _ h => h) (Or.inl ⟨by kernel_rfl, fun w' _ => ?_⟩) ⟨.inr hS.1, .inr hS.2⟩ ?_
          · go_simp
          simp only [Act.put, List.setIfInBounds_toArray, List.set_cons_zero, List.set_cons_succ]
          refine wpAnyZ_any (i := 3) (oi := ⟨some 31, _, _, _, _, _⟩) (v := .pointer (some ⟨C, 0, none⟩)) rfl (by kernel_rfl) (by kernel_rfl) (by kernel_rfl) (by kernel_rfl) (fun _ _ _ h => h) (Or.inl ⟨by kernel_rfl, fun w' _ => ?_⟩) ⟨.inr hS.1, .inr hS.2⟩ ?_
          · go_simp
          simp only [Act.put, List.setIfInBounds_toArray, List.set_cons_zero, List.set_cons_succ]
          refine wpAnyZ_take (i := 4) (oi := ⟨some 32, _, _, _, _, _⟩) (v := .pointer (some ⟨X, 0, none⟩)) rfl (by kernel_rfl) (by kernel_rfl) (by kernel_rfl) (by kernel_rfl) (fun _ _ _ h => h) (Or.inl ⟨by kernel_rfl, fun w' hSw => ?_⟩) hS ?_
          · (have c := hSw.ct; go_simp)
          simp only [Act.put, List.setIfInBounds_toArray, List.set_cons_zero, List.set_cons_succ]
          refine wpAnyZ_any (i := 5) (oi := ⟨some 33, _, _, _, _, _⟩) (v := .int .i64 (i : Int)) rfl (by kernel_rfl) (by kernel_rfl) (by kernel_rfl) (by kernel_rfl) (fun _ _ _ h => h) (Or.inl ⟨by kernel_rfl, fun w' _ => ?_⟩) ⟨.inr hS.1, .inr hS.2⟩ ?_
          · go_simp
          simp only [Act.put, List.setIfInBounds_toArray, List.set_cons_zero, List.set_cons_succ]
          refine wpAnyZ_any (i := 6) (oi := ⟨some 34, _, _, _, _, _⟩) (v := .int .i64 (i : Int)) rfl (by kernel_rfl) (by kernel_rfl) (by kernel_rfl) (by kernel_rfl) (fun _ _ _ h => h) (Or.inl ⟨by kernel_rfl, fun w' _ => ?_⟩) ⟨.inr hS.1, .inr hS.2⟩ ?_
          · go_simp
          simp only [Act.put, List.setIfInBounds_toArray, List.set_cons_zero, List.set_cons_succ]
          refine wpAnyZ_any (i := 7) (oi := ⟨some 35, _, _, _, _, _⟩) (v := .int .i64 ((i % 4 : Nat) : Int)) rfl (by kernel_rfl) (by kernel_rfl) (by kernel_rfl) (by kernel_rfl) (fun _ _ _ h => h) (Or.inl ⟨by kernel_rfl, fun w' _ => ?_⟩) ⟨.inr hS.1, .inr hS.2⟩ ?_
          · (go_simp; try first | exact Int.tmod_eq_emod_of_nonneg (by omega) | exact IntWalk.i64_in _ (by omega) | (rw [Int.tdiv_eq_ediv_of_nonneg (by omega)]; exact IntWalk.i64_in _ (by omega)) | (rw [Int.tmod_eq_emod_of_nonneg (by omega)]; exact IntWalk.i64_in _ (by omega)))
          simp only [Act.put, List.setIfInBounds_toArray, List.set_cons_zero, List.set_cons_succ]
          refine wpAnyZ_any (i := 8) (oi := ⟨some 36, _, _, _, _, _⟩) (v := .int .i64 (4 * ((i % 4 : Nat) : Int))) rfl (by kernel_rfl) (by kernel_rfl) (by kernel_rfl) (by kernel_rfl) (fun _ _ _ h => h) (Or.inl ⟨by kernel_rfl, fun w' _ => ?_⟩) ⟨.inr hS.1, .inr hS.2⟩ ?_
          · (go_simp; try first | exact Int.tmod_eq_emod_of_nonneg (by omega) | exact IntWalk.i64_in _ (by omega) | (rw [Int.tdiv_eq_ediv_of_nonneg (by omega)]; exact IntWalk.i64_in _ (by omega)) | (rw [Int.tmod_eq_emod_of_nonneg (by omega)]; exact IntWalk.i64_in _ (by omega)))
          simp only [Act.put, List.setIfInBounds_toArray, List.set_cons_zero, List.set_cons_succ]
          refine wpAnyZ_any (i := 9) (oi := ⟨some 37, _, _, _, _, _⟩) (v := .int .i64 ((i : Int) + 4 * ((i % 4 : Nat) : Int))) rfl (by kernel_rfl) (by kernel_rfl) (by kernel_rfl) (by kernel_rfl) (fun _ _ _ h => h) (Or.inl ⟨by kernel_rfl, fun w' _ => ?_⟩) ⟨.inr hS.1, .inr hS.2⟩ ?_
          · (go_simp; try first | exact Int.tmod_eq_emod_of_nonneg (by omega) | exact IntWalk.i64_in _ (by omega) | (rw [Int.tdiv_eq_ediv_of_nonneg (by omega)]; exact IntWalk.i64_in _ (by omega)) | (rw [Int.tmod_eq_emod_of_nonneg (by omega)]; exact IntWalk.i64_in _ (by omega)))
          simp only [Act.put, List.setIfInBounds_toArray, List.set_cons_zero, List.set_cons_succ]
          refine wpAnyZ_any (i := 10) (oi := ⟨some 38, _, _, _, _, _⟩) (v := .int .i64 (s : Int)) rfl (by kernel_rfl) (by kernel_rfl) (by kernel_rfl) (by kernel_rfl) (fun _ _ _ h => h) (Or.inl ⟨by kernel_rfl, fun w' _ => ?_⟩) ⟨.inr hS.1, .inr hS.2⟩ ?_
          · (go_simp; have h := HS2.out; rw [Int.tmod_eq_emod_of_nonneg (by omega), show ((i : Int) + 4 * ((i : Int) % 4)) % 16 = (s : Int) by omega]; try exact IntWalk.i64_in _ (by omega))
          simp only [Act.put, List.setIfInBounds_toArray, List.set_cons_zero, List.set_cons_succ]
          refine wpAnyZ_any (i := 11) (oi := ⟨some 39, _, _, _, _, _⟩) (v := .pointer (some ⟨w.heap.size, s, none⟩)) rfl (by kernel_rfl) (by kernel_rfl) (by kernel_rfl) (by kernel_rfl) (fun _ _ _ h => h) (Or.inl ⟨by kernel_rfl, fun w' _ => ?_⟩) ⟨.inr hS.1, .inr hS.2⟩ ?_
          · go_simp
          simp only [Act.put, List.setIfInBounds_toArray, List.set_cons_zero, List.set_cons_succ]
          refine wpAnyZ_take (i := 12) (oi := ⟨some 40, _, _, _, _, _⟩) (v := .int .u8 (b : Int)) rfl (by kernel_rfl) (by kernel_rfl) (by kernel_rfl) (by kernel_rfl) (fun _ _ _ h => h) (Or.inl ⟨by kernel_rfl, fun w' hSw => ?_⟩) hS ?_
          · (have c := hSw.cb; go_simp)
          simp only [Act.put, List.setIfInBounds_toArray, List.set_cons_zero, List.set_cons_succ]
          refine wpAnyZ_any (i := 13) (oi := ⟨some 41, _, _, _, _, _⟩) (v := .pointer (some ⟨X, 0, none⟩)) rfl (by kernel_rfl) (by kernel_rfl) (by kernel_rfl) (by kernel_rfl) (fun _ _ _ h => h) (Or.inl ⟨by kernel_rfl, fun w' _ => ?_⟩) ⟨.inr hS.1, .inr hS.2⟩ ?_
          · go_simp
          simp only [Act.put, List.setIfInBounds_toArray, List.set_cons_zero, List.set_cons_succ]
          refine wpAnyZ_any (i := 14) (oi := ⟨some 42, _, _, _, _, _⟩) (v := .pointer (some ⟨X, 0, none⟩)) rfl (by kernel_rfl) (by kernel_rfl) (by kernel_rfl) (by kernel_rfl) (fun _ _ _ h => h) (Or.inl ⟨by kernel_rfl, fun w' _ => ?_⟩) ⟨.inr hS.1, .inr hS.2⟩ ?_
          · go_simp
          simp only [Act.put, List.setIfInBounds_toArray, List.set_cons_zero, List.set_cons_succ]
          refine wpAnyZ_any (i := 15) (oi := ⟨some 43, _, _, _, _, _⟩) (v := .pointer (some ⟨X, b, none⟩)) rfl (by kernel_rfl) (by kernel_rfl) (by kernel_rfl) (by kernel_rfl) (fun _ _ _ h => h) (Or.inl ⟨by kernel_rfl, fun w' _ => ?_⟩) ⟨.inr hS.1, .inr hS.2⟩ ?_
          · go_simp
          simp only [Act.put, List.setIfInBounds_toArray, List.set_cons_zero, List.set_cons_succ]
          refine wpAnyZ_take (i := 16) (oi := ⟨some 44, _, _, _, _, _⟩) (v := .int .u8 (y : Int)) rfl (by kernel_rfl) (by kernel_rfl) (by kernel_rfl) (by kernel_rfl) (fun _ _ _ h => h) (Or.inl ⟨by kernel_rfl, fun w' hSw => ?_⟩) hS ?_
          · (have c := hSw.cy; go_simp)
          simp only [Act.put, List.setIfInBounds_toArray, List.set_cons_zero, List.set_cons_succ]
          refine wpAnyZ_any (i := 17) (oi := ⟨some 45, _, _, _, _, _⟩) (v := .pointer (some ⟨g, i, none⟩)) rfl (by kernel_rfl) (by kernel_rfl) (by kernel_rfl) (by kernel_rfl) (fun _ _ _ h => h) (Or.inl ⟨by kernel_rfl, fun w' _ => ?_⟩) ⟨.inr hS.1, .inr hS.2⟩ ?_
          · go_simp
          simp only [Act.put, List.setIfInBounds_toArray, List.set_cons_zero, List.set_cons_succ]
          refine wpAnyZ_one (i := 18) (o := ⟨none, _, _, _, _, _⟩) (by kernel_rfl) rfl (by kernel_rfl) (fun K hK => ?_)
          have c := hS.1.cg
          have hfz := hS.1.fg
          go_simp
          refine hK.out _ _ ⟨.inl (show _ = true by kernel_rfl), .inl (show _ = true by kernel_rfl)⟩ ?_
          clear hK K hS
          refine wpAnyZ_done (by kernel_rfl) ?_ _
          go_wp2_with fail
          go_roundw
          case rel =>
            refine ⟨i + 1, upd h i y, by go_num, by omega, ⟨fun j => ?_⟩, (Arr.set hn).drew, (ha.far (show w.heap.size ≠ g by omega) _).drew, (hz.far (show w.heap.size + 1 ≠ g by omega) _).drew, (hbel.setCell (show w.heap.size ≤ g by omega) _).drew, ?_⟩
            · unfold upd
              by_cases e1 : j = i
              · subst e1; rw [if_pos rfl, if_pos (by omega)]; exact HY.out
              · rw [if_neg e1, H.out j]
                by_cases hjk : j < i
                · rw [if_pos hjk, if_pos (by omega)]
                · rw [if_neg hjk, if_neg (by omega)]
            · show _ ≤ (wr.setCell _ _).heap.size
              rw [World.size_setCell]; exact hsz
          case measure => simp [intOf]; omega
end Go.Proofs.Ytibfihjcjohadaa
/- The walk of the reference's Decrypt: what a block is decrypted to; nothing that was there is written. -/
namespace Go.Proofs.Ytibfihjcjohadaa
open Go.RowKit Go.Op
open Sbx (sub sub_lt back back_lt)
open Aes (mx un mixF mixF_lt subF subF_lt backF backF_lt addF addF_lt fwd fwd_lt bwd bwd_lt encR encR_lt decR decR_lt enc shI shI_lt unI unI_lt)
open Aes (sh_un un_sh)
set_option maxRecDepth 100000 in
set_option maxHeartbeats 8000000 in
theorem rdecrypt_walk (C X N : Nat) (ws : List Nat) (W : Nat → Nat) (hW : (fun i => ws.getD i 0) = W) (f : Nat → Nat) (hf : ∀ i, f i < 256) (w : World) (hC : Rciph w C X ws) (hN : ws.length = 4 * (N + 1)) (h1 : 1 ≤ N) (h9 : N ≤ 100) :
    Calls Try.prog 67 #[.pointer (some ⟨C, 0, none⟩), .agg (bv f)] w fun e w' => e = .returned (.agg (bv (addF W 0 (decR W N f N)))) ∧ Below w.heap.size w w' := by
  have HF := Box.mk hf
  have HC := Box.mk hC
  have hlt : C < w.heap.size := by obtain ⟨_, _, h, _⟩ := hC; exact h.lt
  have HM : Box (∀ (g : Nat → Nat) (w1 : World), (∀ i, g i < 256) → Calls Try.prog 87 #[.agg (bv g), .agg #[.int .u8 2, .int .u8 3, .int .u8 1, .int .u8 1]] w1 fun e w' => e = .returned (.agg (bv (mixF mx g))) ∧ Below w1.heap.size w1 w') := ⟨fun g w1 h => rmix_mx g h w1⟩
  have HU : Box (∀ (g : Nat → Nat) (w1 : World), (∀ i, g i < 256) → Calls Try.prog 87 #[.agg (bv g), .agg #[.int .u8 14, .int .u8 11, .int .u8 13, .int .u8 9]] w1 fun e w' => e = .returned (.agg (bv (mixF un g))) ∧ Below w1.heap.size w1 w') := ⟨fun g w1 h => rmix_un g h w1⟩
  have HA : Box (∀ (r : Nat) (g : Nat → Nat) (w1 : World), (∀ i, g i < 256) → r ≤ N → Rciph w1 C X ws → Calls Try.prog 86 #[.pointer (some ⟨C, 0, none⟩), .agg (bv g), .int .i64 (r : Int)] w1 fun e w' => e = .returned (.agg (bv (addF W r g))) ∧ Below w1.heap.size w1 w') := ⟨fun r g w1 hg hr h => by
    rw [← hW]; exact radd_walk C X r ws g hg w1 h (by omega) (by omega)⟩
  have ha0 : Arr ((w.alloc (.cells (bv f) 36)).alloc (.cells #[.int .u8 0, .int .u8 0, .int .u8 0, .int .u8 0, .int .u8 0, .int .u8 0, .int .u8 0, .int .u8 0, .int .u8 0, .int .u8 0, .int .u8 0, .int .u8 0, .int .u8 0, .int .u8 0, .int .u8 0, .int .u8 0] 36)) w.heap.size f := (Arr.new _ _ _ rfl).alloc _
  have hz0 : Arr ((w.alloc (.cells (bv f) 36)).alloc (.cells #[.int .u8 0, .int .u8 0, .int .u8 0, .int .u8 0, .int .u8 0, .int .u8 0, .int .u8 0, .int .u8 0, .int .u8 0, .int .u8 0, .int .u8 0, .int .u8 0, .int .u8 0, .int .u8 0, .int .u8 0, .int .u8 0] 36)) (w.heap.size + 1) (fun _ => 0) := Arr.zero _ _ (by simp)
  have hb0 : Below w.heap.size w ((w.alloc (.cells (bv f) 36)).alloc (.cells #[.int .u8 0, .int .u8 0, .int .u8 0, .int .u8 0, .int .u8 0, .int .u8 0, .int .u8 0, .int .u8 0, .int .u8 0, .int .u8 0, .int .u8 0, .int .u8 0, .int .u8 0, .int .u8 0, .int .u8 0, .int .u8 0] 36)) := ((Below.refl _ _).alloc (Nat.le_refl _) _).alloc (by simp) _
  have hs0 : w.heap.size + 2 ≤ ((w.alloc (.cells (bv f) 36)).alloc (.cells #[.int .u8 0, .int .u8 0, .int .u8 0, .int .u8 0, .int .u8 0, .int .u8 0, .int .u8 0, .int .u8 0, .int .u8 0, .int .u8 0, .int .u8 0, .int .u8 0, .int .u8 0, .int .u8 0, .int .u8 0, .int .u8 0] 36)).heap.size := by simp
  obtain ⟨A, c, g1, g2, g3⟩ := HC.out.below hb0
  obtain ⟨ad, rfl⟩ := words_some g3 (by omega)
  have hck := g1.keys
  have hlen : (ws.length : Int) / 4 - 1 = (N : Int) := by omega
  generalize ws.length = L at hck hlen
  clear g1 g2 g3
  clear hf hC hN hW
  go_enter Try.func67, Try.ntmps67
  go_wp2_with fail
  revert ha0 hz0 hb0 hs0 hck
  generalize (w.alloc (.cells (bv f) 36)).alloc (.cells #[.int .u8 0, .int .u8 0, .int .u8 0, .int .u8 0, .int .u8 0, .int .u8 0, .int .u8 0, .int .u8 0, .int .u8 0, .int .u8 0, .int .u8 0, .int .u8 0, .int .u8 0, .int .u8 0, .int .u8 0, .int .u8 0] 36) = w1
  intro ha0 hz0 hb0 hs0 hck
  go_loopw [6, 7, 8] (fun r _p _q wr => ∃ (k m : Nat), r = .int .i64 (m : Int) ∧ m + k = N ∧ Arr wr w.heap.size (decR W N f k) ∧ Arr wr (w.heap.size + 1) (fun _ => 0) ∧ Below w.heap.size w wr ∧ w.heap.size + 2 ≤ wr.heap.size) (fun r _ _ _ => (intOf r).toNat)
  case atStart => exact ⟨0, N, rfl, by omega, ha0, hz0, hb0, hs0⟩
  case round =>
    obtain ⟨k, m, rfl, hk, ha, hz, hbel, hsz⟩ := hrel
    clear ha0 hz0 hb0 hs0 hck w1
    have hEl : Box (∀ i, decR W N f k i < 256) := ⟨decR_lt HF.out k⟩
    cases m with
    | zero =>
      have hk : k = N := by omega
      subst hk
      simp only [show ((0 : Nat) : Int) = 0 from rfl]
      obtain ⟨e, he⟩ : ∃ e, decR W k f k = e := ⟨_, rfl⟩
      rw [he] at ha hEl
      have HE := Box.mk he
      clear he
      go_wp2_with (first
          | ((with_reducible show wpList _ _ _ (⟨some 55, Op.load 36 (.tmp 3), _, _, _, _⟩ :: _) _ _); refine wp_load_arr rfl (.tmp 3) rfl (w.heap.size) (e) rfl (ha) ?_))
      refine (HA.out 0 e _ hEl.out (Nat.zero_le _) (HC.out.below hbel)).mono ?_
      rintro e1 w2 ⟨rfl, hb2⟩
      have hz2 := hz.below hb2 hz.lt
      have hbel2 := hbel.trans (hb2.mono (by omega))
      clear hbel hb2
      go_wp2_with (first
          | ((with_reducible show wpList _ _ _ (⟨_, Op.store 36 (.tmp 4) (.tmp 56), _, _, _, _⟩ :: _) _ _); refine wp_store_arr rfl (.tmp 4) (.tmp 56) rfl (w.heap.size + 1) (fun _ => 0) (addF W 0 e) rfl rfl (hz2) ?_))
      exact bodyPost_ret (results_arr rfl _ _ (w.heap.size + 1) (addF W 0 e) rfl hz2.setRow) rfl ⟨by rw [HE.out], below_setRow hbel2 (by omega) _⟩
    | succ m =>
      have hgt : 1 ≤ ((m + 1 : Nat) : Int) := by omega
      obtain ⟨e, he⟩ : ∃ e, decR W N f k = e := ⟨_, rfl⟩
      rw [he] at ha hEl
      have HE := Box.mk he
      clear he
      have hq := HA.out (m + 1) e wr hEl.out (by omega) (HC.out.below hbel)
      have HEQ : Box (m + 1 = N - k) := ⟨by omega⟩
      obtain ⟨a, hA⟩ : ∃ a, addF W (m + 1) e = a := ⟨_, rfl⟩
      rw [hA] at hq
      have HAL : Box (∀ i, a i < 256) := ⟨by rw [← hA]; exact addF_lt hEl.out⟩
      have HAE := Box.mk hA
      clear hA
      have hm1 : (((m + 1 : Nat) : Int)) = (m : Int) + 1 := by omega
      rw [hm1] at hgt hq ⊢
      have hgd : decide (1 ≤ (m : Int) + 1) = true := decide_eq_true hgt
      go_wp2_with (first
          | ((with_reducible show wpList _ _ _ (⟨some 22, Op.load 36 (.tmp 3), _, _, _, _⟩ :: _) _ _); refine wp_load_arr rfl (.tmp 3) rfl (w.heap.size) (e) rfl (ha) ?_))
      refine hq.mono ?_
      rintro e6 w6 ⟨rfl, hb6⟩
      have ha6 := ha.below hb6 ha.lt
      have hz6 := hz.below hb6 hz.lt
      have hs6 := hb6.size
      have hbel6 := hbel.trans (hb6.mono (by omega))
      have ha := ha6.setRow (h := a)
      have hz := hz6.setRow_far (g' := w.heap.size) (c := bv a) (by omega)
      have hbel := below_setRow hbel6 (Nat.le_refl _) (bv a)
      have hsz : w.heap.size + 2 ≤ (w6.setRow w.heap.size (bv a)).heap.size := by simp only [setRow_size]; omega
      by_cases hl : m + 1 < N
      · have hl' : (m : Int) + 1 < (N : Int) := by omega
        have HNEW : Box (backF (mixF un a) = decR W N f (k + 1)) := ⟨by show _ = bwd N (N - k) (addF W (N - k) (decR W N f k)); rw [HE.out, ← HEQ.out, HAE.out]; unfold bwd; rw [if_pos hl]⟩
        have HX : Box (∀ i, mixF un a i < 256) := ⟨mixF_lt HAL.out⟩
        clear hl
        go_wp2_with (first
            | ((with_reducible show wpList _ _ _ (⟨_, Op.store 36 (.tmp 3) (.tmp 24), _, _, _, _⟩ :: _) _ _); refine wp_store_arr rfl (.tmp 3) (.tmp 24) rfl (w.heap.size) (e) (a) rfl rfl (ha6) ?_)
            | ((with_reducible show wpList _ _ _ (⟨some 28, Op.load 36 (.tmp 3), _, _, _, _⟩ :: _) _ _); refine wp_load_arr rfl (.tmp 3) rfl (w.heap.size) (a) rfl (ha6.setRow) ?_))
        revert ha hz hbel hsz
        generalize w6.setRow w.heap.size (bv a) = w7
        intro ha hz hbel hsz
        clear ha6 hz6 hbel6 hb6
        refine (HU.out a _ HAL.out).mono ?_
        rintro e5 w5 ⟨rfl, hb5⟩
        have ha5 := ha.below hb5 ha.lt
        have hz5 := hz.below hb5 hz.lt
        have hs5 : w7.heap.size ≤ w5.heap.size := hb5.size
        have hbel5 := hbel.trans (hb5.mono (by omega))
        clear ha hz hbel hb5
        obtain ⟨x, hx⟩ : ∃ x, mixF un a = x := ⟨_, rfl⟩
        rw [hx] at HNEW HX ⊢
        clear hx
        have hn3 : Arr ((w5.setRow w.heap.size (bv x)).alloc (.cells #[.int .u8 0, .int .u8 0, .int .u8 0, .int .u8 0, .int .u8 0, .int .u8 0, .int .u8 0, .int .u8 0, .int .u8 0, .int .u8 0, .int .u8 0, .int .u8 0, .int .u8 0, .int .u8 0, .int .u8 0, .int .u8 0] 36)) w5.heap.size (fun _ => 0) := Arr.zero _ _ (by simp)
        have ha3 : Arr ((w5.setRow w.heap.size (bv x)).alloc (.cells #[.int .u8 0, .int .u8 0, .int .u8 0, .int .u8 0, .int .u8 0, .int .u8 0, .int .u8 0, .int .u8 0, .int .u8 0, .int .u8 0, .int .u8 0, .int .u8 0, .int .u8 0, .int .u8 0, .int .u8 0, .int .u8 0] 36)) w.heap.size x := (ha5.setRow).alloc _
        have hz3 := (hz5.setRow_far (g' := w.heap.size) (c := bv x) (by omega)).alloc (.cells #[.int .u8 0, .int .u8 0, .int .u8 0, .int .u8 0, .int .u8 0, .int .u8 0, .int .u8 0, .int .u8 0, .int .u8 0, .int .u8 0, .int .u8 0, .int .u8 0, .int .u8 0, .int .u8 0, .int .u8 0, .int .u8 0] 36)
        have hb3 : Below w.heap.size w ((w5.setRow w.heap.size (bv x)).alloc (.cells #[.int .u8 0, .int .u8 0, .int .u8 0, .int .u8 0, .int .u8 0, .int .u8 0, .int .u8 0, .int .u8 0, .int .u8 0, .int .u8 0, .int .u8 0, .int .u8 0, .int .u8 0, .int .u8 0, .int .u8 0, .int .u8 0] 36)) := (below_setRow hbel5 (Nat.le_refl _) (bv x)).alloc (by simp only [setRow_size]; omega) _
        have hs3 : w.heap.size + 2 ≤ ((w5.setRow w.heap.size (bv x)).alloc (.cells #[.int .u8 0, .int .u8 0, .int .u8 0, .int .u8 0, .int .u8 0, .int .u8 0, .int .u8 0, .int .u8 0, .int .u8 0, .int .u8 0, .int .u8 0, .int .u8 0, .int .u8 0, .int .u8 0, .int .u8 0, .int .u8 0] 36)).heap.size := by simp; omega
        go_wp2_with (first
            | ((with_reducible show wpList _ _ _ (⟨_, Op.store 36 (.tmp 3) (.tmp 30), _, _, _, _⟩ :: _) _ _); refine wp_store_arr rfl (.tmp 3) (.tmp 30) rfl (w.heap.size) (_) (x) rfl rfl (ha5) ?_))
        clear ha5 hz5 hbel5
        revert hn3 ha3 hz3 hb3 hs3
        generalize (w5.setRow w.heap.size (bv x)).alloc (.cells #[.int .u8 0, .int .u8 0, .int .u8 0, .int .u8 0, .int .u8 0, .int .u8 0, .int .u8 0, .int .u8 0, .int .u8 0, .int .u8 0, .int .u8 0, .int .u8 0, .int .u8 0, .int .u8 0, .int .u8 0, .int .u8 0] 36) = w3
        obtain ⟨g, hg⟩ : ∃ g, g = w5.heap.size := ⟨_, rfl⟩
        rw [← hg]
        have hgs : w.heap.size + 2 ≤ g := by omega
        intro hn3 ha3 hz3 hb3 hs3
        clear hg
        go_loopw [8] (fun i w4 => ∃ (i' : Nat) (h : Nat → Nat), i = .int .i64 (i' : Int) ∧ i' ≤ 16 ∧ Box (∀ j, j < 16 → h j = if unI j < i' then backF x j else 0) ∧ Arr w4 g h ∧ Arr w4 w.heap.size x ∧ Arr w4 (w.heap.size + 1) (fun _ => 0) ∧ Below w.heap.size w w4 ∧ w.heap.size + 2 ≤ w4.heap.size) (fun i _ => 16 - (intOf i).toNat)
        case atStart => exact ⟨0, _, rfl, by omega, ⟨fun j _ => by simp⟩, hn3, ha3, hz3, hb3, hs3⟩
        case round =>
          obtain ⟨i, h, rfl, hi, H, hn, ha, hz, hbel, hsz⟩ := hrel
          clear hn3 ha3 hz3 hb3 hs3 w3
          by_cases hi6 : i = 16
          · subst hi6
            have hn2 : Arr wr g (backF x) := hn.congr (fun j hj => by rw [H.out j hj, if_pos (unI_lt j)])
            clear hn H
            have hn4 := hn2.setRow_far (g' := w.heap.size) (c := bv (backF x)) (by omega)
            have ha4 := ha.setRow (h := backF x)
            have hz4 := hz.setRow_far (g' := w.heap.size) (c := bv (backF x)) (by omega)
            go_wp2_with (first
                | ((with_reducible show wpList _ _ _ (⟨some 53, Op.load 36 (.tmp 7), _, _, _, _⟩ :: _) _ _); refine wp_load_arr rfl (.tmp 7) rfl (g) (backF x) rfl (hn2) ?_)
                | ((with_reducible show wpList _ _ _ (⟨_, Op.store 36 (.tmp 3) (.tmp 53), _, _, _, _⟩ :: _) _ _); refine wp_store_arr rfl (.tmp 3) (.tmp 53) rfl (w.heap.size) (x) (backF x) rfl rfl (ha) ?_))
            go_roundw
            case rel =>
              refine ⟨k + 1, m, by go_num, by omega, ?_, hz4, below_setRow hbel (Nat.le_refl _) _, by simp only [setRow_size]; omega⟩
              rw [← HNEW.out]
              exact ha4
            case measure => simp [intOf]
          · have hi2 : i < 16 := by omega
            clear hi6
            obtain ⟨A, c, g1, g2, g3⟩ := HC.out.below hbel
            obtain ⟨s, hs⟩ : ∃ s, s = shI i := ⟨_, rfl⟩
            have hsl : s < 16 := by rw [hs]; exact shI_lt i
            have hus : unI s = i := by rw [hs]; exact un_sh hi2
            have HS2 : Box (s = (i + 4 * (i % 4)) % 16) := ⟨hs⟩
            obtain ⟨b, hb⟩ : ∃ b, x i = b := ⟨_, rfl⟩
            have hbl : b < 256 := by rw [← hb]; exact HX.out i
            obtain ⟨y, hy⟩ : ∃ y, back b = y := ⟨_, rfl⟩
            have HY : Box (y = backF x s) := ⟨by unfold backF; rw [hus, hb, hy]⟩
            have HUN : Box (∀ j, j < 16 → j ≠ s → unI j ≠ i) := ⟨fun j hj hn he => hn (by rw [hs, ← he, sh_un hj])⟩
            have HUS := Box.mk hus
            have cb := ha.cell hi2
            rw [hb] at cb
            have cy := g2.from_ hbl
            rw [hy] at cy
            have cg := hn.cell hsl
            rw [H.out s hsl, hus, if_neg (by omega)] at cg
            have hSS : S60 w.heap.size s C X b y g i wr.drew := ⟨g1.box, cb, cy, cg, hn.free s⟩
            have hs0 : (0 : Int) ≤ (s : Int) := by omega
            have hs1 : (s : Int) < 16 := by omega
            have hs2 : ¬ 16 ≤ s := by omega
            have hb0 : (0 : Int) ≤ (b : Int) := by omega
            have hb1 : (b : Int) < 256 := by omega
            clear hs hb hy cb cy cg g1 g2 g3 hus
            go_wp2_with fail
            refine wp_region_Z 18 18 (S60 w.heap.size s C X b y g i) (fun _ => True) (by kernel_rfl) ?_
            have hS : _ ∧ True := ⟨hSS, trivial⟩
            refine wpAnyZ_any (i := 0) (oi := ⟨some 35, _, _, _, _, _⟩) (v := .int .i64 (i : Int)) rfl (by kernel_rfl) (by kernel_rfl) (by kernel_rfl) (by kernel_rfl) (fun _ _ _ h => h) (Or.inl ⟨by kernel_rfl, fun w' _ => ?_⟩) ⟨.inr hS.1, .inr hS.2⟩ ?_
            · go_simp
            simp only [Act.put, List.setIfInBounds_toArray, List.set_cons_zero, List.set_cons_succ]
            refine wpAnyZ_any (i := 1) (oi := ⟨some 36, _, _, _, _, _⟩) (v := .int .i64 (i : Int)) rfl (by kernel_rfl) (by kernel_rfl) (by kernel_rfl) (by kernel_rfl) (fun _ _ _ h => h) (Or.inl ⟨by kernel_rfl, fun w' _ => ?_⟩) ⟨.inr hS.1, .inr hS.2⟩ ?_
            · go_simp
            simp only [Act.put, List.setIfInBounds_toArray, List.set_cons_zero, List.set_cons_succ]
            refine wpAnyZ_any (i := 2) (oi := ⟨some 37, _, _, _, _, _⟩) (v := .int .i64 ((i % 4 : Nat) : Int)) rfl (by kernel_rfl) (by kernel_rfl) (by kernel_rfl) (by kernel_rfl) (fun _ _ _ h => h) (Or.inl ⟨by kernel_rfl, fun w' _ => ?_⟩) ⟨.inr hS.1, .inr hS.2⟩ ?_
            · (go_simp; try first | exact Int.tmod_eq_emod_of_nonneg (by omega) | exact IntWalk.i64_in _ (by omega) | (rw [Int.tdiv_eq_ediv_of_nonneg (by omega)]; exact IntWalk.i64_in _ (by omega)) | (rw [Int.tmod_eq_emod_of_nonneg (by omega)]; exact IntWalk.i64_in _ (by omega)))
            simp only [Act.put, List.setIfInBounds_toArray, List.set_cons_zero, List.set_cons_succ]
            refine wpAnyZ_any (i := 3) (oi := ⟨some 38, _, _, _, _, _⟩) (v := .int .i64 (4 * ((i % 4 : Nat) : Int))) rfl (by kernel_rfl) (by kernel_rfl) (by kernel_rfl) (by kernel_rfl) (fun _ _ _ h => h) (Or.inl ⟨by kernel_rfl, fun w' _ => ?_⟩) ⟨.inr hS.1, .inr hS.2⟩ ?_
            · (go_simp; try first | exact Int.tmod_eq_emod_of_nonneg (by omega) | exact IntWalk.i64_in _ (by omega) | (rw [Int.tdiv_eq_ediv_of_nonneg (by omega)]; exact IntWalk.i64_in _ (by omega)) | (rw [Int.tmod_eq_emod_of_nonneg (by omega)]; exact IntWalk.i64_in _ (by omega)))
            simp only [Act.put, List.setIfInBounds_toArray, List.set_cons_zero, List.set_cons_succ]
            refine wpAnyZ_any (i := 4) (oi := ⟨some 39, _, _, _, _, _⟩) (v := .int .i64 ((i : Int) + 4 * ((i % 4 : Nat) : Int))) rfl (by kernel_rfl) (by kernel_rfl) (by kernel_rfl) (by kernel_rfl) (fun _ _ _ h => h) (Or.inl ⟨by kernel_rfl, fun w' _ => ?_⟩) ⟨.inr hS.1, .inr hS.2⟩ ?_
            · (go_simp; try first | exact Int.tmod_eq_emod_of_nonneg (by omega) | exact IntWalk.i64_in _ (by omega) | (rw [Int.tdiv_eq_ediv_of_nonneg (by omega)]; exact IntWalk.i64_in _ (by omega)) | (rw [Int.tmod_eq_emod_of_nonneg (by omega)]; exact IntWalk.i64_in _ (by omega)))
            simp only [Act.put, List.setIfInBounds_toArray, List.set_cons_zero, List.set_cons_succ]
            refine wpAnyZ_any (i := 5) (oi := ⟨some 40, _, _, _, _, _⟩) (v := .int .i64 (s : Int)) rfl (by kernel_rfl) (by kernel_rfl) (by kernel_rfl) (by kernel_rfl) (fun _ _ _ h => h) (Or.inl ⟨by kernel_rfl, fun w' _ => ?_⟩) ⟨.inr hS.1, .inr hS.2⟩ ?_
            · (go_simp; have h := HS2.out; rw [Int.tmod_eq_emod_of_nonneg (by omega), show ((i : Int) + 4 * ((i : Int) % 4)) % 16 = (s : Int) by omega]; try exact IntWalk.i64_in _ (by omega))
            simp only [Act.put, List.setIfInBounds_toArray, List.set_cons_zero, List.set_cons_succ]
            refine wpAnyZ_any (i := 6) (oi := ⟨some 41, _, _, _, _, _⟩) (v := .pointer (some ⟨C, 0, none⟩)) rfl (by kernel_rfl) (by kernel_rfl) (by kernel_rfl) (by kernel_rfl) (fun _ _ _ h => h) (Or.inl ⟨by kernel_rfl, fun w' _ => ?_⟩) ⟨.inr hS.1, .inr hS.2⟩ ?_
            · go_simp
            simp only [Act.put, List.setIfInBounds_toArray, List.set_cons_zero, List.set_cons_succ]
            refine wpAnyZ_any (i := 7) (oi := ⟨some 42, _, _, _, _, _⟩) (v := .pointer (some ⟨C, 0, none⟩)) rfl (by kernel_rfl) (by kernel_rfl) (by kernel_rfl) (by kernel_rfl) (fun _ _ _ h => h) (Or.inl ⟨by kernel_rfl, fun w' _ => ?_⟩) ⟨.inr hS.1, .inr hS.2⟩ ?_
            · go_simp
            simp only [Act.put, List.setIfInBounds_toArray, List.set_cons_zero, List.set_cons_succ]
            refine wpAnyZ_any (i := 8) (oi := ⟨some 43, _, _, _, _, _⟩) (v := .pointer (some ⟨C, 0, none⟩)) rfl (by kernel_rfl) (by kernel_rfl) (by kernel_rfl) (by kernel_rfl) (fun _ _ _ h => h) (Or.inl ⟨by kernel_rfl, fun w' _ => ?_⟩) ⟨.inr hS.1, .inr hS.2⟩ ?_
            · go_simp
            simp only [Act.put, List.setIfInBounds_toArray, List.set_cons_zero, List.set_cons_succ]
            refine wpAnyZ_take (i := 9) (oi := ⟨some 44, _, _, _, _, _⟩) (v := .pointer (some ⟨X, 0, none⟩)) rfl (by kernel_rfl) (by kernel_rfl) (by kernel_rfl) (by kernel_rfl) (fun _ _ _ h => h) (Or.inl ⟨by kernel_rfl, fun w' hSw => ?_⟩) hS ?_
            · (have c := hSw.ct; go_simp)
            simp only [Act.put, List.setIfInBounds_toArray, List.set_cons_zero, List.set_cons_succ]
            refine wpAnyZ_any (i := 10) (oi := ⟨some 45, _, _, _, _, _⟩) (v := .int .i64 (i : Int)) rfl (by kernel_rfl) (by kernel_rfl) (by kernel_rfl) (by kernel_rfl) (fun _ _ _ h => h) (Or.inl ⟨by kernel_rfl, fun w' _ => ?_⟩) ⟨.inr hS.1, .inr hS.2⟩ ?_
            · go_simp
            simp only [Act.put, List.setIfInBounds_toArray, List.set_cons_zero, List.set_cons_succ]
            refine wpAnyZ_any (i := 11) (oi := ⟨some 46, _, _, _, _, _⟩) (v := .pointer (some ⟨w.heap.size, i, none⟩)) rfl (by kernel_rfl) (by kernel_rfl) (by kernel_rfl) (by kernel_rfl) (fun _ _ _ h => h) (Or.inl ⟨by kernel_rfl, fun w' _ => ?_⟩) ⟨.inr hS.1, .inr hS.2⟩ ?_
            · go_simp
            simp only [Act.put, List.setIfInBounds_toArray, List.set_cons_zero, List.set_cons_succ]
            refine wpAnyZ_take (i := 12) (oi := ⟨some 47, _, _, _, _, _⟩) (v := .int .u8 (b : Int)) rfl (by kernel_rfl) (by kernel_rfl) (by kernel_rfl) (by kernel_rfl) (fun _ _ _ h => h) (Or.inl ⟨by kernel_rfl, fun w' hSw => ?_⟩) hS ?_
            · (have c := hSw.cb; go_simp)
            simp only [Act.put, List.setIfInBounds_toArray, List.set_cons_zero, List.set_cons_succ]
            refine wpAnyZ_any (i := 13) (oi := ⟨some 48, _, _, _, _, _⟩) (v := .pointer (some ⟨X, 0, none⟩)) rfl (by kernel_rfl) (by kernel_rfl) (by kernel_rfl) (by kernel_rfl) (fun _ _ _ h => h) (Or.inl ⟨by kernel_rfl, fun w' _ => ?_⟩) ⟨.inr hS.1, .inr hS.2⟩ ?_
            · go_simp
            simp only [Act.put, List.setIfInBounds_toArray, List.set_cons_zero, List.set_cons_succ]
            refine wpAnyZ_any (i := 14) (oi := ⟨some 49, _, _, _, _, _⟩) (v := .pointer (some ⟨X, 256, none⟩)) rfl (by kernel_rfl) (by kernel_rfl) (by kernel_rfl) (by kernel_rfl) (fun _ _ _ h => h) (Or.inl ⟨by kernel_rfl, fun w' _ => ?_⟩) ⟨.inr hS.1, .inr hS.2⟩ ?_
            · go_simp
            simp only [Act.put, List.setIfInBounds_toArray, List.set_cons_zero, List.set_cons_succ]
            refine wpAnyZ_any (i := 15) (oi := ⟨some 50, _, _, _, _, _⟩) (v := .pointer (some ⟨X, 256 + b, none⟩)) rfl (by kernel_rfl) (by kernel_rfl) (by kernel_rfl) (by kernel_rfl) (fun _ _ _ h => h) (Or.inl ⟨by kernel_rfl, fun w' _ => ?_⟩) ⟨.inr hS.1, .inr hS.2⟩ ?_
            · go_simp
            simp only [Act.put, List.setIfInBounds_toArray, List.set_cons_zero, List.set_cons_succ]
            refine wpAnyZ_take (i := 16) (oi := ⟨some 51, _, _, _, _, _⟩) (v := .int .u8 (y : Int)) rfl (by kernel_rfl) (by kernel_rfl) (by kernel_rfl) (by kernel_rfl) (fun _ _ _ h => h) (Or.inl ⟨by kernel_rfl, fun w' hSw => ?_⟩) hS ?_
            · (have c := hSw.cy; go_simp)
            simp only [Act.put, List.setIfInBounds_toArray, List.set_cons_zero, List.set_cons_succ]
            refine wpAnyZ_any (i := 17) (oi := ⟨some 52, _, _, _, _, _⟩) (v := .pointer (some ⟨g, s, none⟩)) rfl (by kernel_rfl) (by kernel_rfl) (by kernel_rfl) (by kernel_rfl) (fun _ _ _ h => h) (Or.inl ⟨by kernel_rfl, fun w' _ => ?_⟩) ⟨.inr hS.1, .inr hS.2⟩ ?_
            · go_simp
            simp only [Act.put, List.setIfInBounds_toArray, List.set_cons_zero, List.set_cons_succ]
            refine wpAnyZ_one (i := 18) (o := ⟨none, _, _, _, _, _⟩) (by kernel_rfl) rfl (by kernel_rfl) (fun K hK => ?_)
            have c := hS.1.cg
            have hfz := hS.1.fg
            go_simp
            refine hK.out _ _ ⟨.inl (show _ = true by kernel_rfl), .inl (show _ = true by kernel_rfl)⟩ ?_
            clear hK K hS
            refine wpAnyZ_done (by kernel_rfl) ?_ _
            go_wp2_with fail
            go_roundw
            case rel =>
              refine ⟨i + 1, upd h s y, by go_num, by omega, ⟨fun j hj => ?_⟩, (Arr.set hn).drew, (ha.far (show w.heap.size ≠ g by omega) _).drew, (hz.far (show w.heap.size + 1 ≠ g by omega) _).drew, (hbel.setCell (show w.heap.size ≤ g by omega) _).drew, ?_⟩
              · unfold upd
                by_cases e1 : j = s
                · subst e1; rw [if_pos rfl, if_pos (by rw [HUS.out]; omega)]; exact HY.out
                · have e2 := HUN.out j hj e1
                  rw [if_neg e1, H.out j hj]
                  by_cases hjk : unI j < i
                  · rw [if_pos hjk, if_pos (by omega)]
                  · rw [if_neg hjk, if_neg (by omega)]
              · show _ ≤ (wr.setCell _ _).heap.size
                rw [World.size_setCell]; exact hsz
            case measure => simp [intOf]; omega
      · have hl' : ¬ ((m : Int) + 1 < (N : Int)) := by omega
        have HNEW : Box (backF a = decR W N f (k + 1)) := ⟨by show _ = bwd N (N - k) (addF W (N - k) (decR W N f k)); rw [HE.out, ← HEQ.out, HAE.out]; unfold bwd; rw [if_neg hl]⟩
        clear hl
        have hn3 : Arr ((w6.setRow w.heap.size (bv a)).alloc (.cells #[.int .u8 0, .int .u8 0, .int .u8 0, .int .u8 0, .int .u8 0, .int .u8 0, .int .u8 0, .int .u8 0, .int .u8 0, .int .u8 0, .int .u8 0, .int .u8 0, .int .u8 0, .int .u8 0, .int .u8 0, .int .u8 0] 36)) w6.heap.size (fun _ => 0) := Arr.zero _ _ (by simp)
        have ha3 := ha.alloc (.cells #[.int .u8 0, .int .u8 0, .int .u8 0, .int .u8 0, .int .u8 0, .int .u8 0, .int .u8 0, .int .u8 0, .int .u8 0, .int .u8 0, .int .u8 0, .int .u8 0, .int .u8 0, .int .u8 0, .int .u8 0, .int .u8 0] 36)
        have hz3 := hz.alloc (.cells #[.int .u8 0, .int .u8 0, .int .u8 0, .int .u8 0, .int .u8 0, .int .u8 0, .int .u8 0, .int .u8 0, .int .u8 0, .int .u8 0, .int .u8 0, .int .u8 0, .int .u8 0, .int .u8 0, .int .u8 0, .int .u8 0] 36)
        have hb3 : Below w.heap.size w ((w6.setRow w.heap.size (bv a)).alloc (.cells #[.int .u8 0, .int .u8 0, .int .u8 0, .int .u8 0, .int .u8 0, .int .u8 0, .int .u8 0, .int .u8 0, .int .u8 0, .int .u8 0, .int .u8 0, .int .u8 0, .int .u8 0, .int .u8 0, .int .u8 0, .int .u8 0] 36)) := hbel.alloc (by omega) _
        have hs3 : w.heap.size + 2 ≤ ((w6.setRow w.heap.size (bv a)).alloc (.cells #[.int .u8 0, .int .u8 0, .int .u8 0, .int .u8 0, .int .u8 0, .int .u8 0, .int .u8 0, .int .u8 0, .int .u8 0, .int .u8 0, .int .u8 0, .int .u8 0, .int .u8 0, .int .u8 0, .int .u8 0, .int .u8 0] 36)).heap.size := by simp; omega
        go_wp2_with (first
            | ((with_reducible show wpList _ _ _ (⟨_, Op.store 36 (.tmp 3) (.tmp 24), _, _, _, _⟩ :: _) _ _); refine wp_store_arr rfl (.tmp 3) (.tmp 24) rfl (w.heap.size) (e) (a) rfl rfl (ha6) ?_))
        clear ha6 hz6 hbel6 hb6 ha hz hbel hsz
        have HX := HAL
        revert hn3 ha3 hz3 hb3 hs3
        generalize (w6.setRow w.heap.size (bv a)).alloc (.cells #[.int .u8 0, .int .u8 0, .int .u8 0, .int .u8 0, .int .u8 0, .int .u8 0, .int .u8 0, .int .u8 0, .int .u8 0, .int .u8 0, .int .u8 0, .int .u8 0, .int .u8 0, .int .u8 0, .int .u8 0, .int .u8 0] 36) = w3
        obtain ⟨g, hg⟩ : ∃ g, g = w6.heap.size := ⟨_, rfl⟩
        rw [← hg]
        have hgs : w.heap.size + 2 ≤ g := by omega
        intro hn3 ha3 hz3 hb3 hs3
        clear hg
        go_loopw [8] (fun i w4 => ∃ (i' : Nat) (h : Nat → Nat), i = .int .i64 (i' : Int) ∧ i' ≤ 16 ∧ Box (∀ j, j < 16 → h j = if unI j < i' then backF a j else 0) ∧ Arr w4 g h ∧ Arr w4 w.heap.size a ∧ Arr w4 (w.heap.size + 1) (fun _ => 0) ∧ Below w.heap.size w w4 ∧ w.heap.size + 2 ≤ w4.heap.size) (fun i _ => 16 - (intOf i).toNat)
        case atStart => exact ⟨0, _, rfl, by omega, ⟨fun j _ => by simp⟩, hn3, ha3, hz3, hb3, hs3⟩
        case round =>
          obtain ⟨i, h, rfl, hi, H, hn, ha, hz, hbel, hsz⟩ := hrel
          clear hn3 ha3 hz3 hb3 hs3 w3
          by_cases hi6 : i = 16
          · subst hi6
            have hn2 : Arr wr g (backF a) := hn.congr (fun j hj => by rw [H.out j hj, if_pos (unI_lt j)])
            clear hn H
            have hn4 := hn2.setRow_far (g' := w.heap.size) (c := bv (backF a)) (by omega)
            have ha4 := ha.setRow (h := backF a)
            have hz4 := hz.setRow_far (g' := w.heap.size) (c := bv (backF a)) (by omega)
            go_wp2_with (first
                | ((with_reducible show wpList _ _ _ (⟨some 53, Op.load 36 (.tmp 7), _, _, _, _⟩ :: _) _ _); refine wp_load_arr rfl (.tmp 7) rfl (g) (backF a) rfl (hn2) ?_)
                | ((with_reducible show wpList _ _ _ (⟨_, Op.store 36 (.tmp 3) (.tmp 53), _, _, _, _⟩ :: _) _ _); refine wp_store_arr rfl (.tmp 3) (.tmp 53) rfl (w.heap.size) (a) (backF a) rfl rfl (ha) ?_))
            go_roundw
            case rel =>
              refine ⟨k + 1, m, by go_num, by omega, ?_, hz4, below_setRow hbel (Nat.le_refl _) _, by simp only [setRow_size]; omega⟩
              rw [← HNEW.out]
              exact ha4
            case measure => simp [intOf]
          · have hi2 : i < 16 := by omega
            clear hi6
            obtain ⟨A, c, g1, g2, g3⟩ := HC.out.below hbel
            obtain ⟨s, hs⟩ : ∃ s, s = shI i := ⟨_, rfl⟩
            have hsl : s < 16 := by rw [hs]; exact shI_lt i
            have hus : unI s = i := by rw [hs]; exact un_sh hi2
            have HS2 : Box (s = (i + 4 * (i % 4)) % 16) := ⟨hs⟩
            obtain ⟨b, hb⟩ : ∃ b, a i = b := ⟨_, rfl⟩
            have hbl : b < 256 := by rw [← hb]; exact HX.out i
            obtain ⟨y, hy⟩ : ∃ y, back b = y := ⟨_, rfl⟩
            have HY : Box (y = backF a s) := ⟨by unfold backF; rw [hus, hb, hy]⟩
            have HUN : Box (∀ j, j < 16 → j ≠ s → unI j ≠ i) := ⟨fun j hj hn he => hn (by rw [hs, ← he, sh_un hj])⟩
            have HUS := Box.mk hus
            have cb := ha.cell hi2
            rw [hb] at cb
            have cy := g2.from_ hbl
            rw [hy] at cy
            have cg := hn.cell hsl
            rw [H.out s hsl, hus, if_neg (by omega)] at cg
            have hSS : S60 w.heap.size s C X b y g i wr.drew := ⟨g1.box, cb, cy, cg, hn.free s⟩
            have hs0 : (0 : Int) ≤ (s : Int) := by omega
            have hs1 : (s : Int) < 16 := by omega
            have hs2 : ¬ 16 ≤ s := by omega
            have hb0 : (0 : Int) ≤ (b : Int) := by omega
            have hb1 : (b : Int) < 256 := by omega
            clear hs hb hy cb cy cg g1 g2 g3 hus
            go_wp2_with fail
            refine wp_region_Z 18 18 (S60 w.heap.size s C X b y g i) (fun _ => True) (by kernel_rfl) ?_
            have hS : _ ∧ True := ⟨hSS, trivial⟩
            refine wpAnyZ_any (i := 0) (oi := ⟨some 35, _, _, _, _, _⟩) (v := .int .i64 (i : Int)) rfl (by kernel_rfl) (by kernel_rfl) (by kernel_rfl) (by kernel_rfl) (fun _ _ _ h => h) (Or.inl ⟨by kernel_rfl, fun w' _ => ?_⟩) ⟨.inr hS.1, .inr hS.2⟩ ?_
            · go_simp
            simp only [Act.put, List.setIfInBounds_toArray, List.set_cons_zero, List.set_cons_succ]
            refine wpAnyZ_any (i := 1) (oi := ⟨some 36, _, _, _, _, _⟩) (v := .int .i64 (i : Int)) rfl (by kernel_rfl) (by kernel_rfl) (by kernel_rfl) (by kernel_rfl) (fun _ _ _ h => h) (Or.inl ⟨by kernel_rfl, fun w' _ => ?_⟩) ⟨.inr hS.1, .inr hS.2⟩ ?_
            · go_simp
            simp only [Act.put, List.setIfInBounds_toArray, List.set_cons_zero, List.set_cons_succ]
            refine wpAnyZ_any (i := 2) (oi := ⟨some 37, _, _, _, _, _⟩) (v := .int .i64 ((i % 4 : Nat) : Int)) rfl (by kernel_rfl) (by kernel_rfl) (by kernel_rfl) (by kernel_rfl) (fun _ _ _ h => h) (Or.inl ⟨by kernel_rfl, fun w' _ => ?_⟩) ⟨.inr hS.1, .inr hS.2⟩ ?_
            · (go_simp; try first | exact Int.tmod_eq_emod_of_nonneg (by omega) | exact IntWalk.i64_in _ (by omega) | (rw [Int.tdiv_eq_ediv_of_nonneg (by omega)]; exact IntWalk.i64_in _ (by omega)) | (rw [Int.tmod_eq_emod_of_nonneg (by omega)]; exact IntWalk.i64_in _ (by omega)))
            simp only [Act.put, List.setIfInBounds_toArray, List.set_cons_zero, List.set_cons_succ]
            refine wpAnyZ_any (i := 3) (oi := ⟨some 38, _, _, _, _, _⟩) (v := .int .i64 (4 * ((i % 4 : Nat) : Int))) rfl (by kernel_rfl) (by kernel_rfl) (by kernel_rfl) (by kernel_rfl) (fun _ _ _ h => h) (Or.inl ⟨by kernel_rfl, fun w' _ => ?_⟩) ⟨.inr hS.1, .inr hS.2⟩ ?_
            · (go_simp; try first | exact Int.tmod_eq_emod_of_nonneg (by omega) | exact IntWalk.i64_in _ (by omega) | (rw [Int.tdiv_eq_ediv_of_nonneg (by omega)]; exact IntWalk.i64_in _ (by omega)) | (rw [Int.tmod_eq_emod_of_nonneg (by omega)]; exact IntWalk.i64_in _ (by omega)))
            simp only [Act.put, List.setIfInBounds_toArray, List.set_cons_zero, List.set_cons_succ]
            refine wpAnyZ_any (i := 4) (oi := ⟨some 39, _, _, _, _, _⟩) (v := .int .i64 ((i : Int) + 4 * ((i % 4 : Nat) : Int))) rfl (by kernel_rfl) (by kernel_rfl) (by kernel_rfl) (by kernel_rfl) (fun _ _ _ h => h) (Or.inl ⟨by kernel_rfl, fun w' _ => ?_⟩) ⟨.inr hS.1, .inr hS.2⟩ ?_
            · (go_simp; try first | exact Int.tmod_eq_emod_of_nonneg (by omega) | exact IntWalk.i64_in _ (by omega) | (rw [Int.tdiv_eq_ediv_of_nonneg (by omega)]; exact IntWalk.i64_in _ (by omega)) | (rw [Int.tmod_eq_emod_of_nonneg (by omega)]; exact IntWalk.i64_in _ (by omega)))
            simp only [Act.put, List.setIfInBounds_toArray, List.set_cons_zero, List.set_cons_succ]
            refine wpAnyZ_any (i := 5) (oi := ⟨some 40, _, _, _, _, _⟩) (v := .int .i64 (s : Int)) rfl (by kernel_rfl) (by kernel_rfl) (by kernel_rfl) (by kernel_rfl) (fun _ _ _ h => h) (Or.inl ⟨by kernel_rfl, fun w' _ => ?_⟩) ⟨.inr hS.1, .inr hS.2⟩ ?_
            · (go_simp; have h := HS2.out; rw [Int.tmod_eq_emod_of_nonneg (by omega), show ((i : Int) + 4 * ((i : Int) % 4)) % 16 = (s : Int) by omega]; try exact IntWalk.i64_in _ (by omega))
            simp only [Act.put, List.setIfInBounds_toArray, List.set_cons_zero, List.set_cons_succ]
            refine wpAnyZ_any (i := 6) (oi := ⟨some 41, _, _, _, _, _⟩) (v := .pointer (some ⟨C, 0, none⟩)) rfl (by kernel_rfl) (by kernel_rfl) (by kernel_rfl) (by kernel_rfl) (fun _ _ _ h => h) (Or.inl ⟨by kernel_rfl, fun w' _ => ?_⟩) ⟨.inr hS.1, .inr hS.2⟩ ?_
            · go_simp
            simp only [Act.put, List.setIfInBounds_toArray, List.set_cons_zero, List.set_cons_succ]
            refine wpAnyZ_any (i := 7) (oi := ⟨some 42, _, _, _, _, _⟩) (v := .pointer (some ⟨C, 0, none⟩)) rfl (by kernel_rfl) (by kernel_rfl) (by kernel_rfl) (by kernel_rfl) (fun _ _ _ h => h) (Or.inl ⟨by kernel_rfl, fun w' _ => ?_⟩) ⟨.inr hS.1, .inr hS.2⟩ ?_
            · go_simp
            simp only [Act.put, List.setIfInBounds_toArray, List.set_cons_zero, List.set_cons_succ]
            refine wpAnyZ_any (i := 8) (oi := ⟨some 43, _, _, _, _, _⟩) (v := .pointer (some ⟨C, 0, none⟩)) rfl (by kernel_rfl) (by kernel_rfl) (by kernel_rfl) (by kernel_rfl) (fun _ _ _ h => h) (Or.inl ⟨by kernel_rfl, fun w' _ => ?_⟩) ⟨.inr hS.1, .inr hS.2⟩ ?_
            · go_simp
            simp only [Act.put, List.setIfInBounds_toArray, List.set_cons_zero, List.set_cons_succ]
            refine wpAnyZ_take (i := 9) (oi := ⟨some 44, _, _, _, _, _⟩) (v := .pointer (some ⟨X, 0, none⟩)) rfl (by kernel_rfl) (by kernel_rfl) (by kernel_rfl) (by kernel_rfl) (fun _ _ _ h => h) (Or.inl ⟨by kernel_rfl, fun w' hSw => ?_⟩) hS ?_
            · (have c := hSw.ct; go_simp)
            simp only [Act.put, List.setIfInBounds_toArray, List.set_cons_zero, List.set_cons_succ]
            refine wpAnyZ_any (i := 10) (oi := ⟨some 45, _, _, _, _, _⟩) (v := .int .i64 (i : Int)) rfl (by kernel_rfl) (by kernel_rfl) (by kernel_rfl) (by kernel_rfl) (fun _ _ _ h => h) (Or.inl ⟨by kernel_rfl, fun w' _ => ?_⟩) ⟨.inr hS.1, .inr hS.2⟩ ?_
            · go_simp
            simp only [Act.put, List.setIfInBounds_toArray, List.set_cons_zero, List.set_cons_succ]
            refine wpAnyZ_any (i := 11) (oi := ⟨some 46, _, _, _, _, _⟩) (v := .pointer (some ⟨w.heap.size, i, none⟩)) rfl (by kernel_rfl) (by kernel_rfl) (by kernel_rfl) (by kernel_rfl) (fun _ _ _ h => h) (Or.inl ⟨by kernel_rfl, fun w' _ => ?_⟩) ⟨.inr hS.1, .inr hS.2⟩ ?_
            · go_simp
            simp only [Act.put, List.setIfInBounds_toArray, List.set_cons_zero, List.set_cons_succ]
            refine wpAnyZ_take (i := 12) (oi := ⟨some 47, _, _, _, _, _⟩) (v := .int .u8 (b : Int)) rfl (by kernel_rfl) (by kernel_rfl) (by kernel_rfl) (by kernel_rfl) (fun _ _ _ h => h) (Or.inl ⟨by kernel_rfl, fun w' hSw => ?_⟩) hS ?_
            · (have c := hSw.cb; go_simp)
            simp only [Act.put, List.setIfInBounds_toArray, List.set_cons_zero, List.set_cons_succ]
            refine wpAnyZ_any (i := 13) (oi := ⟨some 48, _, _, _, _, _⟩) (v := .pointer (some ⟨X, 0, none⟩)) rfl (by kernel_rfl) (by kernel_rfl) (by kernel_rfl) (by kernel_rfl) (fun _ _ _ h => h) (Or.inl ⟨by kernel_rfl, fun w' _ => ?_⟩) ⟨.inr hS.1, .inr hS.2⟩ ?_
            · go_simp
            simp only [Act.put, List.setIfInBounds_toArray, List.set_cons_zero, List.set_cons_succ]
            refine wpAnyZ_any (i := 14) (oi := ⟨some 49, _, _, _, _, _⟩) (v := .pointer (some ⟨X, 256, none⟩)) rfl (by kernel_rfl) (by kernel_rfl) (by kernel_rfl) (by kernel_rfl) (fun _ _ _ h => h) (Or.inl ⟨by kernel_rfl, fun w' _ => ?_⟩) ⟨.inr hS.1, .inr hS.2⟩ ?_
            · go_simp
            simp only [Act.put, List.setIfInBounds_toArray, List.set_cons_zero, List.set_cons_succ]
            refine wpAnyZ_any (i := 15) (oi := ⟨some 50, _, _, _, _, _⟩) (v := .pointer (some ⟨X, 256 + b, none⟩)) rfl (by kernel_rfl) (by kernel_rfl) (by kernel_rfl) (by kernel_rfl) (fun _ _ _ h => h) (Or.inl ⟨by kernel_rfl, fun w' _ => ?_⟩) ⟨.inr hS.1, .inr hS.2⟩ ?_
            · go_simp
            simp only [Act.put, List.setIfInBounds_toArray, List.set_cons_zero, List.set_cons_succ]
            refine wpAnyZ_take (i := 16) (oi := ⟨some 51, _, _, _, _, _⟩) (v := .int .u8 (y : Int)) rfl (by kernel_rfl) (by kernel_rfl) (by kernel_rfl) (by kernel_rfl) (fun _ _ _ h => h) (Or.inl ⟨by kernel_rfl, fun w' hSw => ?_⟩) hS ?_
            · (have c := hSw.cy; go_simp)
            simp only [Act.put, List.setIfInBounds_toArray, List.set_cons_zero, List.set_cons_succ]
            refine wpAnyZ_any (i := 17) (oi := ⟨some 52, _, _, _, _, _⟩) (v := .pointer (some ⟨g, s, none⟩)) rfl (by kernel_rfl) (by kernel_rfl) (by kernel_rfl) (by kernel_rfl) (fun _ _ _ h => h) (Or.inl ⟨by kernel_rfl, fun w' _ => ?_⟩) ⟨.inr hS.1, .inr hS.2⟩ ?_
            · go_simp
            simp only [Act.put, List.setIfInBounds_toArray, List.set_cons_zero, List.set_cons_succ]
            refine wpAnyZ_one (i := 18) (o := ⟨none, _, _, _, _, _⟩) (by kernel_rfl) rfl (by kernel_rfl) (fun K hK => ?_)
            have c := hS.1.cg
            have hfz := hS.1.fg
            go_simp
            refine hK.out _ _ ⟨.inl (show _ = true by kernel_rfl), .inl (show _ = true by kernel_rfl)⟩ ?_
            clear hK K hS
            refine wpAnyZ_done (by kernel_rfl) ?_ _
            go_wp2_with fail
            go_roundw
            case rel =>
              refine ⟨i + 1, upd h s y, by go_num, by omega, ⟨fun j hj => ?_⟩, (Arr.set hn).drew, (ha.far (show w.heap.size ≠ g by omega) _).drew, (hz.far (show w.heap.size + 1 ≠ g by omega) _).drew, (hbel.setCell (show w.heap.size ≤ g by omega) _).drew, ?_⟩
              · unfold upd
                by_cases e1 : j = s
                · subst e1; rw [if_pos rfl, if_pos (by rw [HUS.out]; omega)]; exact HY.out
                · have e2 := HUN.out j hj e1
                  rw [if_neg e1, H.out j hj]
                  by_cases hjk : unI j < i
                  · rw [if_pos hjk, if_pos (by omega)]
                  · rw [if_neg hjk, if_neg (by omega)]
              · show _ ≤ (wr.setCell _ _).heap.size
                rw [World.size_setCell]; exact hsz
            case measure => simp [intOf]; omega
end Go.Proofs.Ytibfihjcjohadaa
/- What the laws use of the reference's cipher: its contracts by the key alone. Condition: a key of 16 or 32 bytes. -/
namespace Go.Proofs.Ytibfihjcjohadaa
open Go.RowKit Go.Op
open Aes (words words_len)
theorem rencrypt_key (C X : Nat) (l : List Nat) (f : Nat → Nat) (hk : MayK l.length) (hf : ∀ i, f i < 256) (w : World) (hC : Rciph w C X (words l)) :
    Calls Try.prog 66 #[.pointer (some ⟨C, 0, none⟩), .agg (bv f)] w fun e w' => e = .returned (.agg (bv (encK l f))) ∧ Below w.heap.size w w' := by
  have h4 : l.length / 4 + 6 ≤ 100 := by rcases hk with h | h <;> omega
  exact rencrypt_walk C X (l.length / 4 + 6) (words l) _ rfl f hf w hC (by rw [words_len]) (by omega) h4
theorem rdecrypt_key (C X : Nat) (l : List Nat) (f : Nat → Nat) (hk : MayK l.length) (hf : ∀ i, f i < 256) (w : World) (hC : Rciph w C X (words l)) :
    Calls Try.prog 67 #[.pointer (some ⟨C, 0, none⟩), .agg (bv f)] w fun e w' => e = .returned (.agg (bv (decK l f))) ∧ Below w.heap.size w w' := by
  have h4 : l.length / 4 + 6 ≤ 100 := by rcases hk with h | h <;> omega
  exact rdecrypt_walk C X (l.length / 4 + 6) (words l) _ rfl f hf w hC (by rw [words_len]) (by omega) h4
end Go.Proofs.Ytibfihjcjohadaa
