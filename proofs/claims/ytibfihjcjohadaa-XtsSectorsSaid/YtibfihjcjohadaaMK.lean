/-
  The walks of Rounds, add and columns. Conditions: a live cipher.
-/
import Derived.Test.YtibfihjcjohadaaAesM
import Derived.Test.YtibfihjcjohadaaMB
/- The walks of aes.New of whatever key, of Rounds and Keys: what each call answers; nothing that was there is written. -/
namespace Go.Proofs.Ytibfihjcjohadaa
open Go.RowKit Go.Op
open Aes (words words_len)
theorem new_any (A : Option Addr) (n cap : Nat) (l : List Nat) (w : World) (hl : Bytes w A n l) (hcap : n ≤ cap) (hn : n = 16 ∨ n = 32) :
    Calls Try.prog 59 #[.slice A n cap] w fun e w' => NewQ l w e w' := by
  rcases hn with rfl | rfl
  · exact new16 A cap l w hl hcap
  · exact new32 A cap l w hl hcap
set_option maxRecDepth 100000 in
set_option maxHeartbeats 400000 in
theorem new_no (A : Option Addr) (n cap : Nat) (w : World) (h1 : ((n : Int) != 16) = true) (h2 : ((n : Int) != 32) = true) :
    Calls Try.prog 59 #[.slice A n cap] w fun e w' => e = .returned (.tuple #[.pointer none, .int .i64 1]) ∧ w = w' := by
  go_enter Try.func59, Try.ntmps59
  go_wp2_with fail
  go_ret2
  exact ⟨rfl, rfl⟩
/-- how many rounds words are for -/
def roundsN (n : Nat) : Nat := if n = 0 then 0 else n / 4 - 1
set_option maxRecDepth 100000 in
set_option maxHeartbeats 400000 in
theorem rounds_any (C : Nat) (ws : List Nat) (w : World) (hC : Ciph w C ws) (h4 : 4 ≤ ws.length) (h9 : ws.length ≤ 1000) :
    Calls Try.prog 65 #[.pointer (some ⟨C, 0, none⟩)] w fun e w' => e = .returned (.int .i64 ((ws.length / 4 - 1 : Nat) : Int)) ∧ w = w' := by
  obtain ⟨T, A, c, h1, h2, h3⟩ := hC
  have hk := h1.keys
  revert hk h4 h9
  generalize ws.length = n
  intro hk h4 h9
  have hne : ((n : Int) == 0) = false := by simp; omega
  go_enter Try.func65, Try.ntmps65
  go_wp2_with fail
  go_ret
  refine ⟨ret_int ?_, rfl⟩
  omega
set_option maxRecDepth 100000 in
set_option maxHeartbeats 400000 in
theorem rounds_nil (w : World) : Calls Try.prog 65 #[.pointer none] w fun e w' => e = .returned (.int .i64 0) ∧ w = w' := by
  go_enter Try.func65, Try.ntmps65
  go_wp2_with fail
  go_ret
  exact ⟨rfl, rfl⟩
end Go.Proofs.Ytibfihjcjohadaa
/- The walk of the cipher's add: a round's key is added to a block; nothing that was there is written. -/
namespace Go.Proofs.Ytibfihjcjohadaa
open Go.RowKit Go.Op
open Aes (words words_len keyB addF)
/-- what the region reads that adds a byte of a key -/
structure S83 (B k C : Nat) (b : Nat) (v : Value) (p : Addr) (x : Nat) (w' : World) : Prop where
  cb : w'.cell? ⟨B, k, none⟩ = some (.int .u8 (b : Int))
  fb : w'.frozen? ⟨B, k, none⟩ = false
  ck : w'.cell? ⟨C, 1, none⟩ = some v
  cx : w'.cell? p = some (.int .u32 (x : Int))
set_option maxRecDepth 100000 in
set_option maxHeartbeats 4000000 in
theorem add_walk (C r : Nat) (ws : List Nat) (f : Nat → Nat) (hf : ∀ i, f i < 256) (w : World) (hC : Ciph w C ws) (hr : 4 * r + 4 ≤ ws.length) (hw9 : ws.length ≤ 1000) :
    Calls Try.prog 83 #[.pointer (some ⟨C, 0, none⟩), .agg (bv f), .int .i64 (r : Int)] w fun e w' => e = .returned (.agg (bv (addF (fun i => ws.getD i 0) r f))) ∧ Below w.heap.size w w' := by
  have HF := Box.mk hf
  have HC := Box.mk hC
  clear hf hC
  go_enter Try.func83, Try.ntmps83
  go_wp2_with fail
  go_loopw [7, 8] (fun u i wr => ∃ (k : Nat) (h : Nat → Nat), i = .int .i64 (k : Int) ∧ k ≤ 16 ∧ Box (∀ j, h j = if j < k then addF (fun i => ws.getD i 0) r f j else f j) ∧ Arr wr w.heap.size h ∧ Arr wr (w.heap.size + 1) (fun _ => 0) ∧ Below w.heap.size w wr ∧ w.heap.size + 2 ≤ wr.heap.size) (fun _ i _ => 16 - (intOf i).toNat)
  case atStart => exact ⟨0, f, rfl, by omega, ⟨fun j => by simp⟩, (Arr.new _ _ _ rfl).alloc _, Arr.zero _ _ (by simp), ((Below.refl _ _).alloc (Nat.le_refl _) _).alloc (by simp) _, by simp⟩
  case round =>
    obtain ⟨k, h, rfl, hk, H, ha, hz, hbel, hsz⟩ := hrel
    by_cases h6 : k = 16
    · subst h6
      have ha2 : Arr wr w.heap.size (addF (fun i => ws.getD i 0) r f) := ha.congr (fun j hj => by rw [H.out j, if_pos hj])
      clear ha H
      go_wp2_with (first
          | ((with_reducible show wpList _ _ _ (⟨some 34, Op.load 36 (.tmp 4), _, _, _, _⟩ :: _) _ _); refine wp_load_arr rfl (.tmp 4) rfl (w.heap.size) (addF (fun i => ws.getD i 0) r f) rfl (ha2) ?_)
          | ((with_reducible show wpList _ _ _ (⟨_, Op.store 36 (.tmp 6) (.tmp 34), _, _, _, _⟩ :: _) _ _); refine wp_store_arr rfl (.tmp 6) (.tmp 34) rfl (w.heap.size + 1) (fun _ => 0) (addF (fun i => ws.getD i 0) r f) rfl rfl (hz) ?_))
      exact bodyPost_ret (results_arr rfl _ _ (w.heap.size + 1) (addF (fun i => ws.getD i 0) r f) rfl hz.setRow) rfl ⟨rfl, below_setRow hbel (by omega) _⟩
    · have hk2 : k < 16 := by omega
      clear h6
      obtain ⟨T, A, c, g1, g2, g3⟩ := HC.out.below hbel
      obtain ⟨ad, rfl⟩ := words_some g3 (by omega)
      obtain ⟨q, hq, hq2⟩ : ∃ q : Nat, q = 4 * r + k / 4 ∧ q < ws.length := ⟨_, rfl, by omega⟩
      have hcx := words_cell g3 hq2
      obtain ⟨x, hx⟩ : ∃ x, ws.getD q 0 = x := ⟨_, rfl⟩
      rw [hx] at hcx
      have hxl : x < 4294967296 := by rw [← hx]; exact Aes.getD_lt g3.2.2.1 q
      obtain ⟨s, hs⟩ : ∃ s : Nat, s = 24 - 8 * (k % 4) := ⟨_, rfl⟩
      have hsl : s ≤ 24 := by omega
      obtain ⟨y, hy⟩ : ∃ y, y = x / 2 ^ s := ⟨_, rfl⟩
      have hyl : y < 4294967296 := by rw [hy]; exact Nat.lt_of_le_of_lt (Nat.div_le_self _ _) hxl
      have HY : Box ((x : Int) / 2 ^ s = (y : Int)) := ⟨by rw [hy, Int.natCast_ediv, Int.natCast_pow]; rfl⟩
      obtain ⟨y8, hy8⟩ : ∃ y8, y8 = y % 256 := ⟨_, rfl⟩
      have HY8 : Box (IntKind.u8.wrap (y : Int) = (y8 : Int)) := ⟨by rw [IntKind.wrap_u8, hy8]; omega⟩
      obtain ⟨b, hb⟩ : ∃ b, h k = b := ⟨_, rfl⟩
      have hbl : b < 256 := by rw [← hb, H.out k, if_neg (by omega)]; exact HF.out k
      have hxr := u8_xor_nat b y8 hbl (by omega)
      have HB : Box (b ^^^ y8 = addF (fun i => ws.getD i 0) r f k) := ⟨by unfold addF keyB; rw [← hb, H.out k, if_neg (by omega), hy8, hy, ← hx, hq, hs]⟩
      have HQ := Box.mk hq
      have HS2 := Box.mk hs
      have cb := ha.cell hk2
      rw [hb] at cb
      have hSS : S83 w.heap.size k C b (.slice (some ad) ws.length c) (ad.add q) x wr.drew := ⟨cb, ha.free k, g1.keys, hcx⟩
      have hL2 : ((q : Nat) : Int) < ((ws.length : Nat) : Int) := by omega
      have hq0 : (0 : Int) ≤ (q : Int) := by omega
      have hs0 : (0 : Int) ≤ (s : Int) := by omega
      clear hcx hx hy hy8 hb hq hs cb
      revert hSS hL2 hq2
      generalize ws.length = L
      intro hq2 hSS hL2
      go_wp2_with fail
      refine wp_region_Z 22 22 (S83 w.heap.size k C b (.slice (some ad) L c) (ad.add q) x) (fun _ => True) (by kernel_rfl) ?_
      have hS : _ ∧ True := ⟨hSS, trivial⟩
      refine wpAnyZ_any (i := 0) (oi := ⟨some 11, _, _, _, _, _⟩) (v := .int .i64 (k : Int)) rfl (by kernel_rfl) (by kernel_rfl) (by kernel_rfl) (by kernel_rfl) (fun _ _ _ h => h) (Or.inl ⟨by kernel_rfl, fun w' _ => ?_⟩) ⟨.inr hS.1, .inr hS.2⟩ ?_
      · go_simp
      simp only [Act.put, List.setIfInBounds_toArray, List.set_cons_zero, List.set_cons_succ]
      refine wpAnyZ_any (i := 1) (oi := ⟨some 12, _, _, _, _, _⟩) (v := .pointer (some ⟨w.heap.size, k, none⟩)) rfl (by kernel_rfl) (by kernel_rfl) (by kernel_rfl) (by kernel_rfl) (fun _ _ _ h => h) (Or.inl ⟨by kernel_rfl, fun w' _ => ?_⟩) ⟨.inr hS.1, .inr hS.2⟩ ?_
      · go_simp
      simp only [Act.put, List.setIfInBounds_toArray, List.set_cons_zero, List.set_cons_succ]
      refine wpAnyZ_take (i := 2) (oi := ⟨some 13, _, _, _, _, _⟩) (v := .int .u8 (b : Int)) rfl (by kernel_rfl) (by kernel_rfl) (by kernel_rfl) (by kernel_rfl) (fun _ _ _ h => h) (Or.inl ⟨by kernel_rfl, fun w' hSw => ?_⟩) hS ?_
      · (have c := hSw.cb; go_simp)
      simp only [Act.put, List.setIfInBounds_toArray, List.set_cons_zero, List.set_cons_succ]
      refine wpAnyZ_any (i := 3) (oi := ⟨some 14, _, _, _, _, _⟩) (v := .pointer (some ⟨C, 0, none⟩)) rfl (by kernel_rfl) (by kernel_rfl) (by kernel_rfl) (by kernel_rfl) (fun _ _ _ h => h) (Or.inl ⟨by kernel_rfl, fun w' _ => ?_⟩) ⟨.inr hS.1, .inr hS.2⟩ ?_
      · go_simp
      simp only [Act.put, List.setIfInBounds_toArray, List.set_cons_zero, List.set_cons_succ]
      refine wpAnyZ_any (i := 4) (oi := ⟨some 15, _, _, _, _, _⟩) (v := .pointer (some ⟨C, 0, none⟩)) rfl (by kernel_rfl) (by kernel_rfl) (by kernel_rfl) (by kernel_rfl) (fun _ _ _ h => h) (Or.inl ⟨by kernel_rfl, fun w' _ => ?_⟩) ⟨.inr hS.1, .inr hS.2⟩ ?_
      · go_simp
      simp only [Act.put, List.setIfInBounds_toArray, List.set_cons_zero, List.set_cons_succ]
      refine wpAnyZ_any (i := 5) (oi := ⟨some 16, _, _, _, _, _⟩) (v := .pointer (some ⟨C, 1, none⟩)) rfl (by kernel_rfl) (by kernel_rfl) (by kernel_rfl) (by kernel_rfl) (fun _ _ _ h => h) (Or.inl ⟨by kernel_rfl, fun w' _ => ?_⟩) ⟨.inr hS.1, .inr hS.2⟩ ?_
      · go_simp
      simp only [Act.put, List.setIfInBounds_toArray, List.set_cons_zero, List.set_cons_succ]
      refine wpAnyZ_take (i := 6) (oi := ⟨some 17, _, _, _, _, _⟩) (v := .slice (some ad) L c) rfl (by kernel_rfl) (by kernel_rfl) (by kernel_rfl) (by kernel_rfl) (fun _ _ _ h => h) (Or.inl ⟨by kernel_rfl, fun w' hSw => ?_⟩) hS ?_
      · (have c := hSw.ck; go_simp)
      simp only [Act.put, List.setIfInBounds_toArray, List.set_cons_zero, List.set_cons_succ]
      refine wpAnyZ_any (i := 7) (oi := ⟨some 18, _, _, _, _, _⟩) (v := .int .i64 (r : Int)) rfl (by kernel_rfl) (by kernel_rfl) (by kernel_rfl) (by kernel_rfl) (fun _ _ _ h => h) (Or.inl ⟨by kernel_rfl, fun w' _ => ?_⟩) ⟨.inr hS.1, .inr hS.2⟩ ?_
      · go_simp
      simp only [Act.put, List.setIfInBounds_toArray, List.set_cons_zero, List.set_cons_succ]
      refine wpAnyZ_any (i := 8) (oi := ⟨some 19, _, _, _, _, _⟩) (v := .int .i64 (4 * (r : Int))) rfl (by kernel_rfl) (by kernel_rfl) (by kernel_rfl) (by kernel_rfl) (fun _ _ _ h => h) (Or.inl ⟨by kernel_rfl, fun w' _ => ?_⟩) ⟨.inr hS.1, .inr hS.2⟩ ?_
      · (go_simp; try first | exact Int.tmod_eq_emod_of_nonneg (by omega) | exact IntWalk.i64_in _ (by omega) | (rw [Int.tdiv_eq_ediv_of_nonneg (by omega)]; exact IntWalk.i64_in _ (by omega)) | (rw [Int.tmod_eq_emod_of_nonneg (by omega)]; exact IntWalk.i64_in _ (by omega)))
      simp only [Act.put, List.setIfInBounds_toArray, List.set_cons_zero, List.set_cons_succ]
      refine wpAnyZ_any (i := 9) (oi := ⟨some 20, _, _, _, _, _⟩) (v := .int .i64 (k : Int)) rfl (by kernel_rfl) (by kernel_rfl) (by kernel_rfl) (by kernel_rfl) (fun _ _ _ h => h) (Or.inl ⟨by kernel_rfl, fun w' _ => ?_⟩) ⟨.inr hS.1, .inr hS.2⟩ ?_
      · go_simp
      simp only [Act.put, List.setIfInBounds_toArray, List.set_cons_zero, List.set_cons_succ]
      refine wpAnyZ_any (i := 10) (oi := ⟨some 21, _, _, _, _, _⟩) (v := .int .i64 ((k / 4 : Nat) : Int)) rfl (by kernel_rfl) (by kernel_rfl) (by kernel_rfl) (by kernel_rfl) (fun _ _ _ h => h) (Or.inl ⟨by kernel_rfl, fun w' _ => ?_⟩) ⟨.inr hS.1, .inr hS.2⟩ ?_
      · (go_simp; try first | exact Int.tmod_eq_emod_of_nonneg (by omega) | exact IntWalk.i64_in _ (by omega) | (rw [Int.tdiv_eq_ediv_of_nonneg (by omega)]; exact IntWalk.i64_in _ (by omega)) | (rw [Int.tmod_eq_emod_of_nonneg (by omega)]; exact IntWalk.i64_in _ (by omega)))
      simp only [Act.put, List.setIfInBounds_toArray, List.set_cons_zero, List.set_cons_succ]
      refine wpAnyZ_any (i := 11) (oi := ⟨some 22, _, _, _, _, _⟩) (v := .int .i64 (q : Int)) rfl (by kernel_rfl) (by kernel_rfl) (by kernel_rfl) (by kernel_rfl) (fun _ _ _ h => h) (Or.inl ⟨by kernel_rfl, fun w' _ => ?_⟩) ⟨.inr hS.1, .inr hS.2⟩ ?_
      · (go_simp; have h := HQ.out; rw [show 4 * (r : Int) + (k : Int) / 4 = (q : Int) by omega]; exact IntWalk.i64_in _ (by omega))
      simp only [Act.put, List.setIfInBounds_toArray, List.set_cons_zero, List.set_cons_succ]
      refine wpAnyZ_any (i := 12) (oi := ⟨some 23, _, _, _, _, _⟩) (v := .pointer (some (ad.add q))) rfl (by kernel_rfl) (by kernel_rfl) (by kernel_rfl) (by kernel_rfl) (fun _ _ _ h => h) (Or.inl ⟨by kernel_rfl, fun w' _ => ?_⟩) ⟨.inr hS.1, .inr hS.2⟩ ?_
      · go_simp
      simp only [Act.put, List.setIfInBounds_toArray, List.set_cons_zero, List.set_cons_succ]
      refine wpAnyZ_take (i := 13) (oi := ⟨some 24, _, _, _, _, _⟩) (v := .int .u32 (x : Int)) rfl (by kernel_rfl) (by kernel_rfl) (by kernel_rfl) (by kernel_rfl) (fun _ _ _ h => h) (Or.inl ⟨by kernel_rfl, fun w' hSw => ?_⟩) hS ?_
      · (have c := hSw.cx; go_simp)
      simp only [Act.put, List.setIfInBounds_toArray, List.set_cons_zero, List.set_cons_succ]
      refine wpAnyZ_any (i := 14) (oi := ⟨some 25, _, _, _, _, _⟩) (v := .int .i64 (k : Int)) rfl (by kernel_rfl) (by kernel_rfl) (by kernel_rfl) (by kernel_rfl) (fun _ _ _ h => h) (Or.inl ⟨by kernel_rfl, fun w' _ => ?_⟩) ⟨.inr hS.1, .inr hS.2⟩ ?_
      · go_simp
      simp only [Act.put, List.setIfInBounds_toArray, List.set_cons_zero, List.set_cons_succ]
      refine wpAnyZ_any (i := 15) (oi := ⟨some 26, _, _, _, _, _⟩) (v := .int .i64 ((k % 4 : Nat) : Int)) rfl (by kernel_rfl) (by kernel_rfl) (by kernel_rfl) (by kernel_rfl) (fun _ _ _ h => h) (Or.inl ⟨by kernel_rfl, fun w' _ => ?_⟩) ⟨.inr hS.1, .inr hS.2⟩ ?_
      · (go_simp; try first | exact Int.tmod_eq_emod_of_nonneg (by omega) | exact IntWalk.i64_in _ (by omega) | (rw [Int.tdiv_eq_ediv_of_nonneg (by omega)]; exact IntWalk.i64_in _ (by omega)) | (rw [Int.tmod_eq_emod_of_nonneg (by omega)]; exact IntWalk.i64_in _ (by omega)))
      simp only [Act.put, List.setIfInBounds_toArray, List.set_cons_zero, List.set_cons_succ]
      refine wpAnyZ_any (i := 16) (oi := ⟨some 27, _, _, _, _, _⟩) (v := .int .i64 (8 * ((k % 4 : Nat) : Int))) rfl (by kernel_rfl) (by kernel_rfl) (by kernel_rfl) (by kernel_rfl) (fun _ _ _ h => h) (Or.inl ⟨by kernel_rfl, fun w' _ => ?_⟩) ⟨.inr hS.1, .inr hS.2⟩ ?_
      · (go_simp; try first | exact Int.tmod_eq_emod_of_nonneg (by omega) | exact IntWalk.i64_in _ (by omega) | (rw [Int.tdiv_eq_ediv_of_nonneg (by omega)]; exact IntWalk.i64_in _ (by omega)) | (rw [Int.tmod_eq_emod_of_nonneg (by omega)]; exact IntWalk.i64_in _ (by omega)))
      simp only [Act.put, List.setIfInBounds_toArray, List.set_cons_zero, List.set_cons_succ]
      refine wpAnyZ_any (i := 17) (oi := ⟨some 28, _, _, _, _, _⟩) (v := .int .i64 (s : Int)) rfl (by kernel_rfl) (by kernel_rfl) (by kernel_rfl) (by kernel_rfl) (fun _ _ _ h => h) (Or.inl ⟨by kernel_rfl, fun w' _ => ?_⟩) ⟨.inr hS.1, .inr hS.2⟩ ?_
      · (go_simp; have h := HS2.out; rw [show 24 - 8 * ((k : Int) % 4) = (s : Int) by omega]; exact IntWalk.i64_in _ (by omega))
      simp only [Act.put, List.setIfInBounds_toArray, List.set_cons_zero, List.set_cons_succ]
      refine wpAnyZ_any (i := 18) (oi := ⟨some 29, _, _, _, _, _⟩) (v := .int .u32 (y : Int)) rfl (by kernel_rfl) (by kernel_rfl) (by kernel_rfl) (by kernel_rfl) (fun _ _ _ h => h) (Or.inl ⟨by kernel_rfl, fun w' _ => ?_⟩) ⟨.inr hS.1, .inr hS.2⟩ ?_
      · (have h := HY.out; go_simp)
      simp only [Act.put, List.setIfInBounds_toArray, List.set_cons_zero, List.set_cons_succ]
      refine wpAnyZ_any (i := 19) (oi := ⟨some 30, _, _, _, _, _⟩) (v := .int .u8 (y8 : Int)) rfl (by kernel_rfl) (by kernel_rfl) (by kernel_rfl) (by kernel_rfl) (fun _ _ _ h => h) (Or.inl ⟨by kernel_rfl, fun w' _ => ?_⟩) ⟨.inr hS.1, .inr hS.2⟩ ?_
      · (have h := HY8.out; go_simp)
      simp only [Act.put, List.setIfInBounds_toArray, List.set_cons_zero, List.set_cons_succ]
      refine wpAnyZ_any (i := 20) (oi := ⟨some 31, _, _, _, _, _⟩) (v := .int .u8 ((b ^^^ y8 : Nat) : Int)) rfl (by kernel_rfl) (by kernel_rfl) (by kernel_rfl) (by kernel_rfl) (fun _ _ _ h => h) (Or.inl ⟨by kernel_rfl, fun w' _ => ?_⟩) ⟨.inr hS.1, .inr hS.2⟩ ?_
      · go_simp
      simp only [Act.put, List.setIfInBounds_toArray, List.set_cons_zero, List.set_cons_succ]
      refine wpAnyZ_any (i := 21) (oi := ⟨some 32, _, _, _, _, _⟩) (v := .pointer (some ⟨w.heap.size, k, none⟩)) rfl (by kernel_rfl) (by kernel_rfl) (by kernel_rfl) (by kernel_rfl) (fun _ _ _ h => h) (Or.inl ⟨by kernel_rfl, fun w' _ => ?_⟩) ⟨.inr hS.1, .inr hS.2⟩ ?_
      · go_simp
      simp only [Act.put, List.setIfInBounds_toArray, List.set_cons_zero, List.set_cons_succ]
      refine wpAnyZ_one (i := 22) (o := ⟨none, _, _, _, _, _⟩) (by kernel_rfl) rfl (by kernel_rfl) (fun K hK => ?_)
      have c := hS.1.cb
      have hfz := hS.1.fb
      go_simp
      refine hK.out _ _ ⟨.inl (show _ = true by kernel_rfl), .inl (show _ = true by kernel_rfl)⟩ ?_
      clear hK K hS
      refine wpAnyZ_done (by kernel_rfl) ?_ _
      go_wp2_with fail
      go_roundw
      case rel =>
        refine ⟨k + 1, upd h k (b ^^^ y8), by go_num, by omega, ⟨fun j => ?_⟩, (Arr.set ha).drew, (hz.far (show w.heap.size + 1 ≠ w.heap.size by omega) _).drew, (hbel.setCell (Nat.le_refl _) _).drew, ?_⟩
        · unfold upd
          by_cases e : j = k
          · subst e; rw [if_pos rfl, if_pos (by omega)]; exact HB.out
          · rw [if_neg e, H.out j]
            by_cases hjk : j < k
            · rw [if_pos hjk, if_pos (by omega)]
            · rw [if_neg hjk, if_neg (by omega)]
        · show _ ≤ (wr.setCell _ _).heap.size
          rw [World.size_setCell]; exact hsz
      case measure => simp [intOf]; omega
end Go.Proofs.Ytibfihjcjohadaa
/- The walk of aes.columns: a block's columns are mixed by a table's factors; nothing that was there is written. -/
namespace Go.Proofs.Ytibfihjcjohadaa
open Go.RowKit Go.Op
open Fld (mul mul_lt xor_lt)
open Aes (mx un mixF)
/-- where place n goes -/
def tgt (n : Nat) : Nat := n / 4 / 4 * 4 + (n / 4 + n % 4) % 4
/-- columns mixed as far as place n -/
def colP (m f : Nat → Nat) : Nat → Nat → Nat
  | 0, _ => 0
  | n + 1, j => if j = tgt n then colP m f n j ^^^ mul (f (n / 4)) (m (n % 4)) else colP m f n j
theorem colP_lt {m f : Nat → Nat} (hf : ∀ i, f i < 256) : ∀ n j, colP m f n j < 256
  | 0, _ => by show 0 < 256; decide
  | n + 1, j => by
    unfold colP
    split
    · exact xor_lt (colP_lt hf n j) (mul_lt (hf _))
    · exact colP_lt hf n j
theorem colP_skip {m f : Nat → Nat} {j n : Nat} (h : (j == tgt n) = false) : colP m f (n + 1) j = colP m f n j := by
  show (if j = tgt n then _ else _) = _
  rw [if_neg (by simpa using h)]
theorem colP_take {m f : Nat → Nat} {j n : Nat} (h : (j == tgt n) = true) : colP m f (n + 1) j = colP m f n j ^^^ mul (f (n / 4)) (m (n % 4)) := by
  show (if j = tgt n then _ else _) = _
  rw [if_pos (by simpa using h)]
theorem colP_run {m f : Nat → Nat} {j : Nat} (n : Nat) : ∀ d, (∀ i, i < d → (j == tgt (n + i)) = false) → colP m f (n + d) j = colP m f n j
  | 0, _ => rfl
  | d + 1, h => by
    rw [← Nat.add_assoc, colP_skip (h d (by omega)), colP_run n d (fun i hi => h i (by omega))]
theorem colP_at0 (m f : Nat → Nat) : colP m f 64 0 = mixF m f 0 := by
  rw [show colP m f 64 0 = colP m f 14 0 from colP_run 14 50 (by decide)]
  rw [show colP m f 14 0 = colP m f 13 0 ^^^ mul (f 3) (m 1) from colP_take (by decide)]
  rw [show colP m f 13 0 = colP m f 11 0 from colP_run 11 2 (by decide)]
  rw [show colP m f 11 0 = colP m f 10 0 ^^^ mul (f 2) (m 2) from colP_take (by decide)]
  rw [show colP m f 10 0 = colP m f 8 0 from colP_run 8 2 (by decide)]
  rw [show colP m f 8 0 = colP m f 7 0 ^^^ mul (f 1) (m 3) from colP_take (by decide)]
  rw [show colP m f 7 0 = colP m f 1 0 from colP_run 1 6 (by decide)]
  rw [show colP m f 1 0 = colP m f 0 0 ^^^ mul (f 0) (m 0) from colP_take (by decide)]
  rw [show colP m f 0 0 = 0 from rfl, Nat.zero_xor]
  rfl
theorem colP_at1 (m f : Nat → Nat) : colP m f 64 1 = mixF m f 1 := by
  rw [show colP m f 64 1 = colP m f 15 1 from colP_run 15 49 (by decide)]
  rw [show colP m f 15 1 = colP m f 14 1 ^^^ mul (f 3) (m 2) from colP_take (by decide)]
  rw [show colP m f 14 1 = colP m f 12 1 from colP_run 12 2 (by decide)]
  rw [show colP m f 12 1 = colP m f 11 1 ^^^ mul (f 2) (m 3) from colP_take (by decide)]
  rw [show colP m f 11 1 = colP m f 5 1 from colP_run 5 6 (by decide)]
  rw [show colP m f 5 1 = colP m f 4 1 ^^^ mul (f 1) (m 0) from colP_take (by decide)]
  rw [show colP m f 4 1 = colP m f 2 1 from colP_run 2 2 (by decide)]
  rw [show colP m f 2 1 = colP m f 1 1 ^^^ mul (f 0) (m 1) from colP_take (by decide)]
  rw [show colP m f 1 1 = colP m f 0 1 from colP_run 0 1 (by decide)]
  rw [show colP m f 0 1 = 0 from rfl, Nat.zero_xor]
  rfl
theorem colP_at2 (m f : Nat → Nat) : colP m f 64 2 = mixF m f 2 := by
  rw [show colP m f 64 2 = colP m f 16 2 from colP_run 16 48 (by decide)]
  rw [show colP m f 16 2 = colP m f 15 2 ^^^ mul (f 3) (m 3) from colP_take (by decide)]
  rw [show colP m f 15 2 = colP m f 9 2 from colP_run 9 6 (by decide)]
  rw [show colP m f 9 2 = colP m f 8 2 ^^^ mul (f 2) (m 0) from colP_take (by decide)]
  rw [show colP m f 8 2 = colP m f 6 2 from colP_run 6 2 (by decide)]
  rw [show colP m f 6 2 = colP m f 5 2 ^^^ mul (f 1) (m 1) from colP_take (by decide)]
  rw [show colP m f 5 2 = colP m f 3 2 from colP_run 3 2 (by decide)]
  rw [show colP m f 3 2 = colP m f 2 2 ^^^ mul (f 0) (m 2) from colP_take (by decide)]
  rw [show colP m f 2 2 = colP m f 0 2 from colP_run 0 2 (by decide)]
  rw [show colP m f 0 2 = 0 from rfl, Nat.zero_xor]
  rfl
theorem colP_at3 (m f : Nat → Nat) : colP m f 64 3 = mixF m f 3 := by
  rw [show colP m f 64 3 = colP m f 13 3 from colP_run 13 51 (by decide)]
  rw [show colP m f 13 3 = colP m f 12 3 ^^^ mul (f 3) (m 0) from colP_take (by decide)]
  rw [show colP m f 12 3 = colP m f 10 3 from colP_run 10 2 (by decide)]
  rw [show colP m f 10 3 = colP m f 9 3 ^^^ mul (f 2) (m 1) from colP_take (by decide)]
  rw [show colP m f 9 3 = colP m f 7 3 from colP_run 7 2 (by decide)]
  rw [show colP m f 7 3 = colP m f 6 3 ^^^ mul (f 1) (m 2) from colP_take (by decide)]
  rw [show colP m f 6 3 = colP m f 4 3 from colP_run 4 2 (by decide)]
  rw [show colP m f 4 3 = colP m f 3 3 ^^^ mul (f 0) (m 3) from colP_take (by decide)]
  rw [show colP m f 3 3 = colP m f 0 3 from colP_run 0 3 (by decide)]
  rw [show colP m f 0 3 = 0 from rfl, Nat.zero_xor]
  rfl
theorem colP_at4 (m f : Nat → Nat) : colP m f 64 4 = mixF m f 4 := by
  rw [show colP m f 64 4 = colP m f 30 4 from colP_run 30 34 (by decide)]
  rw [show colP m f 30 4 = colP m f 29 4 ^^^ mul (f 7) (m 1) from colP_take (by decide)]
  rw [show colP m f 29 4 = colP m f 27 4 from colP_run 27 2 (by decide)]
  rw [show colP m f 27 4 = colP m f 26 4 ^^^ mul (f 6) (m 2) from colP_take (by decide)]
  rw [show colP m f 26 4 = colP m f 24 4 from colP_run 24 2 (by decide)]
  rw [show colP m f 24 4 = colP m f 23 4 ^^^ mul (f 5) (m 3) from colP_take (by decide)]
  rw [show colP m f 23 4 = colP m f 17 4 from colP_run 17 6 (by decide)]
  rw [show colP m f 17 4 = colP m f 16 4 ^^^ mul (f 4) (m 0) from colP_take (by decide)]
  rw [show colP m f 16 4 = colP m f 0 4 from colP_run 0 16 (by decide)]
  rw [show colP m f 0 4 = 0 from rfl, Nat.zero_xor]
  rfl
theorem colP_at5 (m f : Nat → Nat) : colP m f 64 5 = mixF m f 5 := by
  rw [show colP m f 64 5 = colP m f 31 5 from colP_run 31 33 (by decide)]
  rw [show colP m f 31 5 = colP m f 30 5 ^^^ mul (f 7) (m 2) from colP_take (by decide)]
  rw [show colP m f 30 5 = colP m f 28 5 from colP_run 28 2 (by decide)]
  rw [show colP m f 28 5 = colP m f 27 5 ^^^ mul (f 6) (m 3) from colP_take (by decide)]
  rw [show colP m f 27 5 = colP m f 21 5 from colP_run 21 6 (by decide)]
  rw [show colP m f 21 5 = colP m f 20 5 ^^^ mul (f 5) (m 0) from colP_take (by decide)]
  rw [show colP m f 20 5 = colP m f 18 5 from colP_run 18 2 (by decide)]
  rw [show colP m f 18 5 = colP m f 17 5 ^^^ mul (f 4) (m 1) from colP_take (by decide)]
  rw [show colP m f 17 5 = colP m f 0 5 from colP_run 0 17 (by decide)]
  rw [show colP m f 0 5 = 0 from rfl, Nat.zero_xor]
  rfl
theorem colP_at6 (m f : Nat → Nat) : colP m f 64 6 = mixF m f 6 := by
  rw [show colP m f 64 6 = colP m f 32 6 from colP_run 32 32 (by decide)]
  rw [show colP m f 32 6 = colP m f 31 6 ^^^ mul (f 7) (m 3) from colP_take (by decide)]
  rw [show colP m f 31 6 = colP m f 25 6 from colP_run 25 6 (by decide)]
  rw [show colP m f 25 6 = colP m f 24 6 ^^^ mul (f 6) (m 0) from colP_take (by decide)]
  rw [show colP m f 24 6 = colP m f 22 6 from colP_run 22 2 (by decide)]
  rw [show colP m f 22 6 = colP m f 21 6 ^^^ mul (f 5) (m 1) from colP_take (by decide)]
  rw [show colP m f 21 6 = colP m f 19 6 from colP_run 19 2 (by decide)]
  rw [show colP m f 19 6 = colP m f 18 6 ^^^ mul (f 4) (m 2) from colP_take (by decide)]
  rw [show colP m f 18 6 = colP m f 0 6 from colP_run 0 18 (by decide)]
  rw [show colP m f 0 6 = 0 from rfl, Nat.zero_xor]
  rfl
theorem colP_at7 (m f : Nat → Nat) : colP m f 64 7 = mixF m f 7 := by
  rw [show colP m f 64 7 = colP m f 29 7 from colP_run 29 35 (by decide)]
  rw [show colP m f 29 7 = colP m f 28 7 ^^^ mul (f 7) (m 0) from colP_take (by decide)]
  rw [show colP m f 28 7 = colP m f 26 7 from colP_run 26 2 (by decide)]
  rw [show colP m f 26 7 = colP m f 25 7 ^^^ mul (f 6) (m 1) from colP_take (by decide)]
  rw [show colP m f 25 7 = colP m f 23 7 from colP_run 23 2 (by decide)]
  rw [show colP m f 23 7 = colP m f 22 7 ^^^ mul (f 5) (m 2) from colP_take (by decide)]
  rw [show colP m f 22 7 = colP m f 20 7 from colP_run 20 2 (by decide)]
  rw [show colP m f 20 7 = colP m f 19 7 ^^^ mul (f 4) (m 3) from colP_take (by decide)]
  rw [show colP m f 19 7 = colP m f 0 7 from colP_run 0 19 (by decide)]
  rw [show colP m f 0 7 = 0 from rfl, Nat.zero_xor]
  rfl
theorem colP_at8 (m f : Nat → Nat) : colP m f 64 8 = mixF m f 8 := by
  rw [show colP m f 64 8 = colP m f 46 8 from colP_run 46 18 (by decide)]
  rw [show colP m f 46 8 = colP m f 45 8 ^^^ mul (f 11) (m 1) from colP_take (by decide)]
  rw [show colP m f 45 8 = colP m f 43 8 from colP_run 43 2 (by decide)]
  rw [show colP m f 43 8 = colP m f 42 8 ^^^ mul (f 10) (m 2) from colP_take (by decide)]
  rw [show colP m f 42 8 = colP m f 40 8 from colP_run 40 2 (by decide)]
  rw [show colP m f 40 8 = colP m f 39 8 ^^^ mul (f 9) (m 3) from colP_take (by decide)]
  rw [show colP m f 39 8 = colP m f 33 8 from colP_run 33 6 (by decide)]
  rw [show colP m f 33 8 = colP m f 32 8 ^^^ mul (f 8) (m 0) from colP_take (by decide)]
  rw [show colP m f 32 8 = colP m f 0 8 from colP_run 0 32 (by decide)]
  rw [show colP m f 0 8 = 0 from rfl, Nat.zero_xor]
  rfl
theorem colP_at9 (m f : Nat → Nat) : colP m f 64 9 = mixF m f 9 := by
  rw [show colP m f 64 9 = colP m f 47 9 from colP_run 47 17 (by decide)]
  rw [show colP m f 47 9 = colP m f 46 9 ^^^ mul (f 11) (m 2) from colP_take (by decide)]
  rw [show colP m f 46 9 = colP m f 44 9 from colP_run 44 2 (by decide)]
  rw [show colP m f 44 9 = colP m f 43 9 ^^^ mul (f 10) (m 3) from colP_take (by decide)]
  rw [show colP m f 43 9 = colP m f 37 9 from colP_run 37 6 (by decide)]
  rw [show colP m f 37 9 = colP m f 36 9 ^^^ mul (f 9) (m 0) from colP_take (by decide)]
  rw [show colP m f 36 9 = colP m f 34 9 from colP_run 34 2 (by decide)]
  rw [show colP m f 34 9 = colP m f 33 9 ^^^ mul (f 8) (m 1) from colP_take (by decide)]
  rw [show colP m f 33 9 = colP m f 0 9 from colP_run 0 33 (by decide)]
  rw [show colP m f 0 9 = 0 from rfl, Nat.zero_xor]
  rfl
theorem colP_at10 (m f : Nat → Nat) : colP m f 64 10 = mixF m f 10 := by
  rw [show colP m f 64 10 = colP m f 48 10 from colP_run 48 16 (by decide)]
  rw [show colP m f 48 10 = colP m f 47 10 ^^^ mul (f 11) (m 3) from colP_take (by decide)]
  rw [show colP m f 47 10 = colP m f 41 10 from colP_run 41 6 (by decide)]
  rw [show colP m f 41 10 = colP m f 40 10 ^^^ mul (f 10) (m 0) from colP_take (by decide)]
  rw [show colP m f 40 10 = colP m f 38 10 from colP_run 38 2 (by decide)]
  rw [show colP m f 38 10 = colP m f 37 10 ^^^ mul (f 9) (m 1) from colP_take (by decide)]
  rw [show colP m f 37 10 = colP m f 35 10 from colP_run 35 2 (by decide)]
  rw [show colP m f 35 10 = colP m f 34 10 ^^^ mul (f 8) (m 2) from colP_take (by decide)]
  rw [show colP m f 34 10 = colP m f 0 10 from colP_run 0 34 (by decide)]
  rw [show colP m f 0 10 = 0 from rfl, Nat.zero_xor]
  rfl
theorem colP_at11 (m f : Nat → Nat) : colP m f 64 11 = mixF m f 11 := by
  rw [show colP m f 64 11 = colP m f 45 11 from colP_run 45 19 (by decide)]
  rw [show colP m f 45 11 = colP m f 44 11 ^^^ mul (f 11) (m 0) from colP_take (by decide)]
  rw [show colP m f 44 11 = colP m f 42 11 from colP_run 42 2 (by decide)]
  rw [show colP m f 42 11 = colP m f 41 11 ^^^ mul (f 10) (m 1) from colP_take (by decide)]
  rw [show colP m f 41 11 = colP m f 39 11 from colP_run 39 2 (by decide)]
  rw [show colP m f 39 11 = colP m f 38 11 ^^^ mul (f 9) (m 2) from colP_take (by decide)]
  rw [show colP m f 38 11 = colP m f 36 11 from colP_run 36 2 (by decide)]
  rw [show colP m f 36 11 = colP m f 35 11 ^^^ mul (f 8) (m 3) from colP_take (by decide)]
  rw [show colP m f 35 11 = colP m f 0 11 from colP_run 0 35 (by decide)]
  rw [show colP m f 0 11 = 0 from rfl, Nat.zero_xor]
  rfl
theorem colP_at12 (m f : Nat → Nat) : colP m f 64 12 = mixF m f 12 := by
  rw [show colP m f 64 12 = colP m f 62 12 from colP_run 62 2 (by decide)]
  rw [show colP m f 62 12 = colP m f 61 12 ^^^ mul (f 15) (m 1) from colP_take (by decide)]
  rw [show colP m f 61 12 = colP m f 59 12 from colP_run 59 2 (by decide)]
  rw [show colP m f 59 12 = colP m f 58 12 ^^^ mul (f 14) (m 2) from colP_take (by decide)]
  rw [show colP m f 58 12 = colP m f 56 12 from colP_run 56 2 (by decide)]
  rw [show colP m f 56 12 = colP m f 55 12 ^^^ mul (f 13) (m 3) from colP_take (by decide)]
  rw [show colP m f 55 12 = colP m f 49 12 from colP_run 49 6 (by decide)]
  rw [show colP m f 49 12 = colP m f 48 12 ^^^ mul (f 12) (m 0) from colP_take (by decide)]
  rw [show colP m f 48 12 = colP m f 0 12 from colP_run 0 48 (by decide)]
  rw [show colP m f 0 12 = 0 from rfl, Nat.zero_xor]
  rfl
theorem colP_at13 (m f : Nat → Nat) : colP m f 64 13 = mixF m f 13 := by
  rw [show colP m f 64 13 = colP m f 63 13 from colP_run 63 1 (by decide)]
  rw [show colP m f 63 13 = colP m f 62 13 ^^^ mul (f 15) (m 2) from colP_take (by decide)]
  rw [show colP m f 62 13 = colP m f 60 13 from colP_run 60 2 (by decide)]
  rw [show colP m f 60 13 = colP m f 59 13 ^^^ mul (f 14) (m 3) from colP_take (by decide)]
  rw [show colP m f 59 13 = colP m f 53 13 from colP_run 53 6 (by decide)]
  rw [show colP m f 53 13 = colP m f 52 13 ^^^ mul (f 13) (m 0) from colP_take (by decide)]
  rw [show colP m f 52 13 = colP m f 50 13 from colP_run 50 2 (by decide)]
  rw [show colP m f 50 13 = colP m f 49 13 ^^^ mul (f 12) (m 1) from colP_take (by decide)]
  rw [show colP m f 49 13 = colP m f 0 13 from colP_run 0 49 (by decide)]
  rw [show colP m f 0 13 = 0 from rfl, Nat.zero_xor]
  rfl
theorem colP_at14 (m f : Nat → Nat) : colP m f 64 14 = mixF m f 14 := by
  rw [show colP m f 64 14 = colP m f 63 14 ^^^ mul (f 15) (m 3) from colP_take (by decide)]
  rw [show colP m f 63 14 = colP m f 57 14 from colP_run 57 6 (by decide)]
  rw [show colP m f 57 14 = colP m f 56 14 ^^^ mul (f 14) (m 0) from colP_take (by decide)]
  rw [show colP m f 56 14 = colP m f 54 14 from colP_run 54 2 (by decide)]
  rw [show colP m f 54 14 = colP m f 53 14 ^^^ mul (f 13) (m 1) from colP_take (by decide)]
  rw [show colP m f 53 14 = colP m f 51 14 from colP_run 51 2 (by decide)]
  rw [show colP m f 51 14 = colP m f 50 14 ^^^ mul (f 12) (m 2) from colP_take (by decide)]
  rw [show colP m f 50 14 = colP m f 0 14 from colP_run 0 50 (by decide)]
  rw [show colP m f 0 14 = 0 from rfl, Nat.zero_xor]
  rfl
theorem colP_at15 (m f : Nat → Nat) : colP m f 64 15 = mixF m f 15 := by
  rw [show colP m f 64 15 = colP m f 61 15 from colP_run 61 3 (by decide)]
  rw [show colP m f 61 15 = colP m f 60 15 ^^^ mul (f 15) (m 0) from colP_take (by decide)]
  rw [show colP m f 60 15 = colP m f 58 15 from colP_run 58 2 (by decide)]
  rw [show colP m f 58 15 = colP m f 57 15 ^^^ mul (f 14) (m 1) from colP_take (by decide)]
  rw [show colP m f 57 15 = colP m f 55 15 from colP_run 55 2 (by decide)]
  rw [show colP m f 55 15 = colP m f 54 15 ^^^ mul (f 13) (m 2) from colP_take (by decide)]
  rw [show colP m f 54 15 = colP m f 52 15 from colP_run 52 2 (by decide)]
  rw [show colP m f 52 15 = colP m f 51 15 ^^^ mul (f 12) (m 3) from colP_take (by decide)]
  rw [show colP m f 51 15 = colP m f 0 15 from colP_run 0 51 (by decide)]
  rw [show colP m f 0 15 = 0 from rfl, Nat.zero_xor]
  rfl
theorem colP_all (m f : Nat → Nat) {j : Nat} (hj : j < 16) : colP m f 64 j = mixF m f j := by
  have h : j = 0 ∨ j = 1 ∨ j = 2 ∨ j = 3 ∨ j = 4 ∨ j = 5 ∨ j = 6 ∨ j = 7 ∨ j = 8 ∨ j = 9 ∨ j = 10 ∨ j = 11 ∨ j = 12 ∨ j = 13 ∨ j = 14 ∨ j = 15 := by omega
  rcases h with rfl | rfl | rfl | rfl | rfl | rfl | rfl | rfl | rfl | rfl | rfl | rfl | rfl | rfl | rfl | rfl
  · exact colP_at0 m f
  · exact colP_at1 m f
  · exact colP_at2 m f
  · exact colP_at3 m f
  · exact colP_at4 m f
  · exact colP_at5 m f
  · exact colP_at6 m f
  · exact colP_at7 m f
  · exact colP_at8 m f
  · exact colP_at9 m f
  · exact colP_at10 m f
  · exact colP_at11 m f
  · exact colP_at12 m f
  · exact colP_at13 m f
  · exact colP_at14 m f
  · exact colP_at15 m f
/-- the products of all bytes with factors m lie in block T from place O on -/
def TabAt (w : World) (T O : Nat) (m : Nat → Nat) : Prop := T < w.heap.size ∧ ∀ a k, a < 256 → k < 4 → w.cell? ⟨T, O + a * 4 + k, none⟩ = some (.int .u8 ((mul a (m k) : Nat) : Int))
theorem TabAt.below {w w' : World} {T O B : Nat} {m : Nat → Nat} (h : TabAt w T O m) (hb : Below B w w') (hT : T < B) : TabAt w' T O m :=
  ⟨Nat.lt_of_lt_of_le h.1 hb.size, fun a k ha hk => (hb.cell (p := ⟨T, O + a * 4 + k, none⟩) hT).trans (h.2 a k ha hk)⟩
theorem TabM.mix {w : World} {T : Nat} (h : TabM w T) : TabAt w T 512 mx := ⟨World.rowIs.lt h, fun a k ha hk => by
  rw [World.rowIs.cell h (show 512 + a * 4 + k < 2560 by omega)]
  unfold bCell tabN
  rw [if_neg (by omega), if_neg (by omega), if_pos (by omega), show (512 + a * 4 + k - 512) / 4 = a by omega, show (512 + a * 4 + k - 512) % 4 = k by omega]⟩
theorem TabM.undo {w : World} {T : Nat} (h : TabM w T) : TabAt w T 1536 un := ⟨World.rowIs.lt h, fun a k ha hk => by
  rw [World.rowIs.cell h (show 1536 + a * 4 + k < 2560 by omega)]
  unfold bCell tabN
  rw [if_neg (by omega), if_neg (by omega), if_neg (by omega), show (1536 + a * 4 + k - 1536) / 4 = a by omega, show (1536 + a * 4 + k - 1536) % 4 = k by omega]⟩
theorem run_index98 (a b c d k : Nat) (hk : k < 4) (w : World) : (Instr.index 98 (.agg (cells4 a b c d)) (.int .i64 (k : Int))).run Try.prog w = .ok (.int .u8 (([a, b, c, d].getD k 0 : Nat) : Int)) w := by
  obtain ⟨i5, hi, hz0, hz1, hz2⟩ := info_parts try_info5
  unfold Instr.index
  have h : k = 0 ∨ k = 1 ∨ k = 2 ∨ k = 3 := by omega
  rcases h with rfl | rfl | rfl | rfl <;> simp [asIntOf, run_underlying Try.underlying98, part, isAgg, run_underlying Try.underlying5, sizeOf, typeInfo, hi, hz1, cells4]
set_option maxRecDepth 100000 in
set_option maxHeartbeats 4000000 in
theorem columns_walk (T O : Nat) (m f : Nat → Nat) (hf : ∀ i, f i < 256) (w : World) (hT : TabAt w T O m) :
    Calls Try.prog 84 #[.agg (bv f), .pointer (some ⟨T, O, none⟩)] w fun e w' => e = .returned (.agg (bv (mixF m f))) ∧ Below w.heap.size w w' := by
  have HF := Box.mk hf
  clear hf
  have ha0 : Arr ((w.alloc (.cells (bv f) 36)).alloc (.cells #[.int .u8 0, .int .u8 0, .int .u8 0, .int .u8 0, .int .u8 0, .int .u8 0, .int .u8 0, .int .u8 0, .int .u8 0, .int .u8 0, .int .u8 0, .int .u8 0, .int .u8 0, .int .u8 0, .int .u8 0, .int .u8 0] 36)) w.heap.size f := (Arr.new _ _ _ rfl).alloc _
  go_enter Try.func84, Try.ntmps84
  go_wp2_with (first
    | ((with_reducible show wpList _ _ _ (⟨some 9, Op.load 36 (.tmp 2), _, _, _, _⟩ :: _) _ _); refine wp_load_arr rfl (.tmp 2) rfl (w.heap.size) (f) rfl (ha0) ?_))
  go_loopw [5, 6, 7, 8, 10] (fun a b c d i wr => ∃ (k : Nat) (h : Nat → Nat), i = .int .i64 (k : Int) ∧ k ≤ 16 ∧ Box (∀ j, j < 16 → h j = colP m f (4 * k) j) ∧ Arr wr (w.heap.size + 1) h ∧ Below w.heap.size w wr ∧ w.heap.size + 2 ≤ wr.heap.size) (fun _ _ _ _ i _ => 16 - (intOf i).toNat)
  case atStart => exact ⟨0, _, rfl, by omega, ⟨fun j _ => rfl⟩, Arr.zero _ _ (by simp), ((Below.refl _ _).alloc (Nat.le_refl _) _).alloc (by simp) _, by simp⟩
  case round =>
    obtain ⟨k, h, rfl, hk, H, ha, hbel, hsz⟩ := hrel
    clear ha0
    by_cases h6 : k = 16
    · subst h6
      have ha2 : Arr wr (w.heap.size + 1) (mixF m f) := ha.congr (fun j hj => by rw [H.out j hj, colP_all m f hj])
      clear ha H
      go_wp2_with (first
          | ((with_reducible show wpList _ _ _ (⟨some 38, Op.load 36 (.tmp 4), _, _, _, _⟩ :: _) _ _); refine wp_load_arr rfl (.tmp 4) rfl (w.heap.size + 1) (mixF m f) rfl (ha2) ?_)
          | ((with_reducible show wpList _ _ _ (⟨_, Op.store 36 (.tmp 4) (.tmp 38), _, _, _, _⟩ :: _) _ _); refine wp_store_arr rfl (.tmp 4) (.tmp 38) rfl (w.heap.size + 1) (mixF m f) (mixF m f) rfl rfl (ha2) ?_))
      exact bodyPost_ret (results_arr rfl _ _ (w.heap.size + 1) (mixF m f) rfl ha2.setRow) rfl ⟨rfl, below_setRow hbel (by omega) _⟩
    · have hk2 : k < 16 := by omega
      clear h6
      have hix := run_index hk2 (f := f)
      have hfk := HF.out k
      obtain ⟨b, hb⟩ : ∃ b, f k = b := ⟨_, rfl⟩
      rw [hb] at hix hfk
      have HB := Box.mk hb
      clear hb
      have hT2 := hT.below hbel hT.1
      have t0 := hT2.2 b 0 hfk (by omega)
      have t1 := hT2.2 b 1 hfk (by omega)
      have t2 := hT2.2 b 2 hfk (by omega)
      have t3 := hT2.2 b 3 hfk (by omega)
      rw [Nat.add_zero] at t0
      obtain ⟨x0, e0⟩ : ∃ x, mul b (m 0) = x := ⟨_, rfl⟩
      obtain ⟨x1, e1⟩ : ∃ x, mul b (m 1) = x := ⟨_, rfl⟩
      obtain ⟨x2, e2⟩ : ∃ x, mul b (m 2) = x := ⟨_, rfl⟩
      obtain ⟨x3, e3⟩ : ∃ x, mul b (m 3) = x := ⟨_, rfl⟩
      rw [e0] at t0
      rw [e1] at t1
      rw [e2] at t2
      rw [e3] at t3
      have HE := Box.mk (show mul b (m 0) = x0 ∧ mul b (m 1) = x1 ∧ mul b (m 2) = x2 ∧ mul b (m 3) = x3 from ⟨e0, e1, e2, e3⟩)
      clear e0 e1 e2 e3 hT2
      go_wp2_with fail
      go_loopw [7, 8, 19] (fun _a _b i w2 => ∃ (q : Nat) (h : Nat → Nat), i = .int .i64 (q : Int) ∧ q ≤ 4 ∧ Box (∀ j, j < 16 → h j = colP m f (4 * k + q) j) ∧ Arr w2 (w.heap.size + 1) h ∧ Below w.heap.size w w2 ∧ w.heap.size + 2 ≤ w2.heap.size) (fun _ _ i _ => 4 - (intOf i).toNat)
      case atStart => exact ⟨0, h, rfl, by omega, H, ha, hbel, hsz⟩
      case round =>
        obtain ⟨q, g, rfl, hq, G, hga, hgbel, hgsz⟩ := hrel
        clear ha hbel hsz H t0 t1 t2 t3 hix
        by_cases hq4 : q = 4
        · subst hq4
          go_wp2_with fail
          go_roundw
          case rel => exact ⟨k + 1, g, by go_num, by omega, ⟨fun j hj => by rw [G.out j hj]; rfl⟩, hga, hgbel, hgsz⟩
          case measure => simp [intOf]; omega
        · have hq2 : q < 4 := by omega
          clear hq4
          have hix := run_index98 x0 x1 x2 x3 q hq2
          obtain ⟨y, hy⟩ : ∃ y, [x0, x1, x2, x3].getD q 0 = y := ⟨_, rfl⟩
          rw [hy] at hix
          have hym : y = mul (f k) (m q) := by
            rw [← hy, HB.out]
            obtain ⟨e0, e1, e2, e3⟩ := HE.out
            have hc : q = 0 ∨ q = 1 ∨ q = 2 ∨ q = 3 := by omega
            rcases hc with rfl | rfl | rfl | rfl
            · exact e0.symm
            · exact e1.symm
            · exact e2.symm
            · exact e3.symm
          have hyl : y < 256 := by rw [hym]; exact mul_lt (HF.out k)
          have HYM := Box.mk hym
          obtain ⟨t, ht⟩ : ∃ t : Nat, t = tgt (4 * k + q) := ⟨_, rfl⟩
          have htl : t < 16 := by rw [ht]; unfold tgt; omega
          have hti : (k : Int) / 4 * 4 + ((k : Int) + (q : Int)) % 4 = (t : Int) := by rw [ht]; unfold tgt; omega
          have HTT := Box.mk ht
          obtain ⟨z, hz⟩ : ∃ z, g t = z := ⟨_, rfl⟩
          have hzl : z < 256 := by rw [← hz, G.out t htl]; exact colP_lt HF.out _ _
          have hcell := hga.cell htl
          rw [hz] at hcell
          have hfree := hga.free t
          have hxr := u8_xor_nat z y hzl hyl
          have HZ := Box.mk hz
          clear hz ht hym hy
          go_wp2_with fail
          go_roundw
          case rel =>
            refine ⟨q + 1, upd g t (z ^^^ y), by go_num, by omega, ⟨fun j hj => ?_⟩, Arr.set hga, hgbel.setCell (show w.heap.size ≤ w.heap.size + 1 by omega) _, by rw [World.size_setCell]; exact hgsz⟩
            show upd g t (z ^^^ y) j = if j = tgt (4 * k + q) then colP m f (4 * k + q) j ^^^ mul (f ((4 * k + q) / 4)) (m ((4 * k + q) % 4)) else colP m f (4 * k + q) j
            rw [← HTT.out, show (4 * k + q) / 4 = k by omega, show (4 * k + q) % 4 = q by omega, ← HYM.out]
            unfold upd
            by_cases e : j = t
            · subst e; rw [if_pos rfl, if_pos rfl, ← G.out j hj, HZ.out]
            · rw [if_neg e, if_neg e]; exact G.out j hj
          case measure => simp [intOf]; omega
end Go.Proofs.Ytibfihjcjohadaa
