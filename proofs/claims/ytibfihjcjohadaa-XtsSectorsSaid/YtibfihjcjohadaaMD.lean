/-
  The walks of Encrypt and Decrypt. Conditions: a live cipher.
-/
import Derived.Test.YtibfihjcjohadaaMK
import Derived.Test.YtibfihjcjohadaaMT
/- The walk of the cipher's Encrypt: what a block is encrypted to; nothing that was there is written. -/
namespace Go.Proofs.Ytibfihjcjohadaa
open Go.RowKit Go.Op
open Sbx (sub sub_lt back back_lt)
open Aes (mx un mixF mixF_lt subF subF_lt backF addF addF_lt fwd fwd_lt encR encR_lt enc shI shI_lt)
theorem TabM.sub_ {w : World} {T i : Nat} (h : TabM w T) (hi : i < 256) : w.cell? ⟨T, i, none⟩ = some (.int .u8 ((sub i : Nat) : Int)) := by
  rw [World.rowIs.cell h (show i < 2560 by omega)]
  unfold bCell tabN
  rw [if_pos hi]
theorem TabM.back_ {w : World} {T i : Nat} (h : TabM w T) (hi : i < 256) : w.cell? ⟨T, 256 + i, none⟩ = some (.int .u8 ((back i : Nat) : Int)) := by
  rw [World.rowIs.cell h (show 256 + i < 2560 by omega)]
  unfold bCell tabN
  rw [if_neg (by omega), if_pos (by omega), show 256 + i - 256 = i by omega]
/-- a whole block is stored, in a region that draws its order -/
theorem wpo_store_arr {o : Oper} {a : Act} {w : World} {K : Act → World → Prop} {Q : Exit → Act → World → Prop} (x y : Operand) (ho : o.op = .store 36 x y)
    (g : Nat) (f k : Nat → Nat) (hx : a.eval x = .pointer (some ⟨g, 0, none⟩)) (hy : a.eval y = .agg (bv k)) (ha : Arr w g f)
    (h : K (a.put o.dst undef) (w.setRow g (bv k))) : o.wp Try.prog a w K Q :=
  wp_store_row 36 x y ho g (bv k) hx hy 36 (bv f) ha (size36' k) (by rw [bv_size, bv_size]) (bv_one k) h
/-- what the region reads that puts a byte in another's place -/
structure S61 (B s C T b y g i : Nat) (w' : World) : Prop where
  ct : w'.cell? ⟨C, 0, none⟩ = some (.pointer (some ⟨T, 0, none⟩))
  cb : w'.cell? ⟨B, s, none⟩ = some (.int .u8 (b : Int))
  cy : w'.cell? ⟨T, b, none⟩ = some (.int .u8 (y : Int))
  cg : w'.cell? ⟨g, i, none⟩ = some (.int .u8 0)
  fg : w'.frozen? ⟨g, i, none⟩ = false
/-- what the region reads that mixes a block's columns -/
structure S615 (C T g : Nat) (h : Nat → Nat) (w' : World) : Prop where
  ct : w'.cell? ⟨C, 0, none⟩ = some (.pointer (some ⟨T, 0, none⟩))
  tab : TabM w' T
  arr : Arr w' g h
  lt : C < w'.heap.size
theorem S615.below {C T g : Nat} {h : Nat → Nat} {w1 w2 : World} (s : S615 C T g h w1) (hb : Below w1.heap.size w1 w2) : S615 C T g h w2 :=
  ⟨(hb.cell (p := ⟨C, 0, none⟩) s.lt).trans s.ct, rowIs_below s.tab hb (World.rowIs.lt s.tab), s.arr.below hb s.arr.lt, Nat.lt_of_lt_of_le s.lt hb.size⟩
set_option maxRecDepth 100000 in
set_option maxHeartbeats 8000000 in
theorem encrypt_walk (C N : Nat) (ws : List Nat) (W : Nat → Nat) (hW : (fun i => ws.getD i 0) = W) (f : Nat → Nat) (hf : ∀ i, f i < 256) (w : World) (hC : Ciph w C ws) (hN : ws.length = 4 * (N + 1)) (h1 : 1 ≤ N) (h9 : N ≤ 100) :
    Calls Try.prog 61 #[.pointer (some ⟨C, 0, none⟩), .agg (bv f)] w fun e w' => e = .returned (.agg (bv (encR W N f N))) ∧ Below w.heap.size w w' := by
  have HF := Box.mk hf
  have HC := Box.mk hC
  have HN := Box.mk hN
  have hlt : C < w.heap.size := by obtain ⟨_, _, _, h, _⟩ := hC; exact h.lt
  have HR : Box (∀ w1, Ciph w1 C ws → Calls Try.prog 65 #[.pointer (some ⟨C, 0, none⟩)] w1 fun e w' => e = .returned (.int .i64 (N : Int)) ∧ w1 = w') := ⟨fun w1 h => by
    have := rounds_any C ws w1 h (by omega) (by omega)
    rwa [hN, show 4 * (N + 1) / 4 - 1 = N by omega] at this⟩
  have HA : Box (∀ (r : Nat) (g : Nat → Nat) (w1 : World), (∀ i, g i < 256) → r ≤ N → Ciph w1 C ws → Calls Try.prog 83 #[.pointer (some ⟨C, 0, none⟩), .agg (bv g), .int .i64 (r : Int)] w1 fun e w' => e = .returned (.agg (bv (addF W r g))) ∧ Below w1.heap.size w1 w') := ⟨fun r g w1 hg hr h => by
    rw [← hW]; exact add_walk C r ws g hg w1 h (by omega) (by omega)⟩
  have ha0 : Arr ((w.alloc (.cells (bv f) 36)).alloc (.cells #[.int .u8 0, .int .u8 0, .int .u8 0, .int .u8 0, .int .u8 0, .int .u8 0, .int .u8 0, .int .u8 0, .int .u8 0, .int .u8 0, .int .u8 0, .int .u8 0, .int .u8 0, .int .u8 0, .int .u8 0, .int .u8 0] 36)) w.heap.size f := (Arr.new _ _ _ rfl).alloc _
  have hz0 : Arr ((w.alloc (.cells (bv f) 36)).alloc (.cells #[.int .u8 0, .int .u8 0, .int .u8 0, .int .u8 0, .int .u8 0, .int .u8 0, .int .u8 0, .int .u8 0, .int .u8 0, .int .u8 0, .int .u8 0, .int .u8 0, .int .u8 0, .int .u8 0, .int .u8 0, .int .u8 0] 36)) (w.heap.size + 1) (fun _ => 0) := Arr.zero _ _ (by simp)
  have hb0 : Below w.heap.size w ((w.alloc (.cells (bv f) 36)).alloc (.cells #[.int .u8 0, .int .u8 0, .int .u8 0, .int .u8 0, .int .u8 0, .int .u8 0, .int .u8 0, .int .u8 0, .int .u8 0, .int .u8 0, .int .u8 0, .int .u8 0, .int .u8 0, .int .u8 0, .int .u8 0, .int .u8 0] 36)) := ((Below.refl _ _).alloc (Nat.le_refl _) _).alloc (by simp) _
  have hs0 : w.heap.size + 2 ≤ ((w.alloc (.cells (bv f) 36)).alloc (.cells #[.int .u8 0, .int .u8 0, .int .u8 0, .int .u8 0, .int .u8 0, .int .u8 0, .int .u8 0, .int .u8 0, .int .u8 0, .int .u8 0, .int .u8 0, .int .u8 0, .int .u8 0, .int .u8 0, .int .u8 0, .int .u8 0] 36)).heap.size := by simp
  have hnz : ((N : Int) == 0) = false := by simp; omega
  clear hf hC hN hW
  go_enter Try.func61, Try.ntmps61
  go_wp2_with fail
  revert ha0 hz0 hb0 hs0
  generalize (w.alloc (.cells (bv f) 36)).alloc (.cells #[.int .u8 0, .int .u8 0, .int .u8 0, .int .u8 0, .int .u8 0, .int .u8 0, .int .u8 0, .int .u8 0, .int .u8 0, .int .u8 0, .int .u8 0, .int .u8 0, .int .u8 0, .int .u8 0, .int .u8 0, .int .u8 0] 36) = w1
  intro ha0 hz0 hb0 hs0
  refine (HR.out _ (HC.out.below hb0)).mono ?_
  rintro e w' ⟨rfl, rfl⟩
  go_wp2_with (first
    | ((with_reducible show wpList _ _ _ (⟨some 15, Op.load 36 (.tmp 3), _, _, _, _⟩ :: _) _ _); refine wp_load_arr rfl (.tmp 3) rfl (w.heap.size) (f) rfl (ha0) ?_))
  refine (HA.out 0 f _ HF.out (Nat.zero_le _) (HC.out.below hb0)).mono ?_
  rintro e w2 ⟨rfl, hb2⟩
  have ha2 := ha0.below hb2 ha0.lt
  have hz2 := hz0.below hb2 hz0.lt
  have hs2 := hb2.size
  have hbel2 := hb0.trans (hb2.mono (by omega))
  clear ha0 hz0 hb0 hb2
  go_wp2_with (first
    | ((with_reducible show wpList _ _ _ (⟨_, Op.store 36 (.tmp 3) (.tmp 16), _, _, _, _⟩ :: _) _ _); refine wp_store_arr rfl (.tmp 3) (.tmp 16) rfl (w.heap.size) (f) (addF W 0 f) rfl rfl (ha2) ?_))
  go_loopw [6, 7, 8, 22] (fun r _p _q _i wr => ∃ (k : Nat), r = .int .i64 ((k : Int) + 1) ∧ k ≤ N ∧ Arr wr w.heap.size (encR W N f k) ∧ Arr wr (w.heap.size + 1) (fun _ => 0) ∧ Below w.heap.size w wr ∧ w.heap.size + 2 ≤ wr.heap.size) (fun r _ _ _ _ => (N + 1 - intOf r).toNat)
  case atStart => exact ⟨0, rfl, by omega, ha2.setRow, hz2.setRow_far (by omega), below_setRow hbel2 (Nat.le_refl _) _, by simp [World.setRow]; omega⟩
  case round =>
    obtain ⟨k, rfl, hk, ha, hz, hbel, hsz⟩ := hrel
    clear ha2 hz2 hs2 hbel2 w2
    have hEl : Box (∀ i, encR W N f k i < 256) := ⟨encR_lt HF.out k⟩
    by_cases hkN : k = N
    · subst hkN
      have hle : ¬ ((k : Int) + 1 ≤ (k : Int)) := by omega
      go_wp2_with (first
          | ((with_reducible show wpList _ _ _ (⟨some 59, Op.load 36 (.tmp 3), _, _, _, _⟩ :: _) _ _); refine wp_load_arr rfl (.tmp 3) rfl (w.heap.size) (encR W k f k) rfl (ha) ?_)
          | ((with_reducible show wpList _ _ _ (⟨_, Op.store 36 (.tmp 4) (.tmp 59), _, _, _, _⟩ :: _) _ _); refine wp_store_arr rfl (.tmp 4) (.tmp 59) rfl (w.heap.size + 1) (fun _ => 0) (encR W k f k) rfl rfl (hz) ?_))
      exact bodyPost_ret (results_arr rfl _ _ (w.heap.size + 1) (encR W k f k) rfl hz.setRow) rfl ⟨rfl, below_setRow hbel (by omega) _⟩
    · have hk2 : k < N := by omega
      clear hkN
      have hle : ((k : Int) + 1 ≤ (N : Int)) := by omega
      obtain ⟨e, he⟩ : ∃ e, encR W N f k = e := ⟨_, rfl⟩
      rw [he] at ha hEl
      have HE := Box.mk he
      clear he
      have hn3 : Arr (wr.alloc (.cells #[.int .u8 0, .int .u8 0, .int .u8 0, .int .u8 0, .int .u8 0, .int .u8 0, .int .u8 0, .int .u8 0, .int .u8 0, .int .u8 0, .int .u8 0, .int .u8 0, .int .u8 0, .int .u8 0, .int .u8 0, .int .u8 0] 36)) wr.heap.size (fun _ => 0) := Arr.zero _ _ rfl
      have ha3 := ha.alloc (.cells #[.int .u8 0, .int .u8 0, .int .u8 0, .int .u8 0, .int .u8 0, .int .u8 0, .int .u8 0, .int .u8 0, .int .u8 0, .int .u8 0, .int .u8 0, .int .u8 0, .int .u8 0, .int .u8 0, .int .u8 0, .int .u8 0] 36)
      have hz3 := hz.alloc (.cells #[.int .u8 0, .int .u8 0, .int .u8 0, .int .u8 0, .int .u8 0, .int .u8 0, .int .u8 0, .int .u8 0, .int .u8 0, .int .u8 0, .int .u8 0, .int .u8 0, .int .u8 0, .int .u8 0, .int .u8 0, .int .u8 0] 36)
      have hb3 : Below w.heap.size w (wr.alloc (.cells #[.int .u8 0, .int .u8 0, .int .u8 0, .int .u8 0, .int .u8 0, .int .u8 0, .int .u8 0, .int .u8 0, .int .u8 0, .int .u8 0, .int .u8 0, .int .u8 0, .int .u8 0, .int .u8 0, .int .u8 0, .int .u8 0] 36)) := hbel.alloc (by omega) _
      have hs3 : w.heap.size + 2 ≤ (wr.alloc (.cells #[.int .u8 0, .int .u8 0, .int .u8 0, .int .u8 0, .int .u8 0, .int .u8 0, .int .u8 0, .int .u8 0, .int .u8 0, .int .u8 0, .int .u8 0, .int .u8 0, .int .u8 0, .int .u8 0, .int .u8 0, .int .u8 0] 36)).heap.size := by simp; omega
      go_wp2_with fail
      revert hn3 ha3 hz3 hb3 hs3
      generalize wr.alloc (.cells #[.int .u8 0, .int .u8 0, .int .u8 0, .int .u8 0, .int .u8 0, .int .u8 0, .int .u8 0, .int .u8 0, .int .u8 0, .int .u8 0, .int .u8 0, .int .u8 0, .int .u8 0, .int .u8 0, .int .u8 0, .int .u8 0] 36) = w3
      obtain ⟨g, hg⟩ : ∃ g, g = wr.heap.size := ⟨_, rfl⟩
      rw [← hg]
      have hgs : w.heap.size + 2 ≤ g := by omega
      intro hn3 ha3 hz3 hb3 hs3
      clear ha hz hbel hsz hg
      go_loopw [8, 22] (fun _q i w4 => ∃ (i' : Nat) (h : Nat → Nat), i = .int .i64 (i' : Int) ∧ i' ≤ 16 ∧ Box (∀ j, h j = if j < i' then subF e j else 0) ∧ Arr w4 g h ∧ Arr w4 w.heap.size e ∧ Arr w4 (w.heap.size + 1) (fun _ => 0) ∧ Below w.heap.size w w4 ∧ w.heap.size + 2 ≤ w4.heap.size) (fun _ i _ => 16 - (intOf i).toNat)
      case atStart => exact ⟨0, _, rfl, by omega, ⟨fun j => by simp⟩, hn3, ha3, hz3, hb3, hs3⟩
      case round =>
        obtain ⟨i, h, rfl, hi, H, hn, ha, hz, hbel, hsz⟩ := hrel
        clear hn3 ha3 hz3 hb3 hs3 w3
        by_cases hi6 : i = 16
        · subst hi6
          have hn2 : Arr wr g (subF e) := hn.congr (fun j hj => by rw [H.out j, if_pos hj])
          clear hn H
          have HA1 : Box (∀ (g : Nat → Nat) (w1 : World), (∀ i, g i < 256) → Ciph w1 C ws → Calls Try.prog 83 #[.pointer (some ⟨C, 0, none⟩), .agg (bv g), .int .i64 ((k : Int) + 1)] w1 fun e w' => e = .returned (.agg (bv (addF W (k + 1) g))) ∧ Below w1.heap.size w1 w') := ⟨fun g w1 hg h => HA.out (k + 1) g w1 hg (by omega) h⟩
          by_cases hl : k + 1 < N
          · have hl' : (k : Int) + 1 < (N : Int) := by omega
            have HNEW : Box (addF W (k + 1) (mixF mx (subF e)) = encR W N f (k + 1)) := ⟨by show _ = addF W (k + 1) (fwd N (k + 1) (encR W N f k)); rw [HE.out]; unfold fwd; rw [if_pos hl]⟩
            have HL8 : Box (∀ i, mixF mx (subF e) i < 256) := ⟨mixF_lt (subF_lt hEl.out)⟩
            clear hl
            obtain ⟨T, A, c, g1, g2, g3⟩ := HC.out.below hbel
            have hSS : S615 C T g (subF e) wr.drew := ⟨g1.tab, g2, hn2, g1.lt⟩
            clear g1 g2 g3
            go_wp2_with fail
            refine wp_region_Z 8 8 (S615 C T g (subF e)) (fun _ => True) (by kernel_rfl) ?_
            have hS : _ ∧ True := ⟨hSS, trivial⟩
            refine wpAnyZ_take (i := 0) (oi := ⟨some 47, _, _, _, _, _⟩) (v := .agg (bv (subF e))) rfl (by kernel_rfl) (by kernel_rfl) (by kernel_rfl) (by kernel_rfl) (fun _ _ _ h => h) (yields_arr (by kernel_rfl) (.tmp 7) rfl (g) (subF e) rfl (fun _ h => h.arr)) hS ?_
            simp only [Act.put, List.setIfInBounds_toArray, List.set_cons_zero, List.set_cons_succ]
            refine wpAnyZ_any (i := 1) (oi := ⟨some 48, _, _, _, _, _⟩) (v := .pointer (some ⟨C, 0, none⟩)) rfl (by kernel_rfl) (by kernel_rfl) (by kernel_rfl) (by kernel_rfl) (fun _ _ _ h => h) (Or.inl ⟨by kernel_rfl, fun w' _ => ?_⟩) ⟨.inr hS.1, .inr hS.2⟩ ?_
            · go_simp
            simp only [Act.put, List.setIfInBounds_toArray, List.set_cons_zero, List.set_cons_succ]
            refine wpAnyZ_any (i := 2) (oi := ⟨some 49, _, _, _, _, _⟩) (v := .pointer (some ⟨C, 0, none⟩)) rfl (by kernel_rfl) (by kernel_rfl) (by kernel_rfl) (by kernel_rfl) (fun _ _ _ h => h) (Or.inl ⟨by kernel_rfl, fun w' _ => ?_⟩) ⟨.inr hS.1, .inr hS.2⟩ ?_
            · go_simp
            simp only [Act.put, List.setIfInBounds_toArray, List.set_cons_zero, List.set_cons_succ]
            refine wpAnyZ_any (i := 3) (oi := ⟨some 50, _, _, _, _, _⟩) (v := .pointer (some ⟨C, 0, none⟩)) rfl (by kernel_rfl) (by kernel_rfl) (by kernel_rfl) (by kernel_rfl) (fun _ _ _ h => h) (Or.inl ⟨by kernel_rfl, fun w' _ => ?_⟩) ⟨.inr hS.1, .inr hS.2⟩ ?_
            · go_simp
            simp only [Act.put, List.setIfInBounds_toArray, List.set_cons_zero, List.set_cons_succ]
            refine wpAnyZ_take (i := 4) (oi := ⟨some 51, _, _, _, _, _⟩) (v := .pointer (some ⟨T, 0, none⟩)) rfl (by kernel_rfl) (by kernel_rfl) (by kernel_rfl) (by kernel_rfl) (fun _ _ _ h => h) (Or.inl ⟨by kernel_rfl, fun w' hSw => ?_⟩) hS ?_
            · (have c := hSw.ct; go_simp)
            simp only [Act.put, List.setIfInBounds_toArray, List.set_cons_zero, List.set_cons_succ]
            refine wpAnyZ_any (i := 5) (oi := ⟨some 52, _, _, _, _, _⟩) (v := .pointer (some ⟨T, 0, none⟩)) rfl (by kernel_rfl) (by kernel_rfl) (by kernel_rfl) (by kernel_rfl) (fun _ _ _ h => h) (Or.inl ⟨by kernel_rfl, fun w' _ => ?_⟩) ⟨.inr hS.1, .inr hS.2⟩ ?_
            · go_simp
            simp only [Act.put, List.setIfInBounds_toArray, List.set_cons_zero, List.set_cons_succ]
            refine wpAnyZ_any (i := 6) (oi := ⟨some 53, _, _, _, _, _⟩) (v := .pointer (some ⟨T, 512, none⟩)) rfl (by kernel_rfl) (by kernel_rfl) (by kernel_rfl) (by kernel_rfl) (fun _ _ _ h => h) (Or.inl ⟨by kernel_rfl, fun w' _ => ?_⟩) ⟨.inr hS.1, .inr hS.2⟩ ?_
            · go_simp
            simp only [Act.put, List.setIfInBounds_toArray, List.set_cons_zero, List.set_cons_succ]
            refine wpAnyZ_one (i := 7) (o := ⟨some 54, _, _, _, _, _⟩) (by kernel_rfl) rfl (by kernel_rfl) (fun K hK => ?_)
            go_simp
            refine (columns_walk T 512 mx (subF e) (subF_lt hEl.out) _ hS.1.tab.mix).mono ?_
            rintro e5 w5 ⟨rfl, hb5⟩
            have hS := (show _ ∧ True from ⟨hS.1.below hb5, trivial⟩)
            refine hK.out _ _ ⟨.inr hS.1, .inr hS.2⟩ ?_
            clear hK K
            refine wpAnyZ_one (i := 8) (o := ⟨none, _, _, _, _, _⟩) (by kernel_rfl) rfl (by kernel_rfl) (fun K hK => ?_)
            refine wpo_store_arr (.tmp 7) (.tmp 54) rfl g (subF e) (mixF mx (subF e)) rfl rfl hS.1.arr ?_
            refine hK.out _ _ ⟨.inl (show _ = true by kernel_rfl), .inl (show _ = true by kernel_rfl)⟩ ?_
            clear hK K hS
            refine wpAnyZ_done (by kernel_rfl) ?_ _
            have hn5 := hn2.drew.below hb5 hn2.lt
            have ha5 := ha.drew.below hb5 ha.lt
            have hz5 := hz.drew.below hb5 hz.lt
            have hs5 : wr.heap.size ≤ w5.heap.size := hb5.size
            have hbel5 := hbel.drew.trans (hb5.mono (show w.heap.size ≤ wr.heap.size by omega))
            have hn := hn5.setRow (h := mixF mx (subF e))
            have ha := ha5.setRow_far (g' := g) (c := bv (mixF mx (subF e))) (by omega)
            have hz := hz5.setRow_far (g' := g) (c := bv (mixF mx (subF e))) (by omega)
            have hbel := below_setRow hbel5 (show w.heap.size ≤ g by omega) (bv (mixF mx (subF e)))
            have hsz : w.heap.size + 2 ≤ (w5.setRow g (bv (mixF mx (subF e)))).heap.size := by simp only [setRow_size]; omega
            clear hn5 ha5 hz5 hs5 hbel5 hb5 hn2 hSS
            revert hn ha hz hbel hsz
            generalize w5.setRow g (bv (mixF mx (subF e))) = w7
            intro hn ha hz hbel hsz
            have hq := HA1.out (mixF mx (subF e)) _ (HL8.out) (HC.out.below hbel)
            go_wp2_with (first
                | ((with_reducible show wpList _ _ _ (⟨some 56, Op.load 36 (.tmp 7), _, _, _, _⟩ :: _) _ _); refine wp_load_arr rfl (.tmp 7) rfl (g) (mixF mx (subF e)) rfl (hn) ?_))
            refine hq.mono ?_
            rintro e6 w6 ⟨rfl, hb6⟩
            have ha6 := ha.below hb6 ha.lt
            have hz6 := hz.below hb6 hz.lt
            have hs6 := hb6.size
            have hbel6 := hbel.trans (hb6.mono (by omega))
            clear hn hb6
            go_wp2_with (first
                | ((with_reducible show wpList _ _ _ (⟨_, Op.store 36 (.tmp 3) (.tmp 58), _, _, _, _⟩ :: _) _ _); refine wp_store_arr rfl (.tmp 3) (.tmp 58) rfl (w.heap.size) (e) (addF W (k + 1) (mixF mx (subF e))) rfl rfl (ha6) ?_))
            go_roundw
            case rel =>
              refine ⟨k + 1, by go_num, by omega, ?_, hz6.setRow_far (by omega), below_setRow hbel6 (Nat.le_refl _) _, by simp only [setRow_size]; omega⟩
              rw [← HNEW.out]
              exact ha6.setRow
            case measure => simp [intOf]; omega
          · have hl' : ¬ ((k : Int) + 1 < (N : Int)) := by omega
            have HNEW : Box (addF W (k + 1) (subF e) = encR W N f (k + 1)) := ⟨by show _ = addF W (k + 1) (fwd N (k + 1) (encR W N f k)); rw [HE.out]; unfold fwd; rw [if_neg hl]⟩
            have HL8 : Box (∀ i, subF e i < 256) := ⟨subF_lt hEl.out⟩
            have hn := hn2
            clear hl hn2
            have hq := HA1.out (subF e) _ (HL8.out) (HC.out.below hbel)
            go_wp2_with (first
                | ((with_reducible show wpList _ _ _ (⟨some 56, Op.load 36 (.tmp 7), _, _, _, _⟩ :: _) _ _); refine wp_load_arr rfl (.tmp 7) rfl (g) (subF e) rfl (hn) ?_))
            refine hq.mono ?_
            rintro e6 w6 ⟨rfl, hb6⟩
            have ha6 := ha.below hb6 ha.lt
            have hz6 := hz.below hb6 hz.lt
            have hs6 := hb6.size
            have hbel6 := hbel.trans (hb6.mono (by omega))
            clear hn hb6
            go_wp2_with (first
                | ((with_reducible show wpList _ _ _ (⟨_, Op.store 36 (.tmp 3) (.tmp 58), _, _, _, _⟩ :: _) _ _); refine wp_store_arr rfl (.tmp 3) (.tmp 58) rfl (w.heap.size) (e) (addF W (k + 1) (subF e)) rfl rfl (ha6) ?_))
            go_roundw
            case rel =>
              refine ⟨k + 1, by go_num, by omega, ?_, hz6.setRow_far (by omega), below_setRow hbel6 (Nat.le_refl _) _, by simp only [setRow_size]; omega⟩
              rw [← HNEW.out]
              exact ha6.setRow
            case measure => simp [intOf]; omega
        · have hi2 : i < 16 := by omega
          clear hi6
          obtain ⟨T, A, c, g1, g2, g3⟩ := HC.out.below hbel
          obtain ⟨s, hs⟩ : ∃ s, s = shI i := ⟨_, rfl⟩
          have hsl : s < 16 := by rw [hs]; exact shI_lt i
          have HS2 : Box (s = (i + 4 * (i % 4)) % 16) := ⟨hs⟩
          obtain ⟨b, hb⟩ : ∃ b, e s = b := ⟨_, rfl⟩
          have hbl : b < 256 := by rw [← hb]; exact hEl.out s
          obtain ⟨y, hy⟩ : ∃ y, sub b = y := ⟨_, rfl⟩
          have HY : Box (y = subF e i) := ⟨by unfold subF; rw [← hs, hb, hy]⟩
          have cb := ha.cell hsl
          rw [hb] at cb
          have cy := g2.sub_ hbl
          rw [hy] at cy
          have cg := hn.cell hi2
          rw [H.out i, if_neg (by omega)] at cg
          have hSS : S61 w.heap.size s C T b y g i wr.drew := ⟨g1.tab, cb, cy, cg, hn.free i⟩
          have hs0 : (0 : Int) ≤ (s : Int) := by omega
          have hs1 : (s : Int) < 16 := by omega
          have hs2 : ¬ 16 ≤ s := by omega
          have hb0 : (0 : Int) ≤ (b : Int) := by omega
          have hb1 : (b : Int) < 256 := by omega
          clear hs hb hy cb cy cg g1 g2 g3
          go_wp2_with fail
          refine wp_region_Z 18 18 (S61 w.heap.size s C T b y g i) (fun _ => True) (by kernel_rfl) ?_
          have hS : _ ∧ True := ⟨hSS, trivial⟩
          refine wpAnyZ_any (i := 0) (oi := ⟨some 25, _, _, _, _, _⟩) (v := .int .i64 (i : Int)) rfl (by kernel_rfl) (by kernel_rfl) (by kernel_rfl) (by kernel_rfl) (fun _ _ _ h => h) (Or.inl ⟨by kernel_rfl, fun w' _ => ?_⟩) ⟨.inr hS.1, .inr hS.2⟩ ?_
          · go_simp
          simp only [Act.put, List.setIfInBounds_toArray, List.set_cons_zero, List.set_cons_succ]
          refine wpAnyZ_any (i := 1) (oi := ⟨some 26, _, _, _, _, _⟩) (v := .pointer (some ⟨C, 0, none⟩)) rfl (by kernel_rfl) (by kernel_rfl) (by kernel_rfl) (by kernel_rfl) (fun _ _ _ h => h) (Or.inl ⟨by kernel_rfl, fun w' _ => ?_⟩) ⟨.inr hS.1, .inr hS.2⟩ ?_
          · go_simp
          simp only [Act.put, List.setIfInBounds_toArray, List.set_cons_zero, List.set_cons_succ]
          refine wpAnyZ_any (i := 2) (oi := ⟨some 27, _, _, _, _, _⟩) (v := .pointer (some ⟨C, 0, none⟩)) rfl (by kernel_rfl) (by kernel_rfl) (by kernel_rfl) (by kernel_rfl) (fun _ _ _ h => h) (Or.inl ⟨by kernel_rfl, fun w' _ => ?_⟩) ⟨.inr hS.1, .inr hS.2⟩ ?_
          · go_simp
          simp only [Act.put, List.setIfInBounds_toArray, List.set_cons_zero, List.set_cons_succ]
          refine wpAnyZ_any (i := 3) (oi := ⟨some 28, _, _, _, _, _⟩) (v := .pointer (some ⟨C, 0, none⟩)) rfl (by kernel_rfl) (by kernel_rfl) (by kernel_rfl) (by kernel_rfl) (fun _ _ _ h => h) (Or.inl ⟨by kernel_rfl, fun w' _ => ?_⟩) ⟨.inr hS.1, .inr hS.2⟩ ?_
          · go_simp
          simp only [Act.put, List.setIfInBounds_toArray, List.set_cons_zero, List.set_cons_succ]
          refine wpAnyZ_take (i := 4) (oi := ⟨some 29, _, _, _, _, _⟩) (v := .pointer (some ⟨T, 0, none⟩)) rfl (by kernel_rfl) (by kernel_rfl) (by kernel_rfl) (by kernel_rfl) (fun _ _ _ h => h) (Or.inl ⟨by kernel_rfl, fun w' hSw => ?_⟩) hS ?_
          · (have c := hSw.ct; go_simp)
          simp only [Act.put, List.setIfInBounds_toArray, List.set_cons_zero, List.set_cons_succ]
          refine wpAnyZ_any (i := 5) (oi := ⟨some 30, _, _, _, _, _⟩) (v := .int .i64 (i : Int)) rfl (by kernel_rfl) (by kernel_rfl) (by kernel_rfl) (by kernel_rfl) (fun _ _ _ h => h) (Or.inl ⟨by kernel_rfl, fun w' _ => ?_⟩) ⟨.inr hS.1, .inr hS.2⟩ ?_
          · go_simp
          simp only [Act.put, List.setIfInBounds_toArray, List.set_cons_zero, List.set_cons_succ]
          refine wpAnyZ_any (i := 6) (oi := ⟨some 31, _, _, _, _, _⟩) (v := .int .i64 (i : Int)) rfl (by kernel_rfl) (by kernel_rfl) (by kernel_rfl) (by kernel_rfl) (fun _ _ _ h => h) (Or.inl ⟨by kernel_rfl, fun w' _ => ?_⟩) ⟨.inr hS.1, .inr hS.2⟩ ?_
          · go_simp
          simp only [Act.put, List.setIfInBounds_toArray, List.set_cons_zero, List.set_cons_succ]
          refine wpAnyZ_any (i := 7) (oi := ⟨some 32, _, _, _, _, _⟩) (v := .int .i64 ((i % 4 : Nat) : Int)) rfl (by kernel_rfl) (by kernel_rfl) (by kernel_rfl) (by kernel_rfl) (fun _ _ _ h => h) (Or.inl ⟨by kernel_rfl, fun w' _ => ?_⟩) ⟨.inr hS.1, .inr hS.2⟩ ?_
          · (go_simp; try first | exact Int.tmod_eq_emod_of_nonneg (by omega) | exact IntWalk.i64_in _ (by omega) | (rw [Int.tdiv_eq_ediv_of_nonneg (by omega)]; exact IntWalk.i64_in _ (by omega)) | (rw [Int.tmod_eq_emod_of_nonneg (by omega)]; exact IntWalk.i64_in _ (by omega)))
          simp only [Act.put, List.setIfInBounds_toArray, List.set_cons_zero, List.set_cons_succ]
          refine wpAnyZ_any (i := 8) (oi := ⟨some 33, _, _, _, _, _⟩) (v := .int .i64 (4 * ((i % 4 : Nat) : Int))) rfl (by kernel_rfl) (by kernel_rfl) (by kernel_rfl) (by kernel_rfl) (fun _ _ _ h => h) (Or.inl ⟨by kernel_rfl, fun w' _ => ?_⟩) ⟨.inr hS.1, .inr hS.2⟩ ?_
          · (go_simp; try first | exact Int.tmod_eq_emod_of_nonneg (by omega) | exact IntWalk.i64_in _ (by omega) | (rw [Int.tdiv_eq_ediv_of_nonneg (by omega)]; exact IntWalk.i64_in _ (by omega)) | (rw [Int.tmod_eq_emod_of_nonneg (by omega)]; exact IntWalk.i64_in _ (by omega)))
          simp only [Act.put, List.setIfInBounds_toArray, List.set_cons_zero, List.set_cons_succ]
          refine wpAnyZ_any (i := 9) (oi := ⟨some 34, _, _, _, _, _⟩) (v := .int .i64 ((i : Int) + 4 * ((i % 4 : Nat) : Int))) rfl (by kernel_rfl) (by kernel_rfl) (by kernel_rfl) (by kernel_rfl) (fun _ _ _ h => h) (Or.inl ⟨by kernel_rfl, fun w' _ => ?_⟩) ⟨.inr hS.1, .inr hS.2⟩ ?_
          · (go_simp; try first | exact Int.tmod_eq_emod_of_nonneg (by omega) | exact IntWalk.i64_in _ (by omega) | (rw [Int.tdiv_eq_ediv_of_nonneg (by omega)]; exact IntWalk.i64_in _ (by omega)) | (rw [Int.tmod_eq_emod_of_nonneg (by omega)]; exact IntWalk.i64_in _ (by omega)))
          simp only [Act.put, List.setIfInBounds_toArray, List.set_cons_zero, List.set_cons_succ]
          refine wpAnyZ_any (i := 10) (oi := ⟨some 35, _, _, _, _, _⟩) (v := .int .i64 (s : Int)) rfl (by kernel_rfl) (by kernel_rfl) (by kernel_rfl) (by kernel_rfl) (fun _ _ _ h => h) (Or.inl ⟨by kernel_rfl, fun w' _ => ?_⟩) ⟨.inr hS.1, .inr hS.2⟩ ?_
          · (go_simp; have h := HS2.out; rw [Int.tmod_eq_emod_of_nonneg (by omega), show ((i : Int) + 4 * ((i : Int) % 4)) % 16 = (s : Int) by omega]; try exact IntWalk.i64_in _ (by omega))
          simp only [Act.put, List.setIfInBounds_toArray, List.set_cons_zero, List.set_cons_succ]
          refine wpAnyZ_any (i := 11) (oi := ⟨some 36, _, _, _, _, _⟩) (v := .pointer (some ⟨w.heap.size, s, none⟩)) rfl (by kernel_rfl) (by kernel_rfl) (by kernel_rfl) (by kernel_rfl) (fun _ _ _ h => h) (Or.inl ⟨by kernel_rfl, fun w' _ => ?_⟩) ⟨.inr hS.1, .inr hS.2⟩ ?_
          · go_simp
          simp only [Act.put, List.setIfInBounds_toArray, List.set_cons_zero, List.set_cons_succ]
          refine wpAnyZ_take (i := 12) (oi := ⟨some 37, _, _, _, _, _⟩) (v := .int .u8 (b : Int)) rfl (by kernel_rfl) (by kernel_rfl) (by kernel_rfl) (by kernel_rfl) (fun _ _ _ h => h) (Or.inl ⟨by kernel_rfl, fun w' hSw => ?_⟩) hS ?_
          · (have c := hSw.cb; go_simp)
          simp only [Act.put, List.setIfInBounds_toArray, List.set_cons_zero, List.set_cons_succ]
          refine wpAnyZ_any (i := 13) (oi := ⟨some 38, _, _, _, _, _⟩) (v := .pointer (some ⟨T, 0, none⟩)) rfl (by kernel_rfl) (by kernel_rfl) (by kernel_rfl) (by kernel_rfl) (fun _ _ _ h => h) (Or.inl ⟨by kernel_rfl, fun w' _ => ?_⟩) ⟨.inr hS.1, .inr hS.2⟩ ?_
          · go_simp
          simp only [Act.put, List.setIfInBounds_toArray, List.set_cons_zero, List.set_cons_succ]
          refine wpAnyZ_any (i := 14) (oi := ⟨some 39, _, _, _, _, _⟩) (v := .pointer (some ⟨T, 0, none⟩)) rfl (by kernel_rfl) (by kernel_rfl) (by kernel_rfl) (by kernel_rfl) (fun _ _ _ h => h) (Or.inl ⟨by kernel_rfl, fun w' _ => ?_⟩) ⟨.inr hS.1, .inr hS.2⟩ ?_
          · go_simp
          simp only [Act.put, List.setIfInBounds_toArray, List.set_cons_zero, List.set_cons_succ]
          refine wpAnyZ_any (i := 15) (oi := ⟨some 40, _, _, _, _, _⟩) (v := .pointer (some ⟨T, b, none⟩)) rfl (by kernel_rfl) (by kernel_rfl) (by kernel_rfl) (by kernel_rfl) (fun _ _ _ h => h) (Or.inl ⟨by kernel_rfl, fun w' _ => ?_⟩) ⟨.inr hS.1, .inr hS.2⟩ ?_
          · go_simp
          simp only [Act.put, List.setIfInBounds_toArray, List.set_cons_zero, List.set_cons_succ]
          refine wpAnyZ_take (i := 16) (oi := ⟨some 41, _, _, _, _, _⟩) (v := .int .u8 (y : Int)) rfl (by kernel_rfl) (by kernel_rfl) (by kernel_rfl) (by kernel_rfl) (fun _ _ _ h => h) (Or.inl ⟨by kernel_rfl, fun w' hSw => ?_⟩) hS ?_
          · (have c := hSw.cy; go_simp)
          simp only [Act.put, List.setIfInBounds_toArray, List.set_cons_zero, List.set_cons_succ]
          refine wpAnyZ_any (i := 17) (oi := ⟨some 42, _, _, _, _, _⟩) (v := .pointer (some ⟨g, i, none⟩)) rfl (by kernel_rfl) (by kernel_rfl) (by kernel_rfl) (by kernel_rfl) (fun _ _ _ h => h) (Or.inl ⟨by kernel_rfl, fun w' _ => ?_⟩) ⟨.inr hS.1, .inr hS.2⟩ ?_
          · go_simp
          simp only [Act.put, List.setIfInBounds_toArray, List.set_cons_zero, List.set_cons_succ]
          refine wpAnyZ_one (i := 18) (o := ⟨none, _, _, _, _, _⟩) (by kernel_rfl) rfl (by kernel_rfl) (fun K hK => ?_)
          have c := hS.1.cg
          have hfz := hS.1.fg
          go_simp
          refine hK.out _ _ ⟨.inl (show _ = true by kernel_rfl), .inl (show _ = true by kernel_rfl)⟩ ?_
          clear hK K hS
          refine wpAnyZ_done (by kernel_rfl) ?_ _
          go_wp2_with fail
          go_roundw
          case rel =>
            refine ⟨i + 1, upd h i y, by go_num, by omega, ⟨fun j => ?_⟩, (Arr.set hn).drew, (ha.far (show w.heap.size ≠ g by omega) _).drew, (hz.far (show w.heap.size + 1 ≠ g by omega) _).drew, (hbel.setCell (show w.heap.size ≤ g by omega) _).drew, ?_⟩
            · unfold upd
              by_cases e1 : j = i
              · subst e1; rw [if_pos rfl, if_pos (by omega)]; exact HY.out
              · rw [if_neg e1, H.out j]
                by_cases hjk : j < i
                · rw [if_pos hjk, if_pos (by omega)]
                · rw [if_neg hjk, if_neg (by omega)]
            · show _ ≤ (wr.setCell _ _).heap.size
              rw [World.size_setCell]; exact hsz
          case measure => simp [intOf]; omega
end Go.Proofs.Ytibfihjcjohadaa
/- The walk of the cipher's Decrypt: what a block is decrypted to; nothing that was there is written. -/
namespace Go.Proofs.Ytibfihjcjohadaa
open Go.RowKit Go.Op
open Sbx (sub sub_lt back back_lt)
open Aes (mx un mixF mixF_lt subF subF_lt backF backF_lt addF addF_lt bwd bwd_lt decR decR_lt dec shI shI_lt unI unI_lt sh_un un_sh)
/-- what the region reads that puts a byte back in another's place -/
structure S60 (B s C T b y g i : Nat) (w' : World) : Prop where
  ct : w'.cell? ⟨C, 0, none⟩ = some (.pointer (some ⟨T, 0, none⟩))
  cb : w'.cell? ⟨B, i, none⟩ = some (.int .u8 (b : Int))
  cy : w'.cell? ⟨T, 256 + b, none⟩ = some (.int .u8 (y : Int))
  cg : w'.cell? ⟨g, s, none⟩ = some (.int .u8 0)
  fg : w'.frozen? ⟨g, s, none⟩ = false
set_option maxRecDepth 100000 in
set_option maxHeartbeats 8000000 in
theorem decrypt_walk (C N : Nat) (ws : List Nat) (W : Nat → Nat) (hW : (fun i => ws.getD i 0) = W) (f : Nat → Nat) (hf : ∀ i, f i < 256) (w : World) (hC : Ciph w C ws) (hN : ws.length = 4 * (N + 1)) (h1 : 1 ≤ N) (h9 : N ≤ 100) :
    Calls Try.prog 60 #[.pointer (some ⟨C, 0, none⟩), .agg (bv f)] w fun e w' => e = .returned (.agg (bv (addF W 0 (decR W N f N)))) ∧ Below w.heap.size w w' := by
  have HF := Box.mk hf
  have HC := Box.mk hC
  have HN := Box.mk hN
  have hlt : C < w.heap.size := by obtain ⟨_, _, _, h, _⟩ := hC; exact h.lt
  have HR : Box (∀ w1, Ciph w1 C ws → Calls Try.prog 65 #[.pointer (some ⟨C, 0, none⟩)] w1 fun e w' => e = .returned (.int .i64 (N : Int)) ∧ w1 = w') := ⟨fun w1 h => by
    have := rounds_any C ws w1 h (by omega) (by omega)
    rwa [hN, show 4 * (N + 1) / 4 - 1 = N by omega] at this⟩
  have HA : Box (∀ (r : Nat) (g : Nat → Nat) (w1 : World), (∀ i, g i < 256) → r ≤ N → Ciph w1 C ws → Calls Try.prog 83 #[.pointer (some ⟨C, 0, none⟩), .agg (bv g), .int .i64 (r : Int)] w1 fun e w' => e = .returned (.agg (bv (addF W r g))) ∧ Below w1.heap.size w1 w') := ⟨fun r g w1 hg hr h => by
    rw [← hW]; exact add_walk C r ws g hg w1 h (by omega) (by omega)⟩
  have ha0 : Arr ((w.alloc (.cells (bv f) 36)).alloc (.cells #[.int .u8 0, .int .u8 0, .int .u8 0, .int .u8 0, .int .u8 0, .int .u8 0, .int .u8 0, .int .u8 0, .int .u8 0, .int .u8 0, .int .u8 0, .int .u8 0, .int .u8 0, .int .u8 0, .int .u8 0, .int .u8 0] 36)) w.heap.size f := (Arr.new _ _ _ rfl).alloc _
  have hz0 : Arr ((w.alloc (.cells (bv f) 36)).alloc (.cells #[.int .u8 0, .int .u8 0, .int .u8 0, .int .u8 0, .int .u8 0, .int .u8 0, .int .u8 0, .int .u8 0, .int .u8 0, .int .u8 0, .int .u8 0, .int .u8 0, .int .u8 0, .int .u8 0, .int .u8 0, .int .u8 0] 36)) (w.heap.size + 1) (fun _ => 0) := Arr.zero _ _ (by simp)
  have hb0 : Below w.heap.size w ((w.alloc (.cells (bv f) 36)).alloc (.cells #[.int .u8 0, .int .u8 0, .int .u8 0, .int .u8 0, .int .u8 0, .int .u8 0, .int .u8 0, .int .u8 0, .int .u8 0, .int .u8 0, .int .u8 0, .int .u8 0, .int .u8 0, .int .u8 0, .int .u8 0, .int .u8 0] 36)) := ((Below.refl _ _).alloc (Nat.le_refl _) _).alloc (by simp) _
  have hs0 : w.heap.size + 2 ≤ ((w.alloc (.cells (bv f) 36)).alloc (.cells #[.int .u8 0, .int .u8 0, .int .u8 0, .int .u8 0, .int .u8 0, .int .u8 0, .int .u8 0, .int .u8 0, .int .u8 0, .int .u8 0, .int .u8 0, .int .u8 0, .int .u8 0, .int .u8 0, .int .u8 0, .int .u8 0] 36)).heap.size := by simp
  have hnz : ((N : Int) == 0) = false := by simp; omega
  clear hf hC hN hW
  go_enter Try.func60, Try.ntmps60
  go_wp2_with fail
  revert ha0 hz0 hb0 hs0
  generalize (w.alloc (.cells (bv f) 36)).alloc (.cells #[.int .u8 0, .int .u8 0, .int .u8 0, .int .u8 0, .int .u8 0, .int .u8 0, .int .u8 0, .int .u8 0, .int .u8 0, .int .u8 0, .int .u8 0, .int .u8 0, .int .u8 0, .int .u8 0, .int .u8 0, .int .u8 0] 36) = w1
  intro ha0 hz0 hb0 hs0
  refine (HR.out _ (HC.out.below hb0)).mono ?_
  rintro e w' ⟨rfl, rfl⟩
  go_wp2_with fail
  go_loopw [6, 7, 8, 34] (fun r _p _q _i wr => ∃ (k m : Nat), r = .int .i64 (m : Int) ∧ m + k = N ∧ Arr wr w.heap.size (decR W N f k) ∧ Arr wr (w.heap.size + 1) (fun _ => 0) ∧ Below w.heap.size w wr ∧ w.heap.size + 2 ≤ wr.heap.size) (fun r _ _ _ _ => (intOf r).toNat)
  case atStart => exact ⟨0, N, rfl, by omega, ha0, hz0, hb0, hs0⟩
  case round =>
    obtain ⟨k, m, rfl, hk, ha, hz, hbel, hsz⟩ := hrel
    clear ha0 hz0 hb0 hs0 w1
    have hEl : Box (∀ i, decR W N f k i < 256) := ⟨decR_lt HF.out k⟩
    cases m with
    | zero =>
      have hk : k = N := by omega
      subst hk
      simp only [show ((0 : Nat) : Int) = 0 from rfl]
      obtain ⟨e, he⟩ : ∃ e, decR W k f k = e := ⟨_, rfl⟩
      rw [he] at ha hEl
      have HE := Box.mk he
      clear he
      go_wp2_with (first
        | ((with_reducible show wpList _ _ _ (⟨some 58, Op.load 36 (.tmp 3), _, _, _, _⟩ :: _) _ _); refine wp_load_arr rfl (.tmp 3) rfl (w.heap.size) (e) rfl (ha) ?_))
      refine (HA.out 0 e _ hEl.out (Nat.zero_le _) (HC.out.below hbel)).mono ?_
      rintro e1 w2 ⟨rfl, hb2⟩
      have hz2 := hz.below hb2 hz.lt
      have hbel2 := hbel.trans (hb2.mono (by omega))
      clear hbel hb2
      go_wp2_with (first
        | ((with_reducible show wpList _ _ _ (⟨_, Op.store 36 (.tmp 4) (.tmp 59), _, _, _, _⟩ :: _) _ _); refine wp_store_arr rfl (.tmp 4) (.tmp 59) rfl (w.heap.size + 1) (fun _ => 0) (addF W 0 e) rfl rfl (hz2) ?_))
      exact bodyPost_ret (results_arr rfl _ _ (w.heap.size + 1) (addF W 0 e) rfl hz2.setRow) rfl ⟨by rw [HE.out], below_setRow hbel2 (by omega) _⟩
    | succ m =>
      have hgt : ((m + 1 : Nat) : Int) > 0 := by omega
      obtain ⟨e, he⟩ : ∃ e, decR W N f k = e := ⟨_, rfl⟩
      rw [he] at ha hEl
      have HE := Box.mk he
      clear he
      have hq := HA.out (m + 1) e wr hEl.out (by omega) (HC.out.below hbel)
      have HEQ : Box (m + 1 = N - k) := ⟨by omega⟩
      obtain ⟨a, hA⟩ : ∃ a, addF W (m + 1) e = a := ⟨_, rfl⟩
      rw [hA] at hq
      have HAL : Box (∀ i, a i < 256) := ⟨by rw [← hA]; exact addF_lt hEl.out⟩
      have HAE := Box.mk hA
      clear hA
      have hm1 : (((m + 1 : Nat) : Int)) = (m : Int) + 1 := by omega
      rw [hm1] at hgt hq ⊢
      go_wp2_with (first
        | ((with_reducible show wpList _ _ _ (⟨some 20, Op.load 36 (.tmp 3), _, _, _, _⟩ :: _) _ _); refine wp_load_arr rfl (.tmp 3) rfl (w.heap.size) (e) rfl (ha) ?_))
      refine hq.mono ?_
      rintro e6 w6 ⟨rfl, hb6⟩
      have ha6 := ha.below hb6 ha.lt
      have hz6 := hz.below hb6 hz.lt
      have hs6 := hb6.size
      have hbel6 := hbel.trans (hb6.mono (by omega))
      have ha := ha6.setRow (h := a)
      have hz := hz6.setRow_far (g' := w.heap.size) (c := bv a) (by omega)
      have hbel := below_setRow hbel6 (Nat.le_refl _) (bv a)
      have hsz : w.heap.size + 2 ≤ (w6.setRow w.heap.size (bv a)).heap.size := by simp only [setRow_size]; omega
      by_cases hl : m + 1 < N
      · have hl' : (m : Int) + 1 < (N : Int) := by omega
        go_wp2_with (first
          | ((with_reducible show wpList _ _ _ (⟨_, Op.store 36 (.tmp 3) (.tmp 22), _, _, _, _⟩ :: _) _ _); refine wp_store_arr rfl (.tmp 3) (.tmp 22) rfl (w.heap.size) (e) (a) rfl rfl (ha6) ?_))
        clear ha6 hz6 hs6 hbel6 hb6
        revert ha hz hbel hsz
        generalize w6.setRow w.heap.size (bv a) = wr
        intro ha hz hbel hsz
        have HNEW : Box (backF (mixF un a) = decR W N f (k + 1)) := ⟨by show _ = bwd N (N - k) (addF W (N - k) (decR W N f k)); rw [HE.out, ← HEQ.out, HAE.out]; unfold bwd; rw [if_pos hl]⟩
        have HX : Box (∀ i, mixF un a i < 256) := ⟨mixF_lt HAL.out⟩
        clear hl
        obtain ⟨T, A, c, g1, g2, g3⟩ := HC.out.below hbel
        have hSS : S615 C T w.heap.size a wr.drew := ⟨g1.tab, g2, ha, g1.lt⟩
        clear g1 g2 g3
        refine wp_region_Z 8 8 (S615 C T w.heap.size a) (fun _ => True) (by kernel_rfl) ?_
        have hS : _ ∧ True := ⟨hSS, trivial⟩
        refine wpAnyZ_take (i := 0) (oi := ⟨some 26, _, _, _, _, _⟩) (v := .agg (bv (a))) rfl (by kernel_rfl) (by kernel_rfl) (by kernel_rfl) (by kernel_rfl) (fun _ _ _ h => h) (yields_arr (by kernel_rfl) (.tmp 3) rfl (w.heap.size) (a) rfl (fun _ h => h.arr)) hS ?_
        simp only [Act.put, List.setIfInBounds_toArray, List.set_cons_zero, List.set_cons_succ]
        refine wpAnyZ_any (i := 1) (oi := ⟨some 27, _, _, _, _, _⟩) (v := .pointer (some ⟨C, 0, none⟩)) rfl (by kernel_rfl) (by kernel_rfl) (by kernel_rfl) (by kernel_rfl) (fun _ _ _ h => h) (Or.inl ⟨by kernel_rfl, fun w' _ => ?_⟩) ⟨.inr hS.1, .inr hS.2⟩ ?_
        · go_simp
        simp only [Act.put, List.setIfInBounds_toArray, List.set_cons_zero, List.set_cons_succ]
        refine wpAnyZ_any (i := 2) (oi := ⟨some 28, _, _, _, _, _⟩) (v := .pointer (some ⟨C, 0, none⟩)) rfl (by kernel_rfl) (by kernel_rfl) (by kernel_rfl) (by kernel_rfl) (fun _ _ _ h => h) (Or.inl ⟨by kernel_rfl, fun w' _ => ?_⟩) ⟨.inr hS.1, .inr hS.2⟩ ?_
        · go_simp
        simp only [Act.put, List.setIfInBounds_toArray, List.set_cons_zero, List.set_cons_succ]
        refine wpAnyZ_any (i := 3) (oi := ⟨some 29, _, _, _, _, _⟩) (v := .pointer (some ⟨C, 0, none⟩)) rfl (by kernel_rfl) (by kernel_rfl) (by kernel_rfl) (by kernel_rfl) (fun _ _ _ h => h) (Or.inl ⟨by kernel_rfl, fun w' _ => ?_⟩) ⟨.inr hS.1, .inr hS.2⟩ ?_
        · go_simp
        simp only [Act.put, List.setIfInBounds_toArray, List.set_cons_zero, List.set_cons_succ]
        refine wpAnyZ_take (i := 4) (oi := ⟨some 30, _, _, _, _, _⟩) (v := .pointer (some ⟨T, 0, none⟩)) rfl (by kernel_rfl) (by kernel_rfl) (by kernel_rfl) (by kernel_rfl) (fun _ _ _ h => h) (Or.inl ⟨by kernel_rfl, fun w' hSw => ?_⟩) hS ?_
        · (have c := hSw.ct; go_simp)
        simp only [Act.put, List.setIfInBounds_toArray, List.set_cons_zero, List.set_cons_succ]
        refine wpAnyZ_any (i := 5) (oi := ⟨some 31, _, _, _, _, _⟩) (v := .pointer (some ⟨T, 0, none⟩)) rfl (by kernel_rfl) (by kernel_rfl) (by kernel_rfl) (by kernel_rfl) (fun _ _ _ h => h) (Or.inl ⟨by kernel_rfl, fun w' _ => ?_⟩) ⟨.inr hS.1, .inr hS.2⟩ ?_
        · go_simp
        simp only [Act.put, List.setIfInBounds_toArray, List.set_cons_zero, List.set_cons_succ]
        refine wpAnyZ_any (i := 6) (oi := ⟨some 32, _, _, _, _, _⟩) (v := .pointer (some ⟨T, 1536, none⟩)) rfl (by kernel_rfl) (by kernel_rfl) (by kernel_rfl) (by kernel_rfl) (fun _ _ _ h => h) (Or.inl ⟨by kernel_rfl, fun w' _ => ?_⟩) ⟨.inr hS.1, .inr hS.2⟩ ?_
        · go_simp
        simp only [Act.put, List.setIfInBounds_toArray, List.set_cons_zero, List.set_cons_succ]
        refine wpAnyZ_one (i := 7) (o := ⟨some 33, _, _, _, _, _⟩) (by kernel_rfl) rfl (by kernel_rfl) (fun K hK => ?_)
        go_simp
        refine (columns_walk T 1536 un a HAL.out _ hS.1.tab.undo).mono ?_
        rintro e5 w5 ⟨rfl, hb5⟩
        have hS := (show _ ∧ True from ⟨hS.1.below hb5, trivial⟩)
        refine hK.out _ _ ⟨.inr hS.1, .inr hS.2⟩ ?_
        clear hK K
        refine wpAnyZ_one (i := 8) (o := ⟨none, _, _, _, _, _⟩) (by kernel_rfl) rfl (by kernel_rfl) (fun K hK => ?_)
        refine wpo_store_arr (.tmp 3) (.tmp 33) rfl w.heap.size a (mixF un a) rfl rfl hS.1.arr ?_
        refine hK.out _ _ ⟨.inl (show _ = true by kernel_rfl), .inl (show _ = true by kernel_rfl)⟩ ?_
        clear hK K hS
        refine wpAnyZ_done (by kernel_rfl) ?_ _
        have ha5 := ha.drew.below hb5 ha.lt
        have hz5 := hz.drew.below hb5 hz.lt
        have hs5 : wr.heap.size ≤ w5.heap.size := hb5.size
        have hbel5 := hbel.drew.trans (hb5.mono (show w.heap.size ≤ wr.heap.size by omega))
        obtain ⟨x, hx⟩ : ∃ x, mixF un a = x := ⟨_, rfl⟩
        rw [hx] at HNEW HX ⊢
        clear hx
        have ha := ha5.setRow (h := x)
        have hz := hz5.setRow_far (g' := w.heap.size) (c := bv x) (by omega)
        have hbel := below_setRow hbel5 (Nat.le_refl _) (bv x)
        have hsz : w.heap.size + 2 ≤ (w5.setRow w.heap.size (bv x)).heap.size := by simp only [setRow_size]; omega
        clear ha5 hz5 hs5 hbel5 hb5 hSS
        revert ha hz hbel hsz
        generalize w5.setRow w.heap.size (bv x) = wr
        intro ha hz hbel hsz
        have hn3 : Arr (wr.alloc (.cells #[.int .u8 0, .int .u8 0, .int .u8 0, .int .u8 0, .int .u8 0, .int .u8 0, .int .u8 0, .int .u8 0, .int .u8 0, .int .u8 0, .int .u8 0, .int .u8 0, .int .u8 0, .int .u8 0, .int .u8 0, .int .u8 0] 36)) wr.heap.size (fun _ => 0) := Arr.zero _ _ rfl
        have ha3 := ha.alloc (.cells #[.int .u8 0, .int .u8 0, .int .u8 0, .int .u8 0, .int .u8 0, .int .u8 0, .int .u8 0, .int .u8 0, .int .u8 0, .int .u8 0, .int .u8 0, .int .u8 0, .int .u8 0, .int .u8 0, .int .u8 0, .int .u8 0] 36)
        have hz3 := hz.alloc (.cells #[.int .u8 0, .int .u8 0, .int .u8 0, .int .u8 0, .int .u8 0, .int .u8 0, .int .u8 0, .int .u8 0, .int .u8 0, .int .u8 0, .int .u8 0, .int .u8 0, .int .u8 0, .int .u8 0, .int .u8 0, .int .u8 0] 36)
        have hb3 : Below w.heap.size w (wr.alloc (.cells #[.int .u8 0, .int .u8 0, .int .u8 0, .int .u8 0, .int .u8 0, .int .u8 0, .int .u8 0, .int .u8 0, .int .u8 0, .int .u8 0, .int .u8 0, .int .u8 0, .int .u8 0, .int .u8 0, .int .u8 0, .int .u8 0] 36)) := hbel.alloc (by omega) _
        have hs3 : w.heap.size + 2 ≤ (wr.alloc (.cells #[.int .u8 0, .int .u8 0, .int .u8 0, .int .u8 0, .int .u8 0, .int .u8 0, .int .u8 0, .int .u8 0, .int .u8 0, .int .u8 0, .int .u8 0, .int .u8 0, .int .u8 0, .int .u8 0, .int .u8 0, .int .u8 0] 36)).heap.size := by simp; omega
        go_wp2_with fail
        revert hn3 ha3 hz3 hb3 hs3
        generalize wr.alloc (.cells #[.int .u8 0, .int .u8 0, .int .u8 0, .int .u8 0, .int .u8 0, .int .u8 0, .int .u8 0, .int .u8 0, .int .u8 0, .int .u8 0, .int .u8 0, .int .u8 0, .int .u8 0, .int .u8 0, .int .u8 0, .int .u8 0] 36) = w3
        obtain ⟨g, hg⟩ : ∃ g, g = wr.heap.size := ⟨_, rfl⟩
        rw [← hg]
        have hgs : w.heap.size + 2 ≤ g := by omega
        intro hn3 ha3 hz3 hb3 hs3
        clear ha hz hbel hsz hg
        go_loopw [8, 34] (fun _q i w4 => ∃ (i' : Nat) (h : Nat → Nat), i = .int .i64 (i' : Int) ∧ i' ≤ 16 ∧ Box (∀ j, j < 16 → h j = if unI j < i' then backF x j else 0) ∧ Arr w4 g h ∧ Arr w4 w.heap.size x ∧ Arr w4 (w.heap.size + 1) (fun _ => 0) ∧ Below w.heap.size w w4 ∧ w.heap.size + 2 ≤ w4.heap.size) (fun _ i _ => 16 - (intOf i).toNat)
        case atStart => exact ⟨0, _, rfl, by omega, ⟨fun j _ => by simp⟩, hn3, ha3, hz3, hb3, hs3⟩
        case round =>
          obtain ⟨i, h, rfl, hi, H, hn, ha, hz, hbel, hsz⟩ := hrel
          clear hn3 ha3 hz3 hb3 hs3 w3
          by_cases hi6 : i = 16
          · subst hi6
            have hn2 : Arr wr g (backF x) := hn.congr (fun j hj => by rw [H.out j hj, if_pos (unI_lt j)])
            clear hn H
            have hn4 := hn2.setRow_far (g' := w.heap.size) (c := bv (backF x)) (by omega)
            have ha4 := ha.setRow (h := backF x)
            have hz4 := hz.setRow_far (g' := w.heap.size) (c := bv (backF x)) (by omega)
            go_wp2_with (first
                | ((with_reducible show wpList _ _ _ (⟨some 56, Op.load 36 (.tmp 7), _, _, _, _⟩ :: _) _ _); refine wp_load_arr rfl (.tmp 7) rfl (g) (backF x) rfl (hn2) ?_)
                | ((with_reducible show wpList _ _ _ (⟨_, Op.store 36 (.tmp 3) (.tmp 56), _, _, _, _⟩ :: _) _ _); refine wp_store_arr rfl (.tmp 3) (.tmp 56) rfl (w.heap.size) (x) (backF x) rfl rfl (ha) ?_))
            go_roundw
            case rel =>
              refine ⟨k + 1, m, by go_num, by omega, ?_, hz4, below_setRow hbel (Nat.le_refl _) _, by simp only [setRow_size]; omega⟩
              rw [← HNEW.out]
              exact ha4
            case measure => simp [intOf]
          · have hi2 : i < 16 := by omega
            clear hi6
            obtain ⟨T, A, c, g1, g2, g3⟩ := HC.out.below hbel
            obtain ⟨s, hs⟩ : ∃ s, s = shI i := ⟨_, rfl⟩
            have hsl : s < 16 := by rw [hs]; exact shI_lt i
            have hus : unI s = i := by rw [hs]; exact un_sh hi2
            have HS2 : Box (s = (i + 4 * (i % 4)) % 16) := ⟨hs⟩
            obtain ⟨b, hb⟩ : ∃ b, x i = b := ⟨_, rfl⟩
            have hbl : b < 256 := by rw [← hb]; exact HX.out i
            obtain ⟨y, hy⟩ : ∃ y, back b = y := ⟨_, rfl⟩
            have HY : Box (y = backF x s) := ⟨by unfold backF; rw [hus, hb, hy]⟩
            have HU : Box (∀ j, j < 16 → j ≠ s → unI j ≠ i) := ⟨fun j hj hn he => hn (by rw [hs, ← he, sh_un hj])⟩
            have HUS := Box.mk hus
            have cb := ha.cell hi2
            rw [hb] at cb
            have cy := g2.back_ hbl
            rw [hy] at cy
            have cg := hn.cell hsl
            rw [H.out s hsl, hus, if_neg (by omega)] at cg
            have hSS : S60 w.heap.size s C T b y g i wr.drew := ⟨g1.tab, cb, cy, cg, hn.free s⟩
            have hs0 : (0 : Int) ≤ (s : Int) := by omega
            have hs1 : (s : Int) < 16 := by omega
            have hs2 : ¬ 16 ≤ s := by omega
            have hb0 : (0 : Int) ≤ (b : Int) := by omega
            have hb1 : (b : Int) < 256 := by omega
            clear hs hb hy cb cy cg g1 g2 g3 hus
            go_wp2_with fail
            refine wp_region_Z 18 18 (S60 w.heap.size s C T b y g i) (fun _ => True) (by kernel_rfl) ?_
            have hS : _ ∧ True := ⟨hSS, trivial⟩
            refine wpAnyZ_any (i := 0) (oi := ⟨some 37, _, _, _, _, _⟩) (v := .int .i64 (i : Int)) rfl (by kernel_rfl) (by kernel_rfl) (by kernel_rfl) (by kernel_rfl) (fun _ _ _ h => h) (Or.inl ⟨by kernel_rfl, fun w' _ => ?_⟩) ⟨.inr hS.1, .inr hS.2⟩ ?_
            · go_simp
            simp only [Act.put, List.setIfInBounds_toArray, List.set_cons_zero, List.set_cons_succ]
            refine wpAnyZ_any (i := 1) (oi := ⟨some 38, _, _, _, _, _⟩) (v := .int .i64 (i : Int)) rfl (by kernel_rfl) (by kernel_rfl) (by kernel_rfl) (by kernel_rfl) (fun _ _ _ h => h) (Or.inl ⟨by kernel_rfl, fun w' _ => ?_⟩) ⟨.inr hS.1, .inr hS.2⟩ ?_
            · go_simp
            simp only [Act.put, List.setIfInBounds_toArray, List.set_cons_zero, List.set_cons_succ]
            refine wpAnyZ_any (i := 2) (oi := ⟨some 39, _, _, _, _, _⟩) (v := .int .i64 ((i % 4 : Nat) : Int)) rfl (by kernel_rfl) (by kernel_rfl) (by kernel_rfl) (by kernel_rfl) (fun _ _ _ h => h) (Or.inl ⟨by kernel_rfl, fun w' _ => ?_⟩) ⟨.inr hS.1, .inr hS.2⟩ ?_
            · (go_simp; try first | exact Int.tmod_eq_emod_of_nonneg (by omega) | exact IntWalk.i64_in _ (by omega) | (rw [Int.tdiv_eq_ediv_of_nonneg (by omega)]; exact IntWalk.i64_in _ (by omega)) | (rw [Int.tmod_eq_emod_of_nonneg (by omega)]; exact IntWalk.i64_in _ (by omega)))
            simp only [Act.put, List.setIfInBounds_toArray, List.set_cons_zero, List.set_cons_succ]
            refine wpAnyZ_any (i := 3) (oi := ⟨some 40, _, _, _, _, _⟩) (v := .int .i64 (4 * ((i % 4 : Nat) : Int))) rfl (by kernel_rfl) (by kernel_rfl) (by kernel_rfl) (by kernel_rfl) (fun _ _ _ h => h) (Or.inl ⟨by kernel_rfl, fun w' _ => ?_⟩) ⟨.inr hS.1, .inr hS.2⟩ ?_
            · (go_simp; try first | exact Int.tmod_eq_emod_of_nonneg (by omega) | exact IntWalk.i64_in _ (by omega) | (rw [Int.tdiv_eq_ediv_of_nonneg (by omega)]; exact IntWalk.i64_in _ (by omega)) | (rw [Int.tmod_eq_emod_of_nonneg (by omega)]; exact IntWalk.i64_in _ (by omega)))
            simp only [Act.put, List.setIfInBounds_toArray, List.set_cons_zero, List.set_cons_succ]
            refine wpAnyZ_any (i := 4) (oi := ⟨some 41, _, _, _, _, _⟩) (v := .int .i64 ((i : Int) + 4 * ((i % 4 : Nat) : Int))) rfl (by kernel_rfl) (by kernel_rfl) (by kernel_rfl) (by kernel_rfl) (fun _ _ _ h => h) (Or.inl ⟨by kernel_rfl, fun w' _ => ?_⟩) ⟨.inr hS.1, .inr hS.2⟩ ?_
            · (go_simp; try first | exact Int.tmod_eq_emod_of_nonneg (by omega) | exact IntWalk.i64_in _ (by omega) | (rw [Int.tdiv_eq_ediv_of_nonneg (by omega)]; exact IntWalk.i64_in _ (by omega)) | (rw [Int.tmod_eq_emod_of_nonneg (by omega)]; exact IntWalk.i64_in _ (by omega)))
            simp only [Act.put, List.setIfInBounds_toArray, List.set_cons_zero, List.set_cons_succ]
            refine wpAnyZ_any (i := 5) (oi := ⟨some 42, _, _, _, _, _⟩) (v := .int .i64 (s : Int)) rfl (by kernel_rfl) (by kernel_rfl) (by kernel_rfl) (by kernel_rfl) (fun _ _ _ h => h) (Or.inl ⟨by kernel_rfl, fun w' _ => ?_⟩) ⟨.inr hS.1, .inr hS.2⟩ ?_
            · (go_simp; have h := HS2.out; rw [Int.tmod_eq_emod_of_nonneg (by omega), show ((i : Int) + 4 * ((i : Int) % 4)) % 16 = (s : Int) by omega]; try exact IntWalk.i64_in _ (by omega))
            simp only [Act.put, List.setIfInBounds_toArray, List.set_cons_zero, List.set_cons_succ]
            refine wpAnyZ_any (i := 6) (oi := ⟨some 43, _, _, _, _, _⟩) (v := .pointer (some ⟨C, 0, none⟩)) rfl (by kernel_rfl) (by kernel_rfl) (by kernel_rfl) (by kernel_rfl) (fun _ _ _ h => h) (Or.inl ⟨by kernel_rfl, fun w' _ => ?_⟩) ⟨.inr hS.1, .inr hS.2⟩ ?_
            · go_simp
            simp only [Act.put, List.setIfInBounds_toArray, List.set_cons_zero, List.set_cons_succ]
            refine wpAnyZ_any (i := 7) (oi := ⟨some 44, _, _, _, _, _⟩) (v := .pointer (some ⟨C, 0, none⟩)) rfl (by kernel_rfl) (by kernel_rfl) (by kernel_rfl) (by kernel_rfl) (fun _ _ _ h => h) (Or.inl ⟨by kernel_rfl, fun w' _ => ?_⟩) ⟨.inr hS.1, .inr hS.2⟩ ?_
            · go_simp
            simp only [Act.put, List.setIfInBounds_toArray, List.set_cons_zero, List.set_cons_succ]
            refine wpAnyZ_any (i := 8) (oi := ⟨some 45, _, _, _, _, _⟩) (v := .pointer (some ⟨C, 0, none⟩)) rfl (by kernel_rfl) (by kernel_rfl) (by kernel_rfl) (by kernel_rfl) (fun _ _ _ h => h) (Or.inl ⟨by kernel_rfl, fun w' _ => ?_⟩) ⟨.inr hS.1, .inr hS.2⟩ ?_
            · go_simp
            simp only [Act.put, List.setIfInBounds_toArray, List.set_cons_zero, List.set_cons_succ]
            refine wpAnyZ_take (i := 9) (oi := ⟨some 46, _, _, _, _, _⟩) (v := .pointer (some ⟨T, 0, none⟩)) rfl (by kernel_rfl) (by kernel_rfl) (by kernel_rfl) (by kernel_rfl) (fun _ _ _ h => h) (Or.inl ⟨by kernel_rfl, fun w' hSw => ?_⟩) hS ?_
            · (have c := hSw.ct; go_simp)
            simp only [Act.put, List.setIfInBounds_toArray, List.set_cons_zero, List.set_cons_succ]
            refine wpAnyZ_any (i := 10) (oi := ⟨some 47, _, _, _, _, _⟩) (v := .int .i64 (i : Int)) rfl (by kernel_rfl) (by kernel_rfl) (by kernel_rfl) (by kernel_rfl) (fun _ _ _ h => h) (Or.inl ⟨by kernel_rfl, fun w' _ => ?_⟩) ⟨.inr hS.1, .inr hS.2⟩ ?_
            · go_simp
            simp only [Act.put, List.setIfInBounds_toArray, List.set_cons_zero, List.set_cons_succ]
            refine wpAnyZ_any (i := 11) (oi := ⟨some 48, _, _, _, _, _⟩) (v := .pointer (some ⟨w.heap.size, i, none⟩)) rfl (by kernel_rfl) (by kernel_rfl) (by kernel_rfl) (by kernel_rfl) (fun _ _ _ h => h) (Or.inl ⟨by kernel_rfl, fun w' _ => ?_⟩) ⟨.inr hS.1, .inr hS.2⟩ ?_
            · go_simp
            simp only [Act.put, List.setIfInBounds_toArray, List.set_cons_zero, List.set_cons_succ]
            refine wpAnyZ_take (i := 12) (oi := ⟨some 49, _, _, _, _, _⟩) (v := .int .u8 (b : Int)) rfl (by kernel_rfl) (by kernel_rfl) (by kernel_rfl) (by kernel_rfl) (fun _ _ _ h => h) (Or.inl ⟨by kernel_rfl, fun w' hSw => ?_⟩) hS ?_
            · (have c := hSw.cb; go_simp)
            simp only [Act.put, List.setIfInBounds_toArray, List.set_cons_zero, List.set_cons_succ]
            refine wpAnyZ_any (i := 13) (oi := ⟨some 50, _, _, _, _, _⟩) (v := .pointer (some ⟨T, 0, none⟩)) rfl (by kernel_rfl) (by kernel_rfl) (by kernel_rfl) (by kernel_rfl) (fun _ _ _ h => h) (Or.inl ⟨by kernel_rfl, fun w' _ => ?_⟩) ⟨.inr hS.1, .inr hS.2⟩ ?_
            · go_simp
            simp only [Act.put, List.setIfInBounds_toArray, List.set_cons_zero, List.set_cons_succ]
            refine wpAnyZ_any (i := 14) (oi := ⟨some 51, _, _, _, _, _⟩) (v := .pointer (some ⟨T, 256, none⟩)) rfl (by kernel_rfl) (by kernel_rfl) (by kernel_rfl) (by kernel_rfl) (fun _ _ _ h => h) (Or.inl ⟨by kernel_rfl, fun w' _ => ?_⟩) ⟨.inr hS.1, .inr hS.2⟩ ?_
            · go_simp
            simp only [Act.put, List.setIfInBounds_toArray, List.set_cons_zero, List.set_cons_succ]
            refine wpAnyZ_any (i := 15) (oi := ⟨some 52, _, _, _, _, _⟩) (v := .pointer (some ⟨T, 256 + b, none⟩)) rfl (by kernel_rfl) (by kernel_rfl) (by kernel_rfl) (by kernel_rfl) (fun _ _ _ h => h) (Or.inl ⟨by kernel_rfl, fun w' _ => ?_⟩) ⟨.inr hS.1, .inr hS.2⟩ ?_
            · go_simp
            simp only [Act.put, List.setIfInBounds_toArray, List.set_cons_zero, List.set_cons_succ]
            refine wpAnyZ_take (i := 16) (oi := ⟨some 53, _, _, _, _, _⟩) (v := .int .u8 (y : Int)) rfl (by kernel_rfl) (by kernel_rfl) (by kernel_rfl) (by kernel_rfl) (fun _ _ _ h => h) (Or.inl ⟨by kernel_rfl, fun w' hSw => ?_⟩) hS ?_
            · (have c := hSw.cy; go_simp)
            simp only [Act.put, List.setIfInBounds_toArray, List.set_cons_zero, List.set_cons_succ]
            refine wpAnyZ_any (i := 17) (oi := ⟨some 54, _, _, _, _, _⟩) (v := .pointer (some ⟨g, s, none⟩)) rfl (by kernel_rfl) (by kernel_rfl) (by kernel_rfl) (by kernel_rfl) (fun _ _ _ h => h) (Or.inl ⟨by kernel_rfl, fun w' _ => ?_⟩) ⟨.inr hS.1, .inr hS.2⟩ ?_
            · go_simp
            simp only [Act.put, List.setIfInBounds_toArray, List.set_cons_zero, List.set_cons_succ]
            refine wpAnyZ_one (i := 18) (o := ⟨none, _, _, _, _, _⟩) (by kernel_rfl) rfl (by kernel_rfl) (fun K hK => ?_)
            have c := hS.1.cg
            have hfz := hS.1.fg
            go_simp
            refine hK.out _ _ ⟨.inl (show _ = true by kernel_rfl), .inl (show _ = true by kernel_rfl)⟩ ?_
            clear hK K hS
            refine wpAnyZ_done (by kernel_rfl) ?_ _
            go_wp2_with fail
            go_roundw
            case rel =>
              refine ⟨i + 1, upd h s y, by go_num, by omega, ⟨fun j hj => ?_⟩, (Arr.set hn).drew, (ha.far (show w.heap.size ≠ g by omega) _).drew, (hz.far (show w.heap.size + 1 ≠ g by omega) _).drew, (hbel.setCell (show w.heap.size ≤ g by omega) _).drew, ?_⟩
              · unfold upd
                by_cases e1 : j = s
                · subst e1; rw [if_pos rfl, if_pos (by rw [HUS.out]; omega)]; exact HY.out
                · have e2 := HU.out j hj e1
                  rw [if_neg e1, H.out j hj]
                  by_cases hjk : unI j < i
                  · rw [if_pos hjk, if_pos (by omega)]
                  · rw [if_neg hjk, if_neg (by omega)]
              · show _ ≤ (wr.setCell _ _).heap.size
                rw [World.size_setCell]; exact hsz
            case measure => simp [intOf]; omega
      · have hl' : ¬ ((m : Int) + 1 < (N : Int)) := by omega
        have HNEW : Box (backF a = decR W N f (k + 1)) := ⟨by show _ = bwd N (N - k) (addF W (N - k) (decR W N f k)); rw [HE.out, ← HEQ.out, HAE.out]; unfold bwd; rw [if_neg hl]⟩
        clear hl
        have hn3 : Arr ((w6.setRow w.heap.size (bv a)).alloc (.cells #[.int .u8 0, .int .u8 0, .int .u8 0, .int .u8 0, .int .u8 0, .int .u8 0, .int .u8 0, .int .u8 0, .int .u8 0, .int .u8 0, .int .u8 0, .int .u8 0, .int .u8 0, .int .u8 0, .int .u8 0, .int .u8 0] 36)) w6.heap.size (fun _ => 0) := Arr.zero _ _ (by simp)
        have ha3 := ha.alloc (.cells #[.int .u8 0, .int .u8 0, .int .u8 0, .int .u8 0, .int .u8 0, .int .u8 0, .int .u8 0, .int .u8 0, .int .u8 0, .int .u8 0, .int .u8 0, .int .u8 0, .int .u8 0, .int .u8 0, .int .u8 0, .int .u8 0] 36)
        have hz3 := hz.alloc (.cells #[.int .u8 0, .int .u8 0, .int .u8 0, .int .u8 0, .int .u8 0, .int .u8 0, .int .u8 0, .int .u8 0, .int .u8 0, .int .u8 0, .int .u8 0, .int .u8 0, .int .u8 0, .int .u8 0, .int .u8 0, .int .u8 0] 36)
        have hb3 : Below w.heap.size w ((w6.setRow w.heap.size (bv a)).alloc (.cells #[.int .u8 0, .int .u8 0, .int .u8 0, .int .u8 0, .int .u8 0, .int .u8 0, .int .u8 0, .int .u8 0, .int .u8 0, .int .u8 0, .int .u8 0, .int .u8 0, .int .u8 0, .int .u8 0, .int .u8 0, .int .u8 0] 36)) := hbel.alloc (by omega) _
        have hs3 : w.heap.size + 2 ≤ ((w6.setRow w.heap.size (bv a)).alloc (.cells #[.int .u8 0, .int .u8 0, .int .u8 0, .int .u8 0, .int .u8 0, .int .u8 0, .int .u8 0, .int .u8 0, .int .u8 0, .int .u8 0, .int .u8 0, .int .u8 0, .int .u8 0, .int .u8 0, .int .u8 0, .int .u8 0] 36)).heap.size := by simp; omega
        go_wp2_with (first
          | ((with_reducible show wpList _ _ _ (⟨_, Op.store 36 (.tmp 3) (.tmp 22), _, _, _, _⟩ :: _) _ _); refine wp_store_arr rfl (.tmp 3) (.tmp 22) rfl (w.heap.size) (e) (a) rfl rfl (ha6) ?_))
        clear ha6 hz6 hbel6 hb6 ha hz hbel hsz
        revert hn3 ha3 hz3 hb3 hs3
        generalize (w6.setRow w.heap.size (bv a)).alloc (.cells #[.int .u8 0, .int .u8 0, .int .u8 0, .int .u8 0, .int .u8 0, .int .u8 0, .int .u8 0, .int .u8 0, .int .u8 0, .int .u8 0, .int .u8 0, .int .u8 0, .int .u8 0, .int .u8 0, .int .u8 0, .int .u8 0] 36) = w3
        obtain ⟨g, hg⟩ : ∃ g, g = w6.heap.size := ⟨_, rfl⟩
        rw [← hg]
        have hgs : w.heap.size + 2 ≤ g := by omega
        intro hn3 ha3 hz3 hb3 hs3
        clear hg hs6
        have HX := HAL
        obtain ⟨x, hx⟩ : ∃ x, a = x := ⟨_, rfl⟩
        rw [hx] at HNEW HX ha3
        clear hx
        go_loopw [8, 34] (fun _q i w4 => ∃ (i' : Nat) (h : Nat → Nat), i = .int .i64 (i' : Int) ∧ i' ≤ 16 ∧ Box (∀ j, j < 16 → h j = if unI j < i' then backF x j else 0) ∧ Arr w4 g h ∧ Arr w4 w.heap.size x ∧ Arr w4 (w.heap.size + 1) (fun _ => 0) ∧ Below w.heap.size w w4 ∧ w.heap.size + 2 ≤ w4.heap.size) (fun _ i _ => 16 - (intOf i).toNat)
        case atStart => exact ⟨0, _, rfl, by omega, ⟨fun j _ => by simp⟩, hn3, ha3, hz3, hb3, hs3⟩
        case round =>
          obtain ⟨i, h, rfl, hi, H, hn, ha, hz, hbel, hsz⟩ := hrel
          clear hn3 ha3 hz3 hb3 hs3 w3
          by_cases hi6 : i = 16
          · subst hi6
            have hn2 : Arr wr g (backF x) := hn.congr (fun j hj => by rw [H.out j hj, if_pos (unI_lt j)])
            clear hn H
            have hn4 := hn2.setRow_far (g' := w.heap.size) (c := bv (backF x)) (by omega)
            have ha4 := ha.setRow (h := backF x)
            have hz4 := hz.setRow_far (g' := w.heap.size) (c := bv (backF x)) (by omega)
            go_wp2_with (first
                | ((with_reducible show wpList _ _ _ (⟨some 56, Op.load 36 (.tmp 7), _, _, _, _⟩ :: _) _ _); refine wp_load_arr rfl (.tmp 7) rfl (g) (backF x) rfl (hn2) ?_)
                | ((with_reducible show wpList _ _ _ (⟨_, Op.store 36 (.tmp 3) (.tmp 56), _, _, _, _⟩ :: _) _ _); refine wp_store_arr rfl (.tmp 3) (.tmp 56) rfl (w.heap.size) (x) (backF x) rfl rfl (ha) ?_))
            go_roundw
            case rel =>
              refine ⟨k + 1, m, by go_num, by omega, ?_, hz4, below_setRow hbel (Nat.le_refl _) _, by simp only [setRow_size]; omega⟩
              rw [← HNEW.out]
              exact ha4
            case measure => simp [intOf]
          · have hi2 : i < 16 := by omega
            clear hi6
            obtain ⟨T, A, c, g1, g2, g3⟩ := HC.out.below hbel
            obtain ⟨s, hs⟩ : ∃ s, s = shI i := ⟨_, rfl⟩
            have hsl : s < 16 := by rw [hs]; exact shI_lt i
            have hus : unI s = i := by rw [hs]; exact un_sh hi2
            have HS2 : Box (s = (i + 4 * (i % 4)) % 16) := ⟨hs⟩
            obtain ⟨b, hb⟩ : ∃ b, x i = b := ⟨_, rfl⟩
            have hbl : b < 256 := by rw [← hb]; exact HX.out i
            obtain ⟨y, hy⟩ : ∃ y, back b = y := ⟨_, rfl⟩
            have HY : Box (y = backF x s) := ⟨by unfold backF; rw [hus, hb, hy]⟩
            have HU : Box (∀ j, j < 16 → j ≠ s → unI j ≠ i) := ⟨fun j hj hn he => hn (by rw [hs, ← he, sh_un hj])⟩
            have HUS := Box.mk hus
            have cb := ha.cell hi2
            rw [hb] at cb
            have cy := g2.back_ hbl
            rw [hy] at cy
            have cg := hn.cell hsl
            rw [H.out s hsl, hus, if_neg (by omega)] at cg
            have hSS : S60 w.heap.size s C T b y g i wr.drew := ⟨g1.tab, cb, cy, cg, hn.free s⟩
            have hs0 : (0 : Int) ≤ (s : Int) := by omega
            have hs1 : (s : Int) < 16 := by omega
            have hs2 : ¬ 16 ≤ s := by omega
            have hb0 : (0 : Int) ≤ (b : Int) := by omega
            have hb1 : (b : Int) < 256 := by omega
            clear hs hb hy cb cy cg g1 g2 g3 hus
            go_wp2_with fail
            refine wp_region_Z 18 18 (S60 w.heap.size s C T b y g i) (fun _ => True) (by kernel_rfl) ?_
            have hS : _ ∧ True := ⟨hSS, trivial⟩
            refine wpAnyZ_any (i := 0) (oi := ⟨some 37, _, _, _, _, _⟩) (v := .int .i64 (i : Int)) rfl (by kernel_rfl) (by kernel_rfl) (by kernel_rfl) (by kernel_rfl) (fun _ _ _ h => h) (Or.inl ⟨by kernel_rfl, fun w' _ => ?_⟩) ⟨.inr hS.1, .inr hS.2⟩ ?_
            · go_simp
            simp only [Act.put, List.setIfInBounds_toArray, List.set_cons_zero, List.set_cons_succ]
            refine wpAnyZ_any (i := 1) (oi := ⟨some 38, _, _, _, _, _⟩) (v := .int .i64 (i : Int)) rfl (by kernel_rfl) (by kernel_rfl) (by kernel_rfl) (by kernel_rfl) (fun _ _ _ h => h) (Or.inl ⟨by kernel_rfl, fun w' _ => ?_⟩) ⟨.inr hS.1, .inr hS.2⟩ ?_
            · go_simp
            simp only [Act.put, List.setIfInBounds_toArray, List.set_cons_zero, List.set_cons_succ]
            refine wpAnyZ_any (i := 2) (oi := ⟨some 39, _, _, _, _, _⟩) (v := .int .i64 ((i % 4 : Nat) : Int)) rfl (by kernel_rfl) (by kernel_rfl) (by kernel_rfl) (by kernel_rfl) (fun _ _ _ h => h) (Or.inl ⟨by kernel_rfl, fun w' _ => ?_⟩) ⟨.inr hS.1, .inr hS.2⟩ ?_
            · (go_simp; try first | exact Int.tmod_eq_emod_of_nonneg (by omega) | exact IntWalk.i64_in _ (by omega) | (rw [Int.tdiv_eq_ediv_of_nonneg (by omega)]; exact IntWalk.i64_in _ (by omega)) | (rw [Int.tmod_eq_emod_of_nonneg (by omega)]; exact IntWalk.i64_in _ (by omega)))
            simp only [Act.put, List.setIfInBounds_toArray, List.set_cons_zero, List.set_cons_succ]
            refine wpAnyZ_any (i := 3) (oi := ⟨some 40, _, _, _, _, _⟩) (v := .int .i64 (4 * ((i % 4 : Nat) : Int))) rfl (by kernel_rfl) (by kernel_rfl) (by kernel_rfl) (by kernel_rfl) (fun _ _ _ h => h) (Or.inl ⟨by kernel_rfl, fun w' _ => ?_⟩) ⟨.inr hS.1, .inr hS.2⟩ ?_
            · (go_simp; try first | exact Int.tmod_eq_emod_of_nonneg (by omega) | exact IntWalk.i64_in _ (by omega) | (rw [Int.tdiv_eq_ediv_of_nonneg (by omega)]; exact IntWalk.i64_in _ (by omega)) | (rw [Int.tmod_eq_emod_of_nonneg (by omega)]; exact IntWalk.i64_in _ (by omega)))
            simp only [Act.put, List.setIfInBounds_toArray, List.set_cons_zero, List.set_cons_succ]
            refine wpAnyZ_any (i := 4) (oi := ⟨some 41, _, _, _, _, _⟩) (v := .int .i64 ((i : Int) + 4 * ((i % 4 : Nat) : Int))) rfl (by kernel_rfl) (by kernel_rfl) (by kernel_rfl) (by kernel_rfl) (fun _ _ _ h => h) (Or.inl ⟨by kernel_rfl, fun w' _ => ?_⟩) ⟨.inr hS.1, .inr hS.2⟩ ?_
            · (go_simp; try first | exact Int.tmod_eq_emod_of_nonneg (by omega) | exact IntWalk.i64_in _ (by omega) | (rw [Int.tdiv_eq_ediv_of_nonneg (by omega)]; exact IntWalk.i64_in _ (by omega)) | (rw [Int.tmod_eq_emod_of_nonneg (by omega)]; exact IntWalk.i64_in _ (by omega)))
            simp only [Act.put, List.setIfInBounds_toArray, List.set_cons_zero, List.set_cons_succ]
            refine wpAnyZ_any (i := 5) (oi := ⟨some 42, _, _, _, _, _⟩) (v := .int .i64 (s : Int)) rfl (by kernel_rfl) (by kernel_rfl) (by kernel_rfl) (by kernel_rfl) (fun _ _ _ h => h) (Or.inl ⟨by kernel_rfl, fun w' _ => ?_⟩) ⟨.inr hS.1, .inr hS.2⟩ ?_
            · (go_simp; have h := HS2.out; rw [Int.tmod_eq_emod_of_nonneg (by omega), show ((i : Int) + 4 * ((i : Int) % 4)) % 16 = (s : Int) by omega]; try exact IntWalk.i64_in _ (by omega))
            simp only [Act.put, List.setIfInBounds_toArray, List.set_cons_zero, List.set_cons_succ]
            refine wpAnyZ_any (i := 6) (oi := ⟨some 43, _, _, _, _, _⟩) (v := .pointer (some ⟨C, 0, none⟩)) rfl (by kernel_rfl) (by kernel_rfl) (by kernel_rfl) (by kernel_rfl) (fun _ _ _ h => h) (Or.inl ⟨by kernel_rfl, fun w' _ => ?_⟩) ⟨.inr hS.1, .inr hS.2⟩ ?_
            · go_simp
            simp only [Act.put, List.setIfInBounds_toArray, List.set_cons_zero, List.set_cons_succ]
            refine wpAnyZ_any (i := 7) (oi := ⟨some 44, _, _, _, _, _⟩) (v := .pointer (some ⟨C, 0, none⟩)) rfl (by kernel_rfl) (by kernel_rfl) (by kernel_rfl) (by kernel_rfl) (fun _ _ _ h => h) (Or.inl ⟨by kernel_rfl, fun w' _ => ?_⟩) ⟨.inr hS.1, .inr hS.2⟩ ?_
            · go_simp
            simp only [Act.put, List.setIfInBounds_toArray, List.set_cons_zero, List.set_cons_succ]
            refine wpAnyZ_any (i := 8) (oi := ⟨some 45, _, _, _, _, _⟩) (v := .pointer (some ⟨C, 0, none⟩)) rfl (by kernel_rfl) (by kernel_rfl) (by kernel_rfl) (by kernel_rfl) (fun _ _ _ h => h) (Or.inl ⟨by kernel_rfl, fun w' _ => ?_⟩) ⟨.inr hS.1, .inr hS.2⟩ ?_
            · go_simp
            simp only [Act.put, List.setIfInBounds_toArray, List.set_cons_zero, List.set_cons_succ]
            refine wpAnyZ_take (i := 9) (oi := ⟨some 46, _, _, _, _, _⟩) (v := .pointer (some ⟨T, 0, none⟩)) rfl (by kernel_rfl) (by kernel_rfl) (by kernel_rfl) (by kernel_rfl) (fun _ _ _ h => h) (Or.inl ⟨by kernel_rfl, fun w' hSw => ?_⟩) hS ?_
            · (have c := hSw.ct; go_simp)
            simp only [Act.put, List.setIfInBounds_toArray, List.set_cons_zero, List.set_cons_succ]
            refine wpAnyZ_any (i := 10) (oi := ⟨some 47, _, _, _, _, _⟩) (v := .int .i64 (i : Int)) rfl (by kernel_rfl) (by kernel_rfl) (by kernel_rfl) (by kernel_rfl) (fun _ _ _ h => h) (Or.inl ⟨by kernel_rfl, fun w' _ => ?_⟩) ⟨.inr hS.1, .inr hS.2⟩ ?_
            · go_simp
            simp only [Act.put, List.setIfInBounds_toArray, List.set_cons_zero, List.set_cons_succ]
            refine wpAnyZ_any (i := 11) (oi := ⟨some 48, _, _, _, _, _⟩) (v := .pointer (some ⟨w.heap.size, i, none⟩)) rfl (by kernel_rfl) (by kernel_rfl) (by kernel_rfl) (by kernel_rfl) (fun _ _ _ h => h) (Or.inl ⟨by kernel_rfl, fun w' _ => ?_⟩) ⟨.inr hS.1, .inr hS.2⟩ ?_
            · go_simp
            simp only [Act.put, List.setIfInBounds_toArray, List.set_cons_zero, List.set_cons_succ]
            refine wpAnyZ_take (i := 12) (oi := ⟨some 49, _, _, _, _, _⟩) (v := .int .u8 (b : Int)) rfl (by kernel_rfl) (by kernel_rfl) (by kernel_rfl) (by kernel_rfl) (fun _ _ _ h => h) (Or.inl ⟨by kernel_rfl, fun w' hSw => ?_⟩) hS ?_
            · (have c := hSw.cb; go_simp)
            simp only [Act.put, List.setIfInBounds_toArray, List.set_cons_zero, List.set_cons_succ]
            refine wpAnyZ_any (i := 13) (oi := ⟨some 50, _, _, _, _, _⟩) (v := .pointer (some ⟨T, 0, none⟩)) rfl (by kernel_rfl) (by kernel_rfl) (by kernel_rfl) (by kernel_rfl) (fun _ _ _ h => h) (Or.inl ⟨by kernel_rfl, fun w' _ => ?_⟩) ⟨.inr hS.1, .inr hS.2⟩ ?_
            · go_simp
            simp only [Act.put, List.setIfInBounds_toArray, List.set_cons_zero, List.set_cons_succ]
            refine wpAnyZ_any (i := 14) (oi := ⟨some 51, _, _, _, _, _⟩) (v := .pointer (some ⟨T, 256, none⟩)) rfl (by kernel_rfl) (by kernel_rfl) (by kernel_rfl) (by kernel_rfl) (fun _ _ _ h => h) (Or.inl ⟨by kernel_rfl, fun w' _ => ?_⟩) ⟨.inr hS.1, .inr hS.2⟩ ?_
            · go_simp
            simp only [Act.put, List.setIfInBounds_toArray, List.set_cons_zero, List.set_cons_succ]
            refine wpAnyZ_any (i := 15) (oi := ⟨some 52, _, _, _, _, _⟩) (v := .pointer (some ⟨T, 256 + b, none⟩)) rfl (by kernel_rfl) (by kernel_rfl) (by kernel_rfl) (by kernel_rfl) (fun _ _ _ h => h) (Or.inl ⟨by kernel_rfl, fun w' _ => ?_⟩) ⟨.inr hS.1, .inr hS.2⟩ ?_
            · go_simp
            simp only [Act.put, List.setIfInBounds_toArray, List.set_cons_zero, List.set_cons_succ]
            refine wpAnyZ_take (i := 16) (oi := ⟨some 53, _, _, _, _, _⟩) (v := .int .u8 (y : Int)) rfl (by kernel_rfl) (by kernel_rfl) (by kernel_rfl) (by kernel_rfl) (fun _ _ _ h => h) (Or.inl ⟨by kernel_rfl, fun w' hSw => ?_⟩) hS ?_
            · (have c := hSw.cy; go_simp)
            simp only [Act.put, List.setIfInBounds_toArray, List.set_cons_zero, List.set_cons_succ]
            refine wpAnyZ_any (i := 17) (oi := ⟨some 54, _, _, _, _, _⟩) (v := .pointer (some ⟨g, s, none⟩)) rfl (by kernel_rfl) (by kernel_rfl) (by kernel_rfl) (by kernel_rfl) (fun _ _ _ h => h) (Or.inl ⟨by kernel_rfl, fun w' _ => ?_⟩) ⟨.inr hS.1, .inr hS.2⟩ ?_
            · go_simp
            simp only [Act.put, List.setIfInBounds_toArray, List.set_cons_zero, List.set_cons_succ]
            refine wpAnyZ_one (i := 18) (o := ⟨none, _, _, _, _, _⟩) (by kernel_rfl) rfl (by kernel_rfl) (fun K hK => ?_)
            have c := hS.1.cg
            have hfz := hS.1.fg
            go_simp
            refine hK.out _ _ ⟨.inl (show _ = true by kernel_rfl), .inl (show _ = true by kernel_rfl)⟩ ?_
            clear hK K hS
            refine wpAnyZ_done (by kernel_rfl) ?_ _
            go_wp2_with fail
            go_roundw
            case rel =>
              refine ⟨i + 1, upd h s y, by go_num, by omega, ⟨fun j hj => ?_⟩, (Arr.set hn).drew, (ha.far (show w.heap.size ≠ g by omega) _).drew, (hz.far (show w.heap.size + 1 ≠ g by omega) _).drew, (hbel.setCell (show w.heap.size ≤ g by omega) _).drew, ?_⟩
              · unfold upd
                by_cases e1 : j = s
                · subst e1; rw [if_pos rfl, if_pos (by rw [HUS.out]; omega)]; exact HY.out
                · have e2 := HU.out j hj e1
                  rw [if_neg e1, H.out j hj]
                  by_cases hjk : unI j < i
                  · rw [if_pos hjk, if_pos (by omega)]
                  · rw [if_neg hjk, if_neg (by omega)]
              · show _ ≤ (wr.setCell _ _).heap.size
                rw [World.size_setCell]; exact hsz
            case measure => simp [intOf]; omega
end Go.Proofs.Ytibfihjcjohadaa
