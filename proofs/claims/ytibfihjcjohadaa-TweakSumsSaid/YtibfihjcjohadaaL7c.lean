/-
  The walk of the law on doubling until the highest digit falls out: it returns true, whatever the input, and writes nothing that was there.
-/
import Derived.Test.YtibfihjcjohadaaL7b
namespace Go.Proofs.Ytibfihjcjohadaa
open Go.RowKit Go.Op
open Twk (byt dbl hlv tm byt_lt dbl_lt hlv_lt tm_lt up down xor_lt128 byt_xor hlv_dbl dbl_hlv tm_add)
theorem byt_two {k i : Nat} (hk : k < 128) (hi : i < 16) : byt (2 ^ k) i = if i = k / 8 then 2 ^ (k % 8) else 0 := by
  have h := Fld.all256 (p := fun k => decide (128 ≤ k) || (List.range 16).all fun i => byt (2 ^ k) i == if i = k / 8 then 2 ^ (k % 8) else 0) (by decide +kernel) (show k < 256 by omega)
  simp only [show decide (128 ≤ k) = false by simpa using hk, Bool.false_or] at h
  exact eq_of_beq (Twk.all16 h hi)
theorem two_arr (w : World) (k : Nat) (hk : k ≤ 127) : Arr (w.alloc (.cells ([.int .u8 0, .int .u8 0, .int .u8 0, .int .u8 0, .int .u8 0, .int .u8 0, .int .u8 0, .int .u8 0, .int .u8 0, .int .u8 0, .int .u8 0, .int .u8 0, .int .u8 0, .int .u8 0, .int .u8 0, .int .u8 0].set (k / 8) (.int .u8 (2 ^ (k % 8) % 256))).toArray 36)) w.heap.size (byt (2 ^ k)) := by
  have hp : 2 ^ (k % 8) < 256 := by
    have : 2 ^ (k % 8) < 2 ^ 8 := Nat.pow_lt_pow_right (by decide) (by omega)
    simpa using this
  have e : Value.int .u8 (2 ^ (k % 8) % 256) = cellOf (2 ^ (k % 8)) := by
    apply val_int
    rw [show (2 : Int) ^ (k % 8) = ((2 ^ (k % 8) : Nat) : Int) by rw [Int.natCast_pow]; rfl]
    exact Int.emod_eq_of_lt (Int.natCast_nonneg _) (Int.ofNat_lt.mpr hp)
  have e2 : ([.int .u8 0, .int .u8 0, .int .u8 0, .int .u8 0, .int .u8 0, .int .u8 0, .int .u8 0, .int .u8 0, .int .u8 0, .int .u8 0, .int .u8 0, .int .u8 0, .int .u8 0, .int .u8 0, .int .u8 0, .int .u8 0].set (k / 8) (.int .u8 (2 ^ (k % 8) % 256))).toArray = (bv (fun _ => 0)).setIfInBounds (k / 8) (cellOf (2 ^ (k % 8))) := by
    rw [e, ← List.setIfInBounds_toArray]; rfl
  rw [e2, bv_upd]
  refine (Arr.new w _ _ rfl).congr (fun i hi => ?_)
  unfold upd
  rw [byt_two (by omega) hi]
theorem around_one (k : Nat) (hk : k ≤ 127) : timesB 1 (k : Int) = 2 ^ k := by
  unfold timesB
  rw [if_neg (by omega)]
  unfold tm
  rw [if_pos (by omega), Int.toNat_natCast, Twk.up_small k (by rw [Nat.one_mul]; exact Nat.pow_lt_pow_right (by decide) (by omega)), Nat.one_mul]
theorem two_lt {k : Nat} (hk : k ≤ 127) : 2 ^ k < 2 ^ 128 := Nat.pow_lt_pow_right (by decide) (by omega)
theorem tm_128 : tm 1 128 = 135 := by decide +kernel
theorem around_far (k : Nat) (hk : k ≤ 127) : timesB (2 ^ k) 128 = timesB 135 (k : Int) := by
  have h := around_one k hk
  unfold timesB at h ⊢
  rw [if_neg (by omega)] at h
  rw [if_neg (by omega), if_neg (by omega), ← h, tm_add (by decide), ← tm_128, tm_add (by decide), Int.add_comm]
theorem around_back (k : Nat) (hk : k ≤ 127) : timesB (2 ^ k) (-(k : Int)) = 1 := by
  have h := around_one k hk
  unfold timesB at h ⊢
  rw [if_neg (by omega)] at h
  rw [if_neg (by omega), ← h, tm_add (by decide), show (k : Int) + -(k : Int) = 0 by omega]; rfl
/-- a fact that no tactic lays open -/
structure Box (p : Prop) : Prop where
  out : p
/-- what a region reads of three blocks -/
def S3 (w : World) (g1 n1 g2 n2 g3 n3 : Nat) (w' : World) : Prop := Arr w' g1 (byt n1) ∧ Arr w' g2 (byt n2) ∧ Arr w' g3 (byt n3) ∧ Below w.heap.size w w'
theorem S3.below {w w' w'' : World} {g1 n1 g2 n2 g3 n3 : Nat} (h : S3 w g1 n1 g2 n2 g3 n3 w') (hb : Below w'.heap.size w' w'') : S3 w g1 n1 g2 n2 g3 n3 w'' := by
  obtain ⟨h1, h2, h3, h4⟩ := h
  exact ⟨h1.below hb h1.lt, h2.below hb h2.lt, h3.below hb h3.lt, h4.trans (hb.mono h4.size)⟩
set_option maxRecDepth 100000 in
set_option maxHeartbeats 400000 in
theorem around_out (k : Int) (w : World) (h : k < 0 ∨ (0 ≤ k ∧ 127 < k)) :
    Calls Try.prog 12 #[.int .i64 k] w fun e w' => e = .returned (.bool true) ∧ Below w.heap.size w w' := by
  rcases h with h | ⟨h1, h2⟩
  all_goals
    go_enter Try.func12, Try.ntmps12
    go_wp2_with fail
    refine (awake7 _).mono ?_
    rintro e w' ⟨rfl, hbel⟩
    go_wp2_with fail
    go_ret
    exact ⟨rfl, hbel⟩
set_option maxRecDepth 100000 in
set_option maxHeartbeats 4000000 in
theorem around_in (k : Nat) (hk : k ≤ 127) (w : World) :
    Calls Try.prog 12 #[.int .i64 (k : Int)] w fun e w' => e = .returned (.bool true) ∧ Below w.heap.size w w' := by
  have hq : k / 8 < 16 := by omega
  have HX : Box (2 ^ k < 2 ^ 128) := ⟨two_lt hk⟩
  have H1 : Box (timesB 1 (k : Int) = 2 ^ k) := ⟨around_one k hk⟩
  have H2 : Box (timesB (2 ^ k) 128 = timesB 135 (k : Int)) := ⟨around_far k hk⟩
  have H3 : Box (timesB (2 ^ k) (-(k : Int)) = 1) := ⟨around_back k hk⟩
  have HT := Box.mk (two_arr w k hk)
  have hneg : IntKind.i64.wrap (-(k : Int)) = -(k : Int) := IntWalk.i64_in _ (by omega)
  have HN := Lib.hid hneg
  clear hneg
  go_enter Try.func12, Try.ntmps12
  go_wp2_with fail
  revert HX H1 H2 H3 HT
  generalize 2 ^ k = X
  intro HX H1 H2 H3 HT
  refine (number_any 1 (by decide) _).mono ?_
  rw [show (1 : Int).toNat = 1 from rfl]
  rintro e w1 ⟨rfl, hb1⟩
  have ha1 : Arr w1 w.heap.size (byt X) := HT.out.below hb1 HT.out.lt
  have hbel1 := below_alloc hb1
  clear hb1 HT
  have hs1 := ha1.lt
  go_wp2_with ((with_reducible show wpList _ _ _ _ _ _); refine wp_store_arr rfl (.tmp 4) (.tmp 19) rfl w1.heap.size (fun _ => 0) (byt 1) rfl rfl (Arr.zero _ _ rfl) ?_)
  have ho2 : Arr ((w1.alloc (.cells #[.int .u8 0, .int .u8 0, .int .u8 0, .int .u8 0, .int .u8 0, .int .u8 0, .int .u8 0, .int .u8 0, .int .u8 0, .int .u8 0, .int .u8 0, .int .u8 0, .int .u8 0, .int .u8 0, .int .u8 0, .int .u8 0] 36)).setRow w1.heap.size (bv (byt 1))) w1.heap.size (byt 1) := (Arr.zero _ _ rfl).setRow
  have ha2 : Arr ((w1.alloc (.cells #[.int .u8 0, .int .u8 0, .int .u8 0, .int .u8 0, .int .u8 0, .int .u8 0, .int .u8 0, .int .u8 0, .int .u8 0, .int .u8 0, .int .u8 0, .int .u8 0, .int .u8 0, .int .u8 0, .int .u8 0, .int .u8 0] 36)).setRow w1.heap.size (bv (byt 1))) w.heap.size (byt X) := (ha1.alloc _).setRow_far (by omega)
  have hbel2 : Below w.heap.size w ((w1.alloc (.cells #[.int .u8 0, .int .u8 0, .int .u8 0, .int .u8 0, .int .u8 0, .int .u8 0, .int .u8 0, .int .u8 0, .int .u8 0, .int .u8 0, .int .u8 0, .int .u8 0, .int .u8 0, .int .u8 0, .int .u8 0, .int .u8 0] 36)).setRow w1.heap.size (bv (byt 1))) := below_setRow (hbel1.alloc (by omega) _) (by omega) _
  revert ho2 ha2 hbel2
  generalize (w1.alloc (.cells #[.int .u8 0, .int .u8 0, .int .u8 0, .int .u8 0, .int .u8 0, .int .u8 0, .int .u8 0, .int .u8 0, .int .u8 0, .int .u8 0, .int .u8 0, .int .u8 0, .int .u8 0, .int .u8 0, .int .u8 0, .int .u8 0] 36)).setRow w1.heap.size (bv (byt 1)) = w2
  intro ho2 ha2 hbel2
  clear ha1 hbel1
  refine (number_any 135 (by decide) _).mono ?_
  rw [show (135 : Int).toNat = 135 from rfl]
  rintro e w3 ⟨rfl, hb3⟩
  go_wp2_with fail
  refine (times_any 135 (k : Int) (by decide) _).mono ?_
  rintro e w4 ⟨rfl, hb4⟩
  have hb34 : Below w2.heap.size w2 w4 := hb3.trans (hb4.mono hb3.size)
  have ho4 := ho2.below hb34 ho2.lt
  have ha4 := ha2.below hb34 ha2.lt
  have hbel4 := hbel2.trans (hb34.mono hbel2.size)
  have hs4 := ho4.lt
  have hs4' := ha4.lt
  clear hb3 hb4 hb34 ho2 ha2 hbel2
  go_wp2_with ((with_reducible show wpList _ _ _ _ _ _); refine wp_store_arr rfl (.tmp 5) (.tmp 22) rfl w4.heap.size (fun _ => 0) (byt (timesB 135 k)) rfl rfl (Arr.zero _ _ rfl) ?_)
  have hS0 : S3 w w.heap.size X w1.heap.size 1 w4.heap.size (timesB 135 k) ((w4.alloc (.cells #[.int .u8 0, .int .u8 0, .int .u8 0, .int .u8 0, .int .u8 0, .int .u8 0, .int .u8 0, .int .u8 0, .int .u8 0, .int .u8 0, .int .u8 0, .int .u8 0, .int .u8 0, .int .u8 0, .int .u8 0, .int .u8 0] 36)).setRow w4.heap.size (bv (byt (timesB 135 k)))) := ⟨(ha4.alloc _).setRow_far (by omega), (ho4.alloc _).setRow_far (by omega), (Arr.zero _ _ rfl).setRow, below_setRow (hbel4.alloc (by omega) _) (by omega) _⟩
  revert hS0
  generalize (w4.alloc (.cells #[.int .u8 0, .int .u8 0, .int .u8 0, .int .u8 0, .int .u8 0, .int .u8 0, .int .u8 0, .int .u8 0, .int .u8 0, .int .u8 0, .int .u8 0, .int .u8 0, .int .u8 0, .int .u8 0, .int .u8 0, .int .u8 0] 36)).setRow w4.heap.size (bv (byt (timesB 135 k))) = w5
  intro hS0
  clear ho4 ha4 hbel4
  have hS1 : S3 w w.heap.size X w1.heap.size 1 w4.heap.size (timesB 135 k) w5.drew := ⟨hS0.1.drew, hS0.2.1.drew, hS0.2.2.1.drew, hS0.2.2.2.drew⟩
  clear hS0
  refine wp_region_held_drew (S := S3 w w.heap.size X w1.heap.size 1 w4.heap.size (timesB 135 k)) (by kernel_rfl) hS1 (fun hS => ?_)
  clear hS1
  refine wpAnyH_take (i := 0) (oi := ⟨some 23, _, _, _, _, _⟩) (v := .agg (bv (byt 1))) rfl (by kernel_rfl) (by kernel_rfl) (by kernel_rfl) (fun _ _ _ h => h) (yields_arr (by kernel_rfl) (.tmp 4) rfl (w1.heap.size) (byt 1) rfl (fun _ h => h.2.1)) hS ?_
  simp only [Act.put, List.setIfInBounds_toArray, List.set_cons_zero, List.set_cons_succ]
  refine wpAnyH_take (i := 1) (oi := ⟨some 24, _, _, _, _, _⟩) (v := .int .i64 (k : Int)) rfl (by kernel_rfl) (by kernel_rfl) (by kernel_rfl) (fun _ _ _ h => h) (Or.inl ⟨by kernel_rfl, fun w' hSw => ?_⟩) hS ?_
  · go_simp
  simp only [Act.put, List.setIfInBounds_toArray, List.set_cons_zero, List.set_cons_succ]
  refine wpAnyH_take (i := 3) (oi := ⟨some 26, _, _, _, _, _⟩) (v := .agg (bv (byt X))) rfl (by kernel_rfl) (by kernel_rfl) (by kernel_rfl) (fun _ _ _ h => h) (yields_arr (by kernel_rfl) (.tmp 3) rfl (w.heap.size) (byt X) rfl (fun _ h => h.1)) hS ?_
  simp only [Act.put, List.setIfInBounds_toArray, List.set_cons_zero, List.set_cons_succ]
  refine wpAnyH_ready (rs := [2]) (by kernel_rfl) (by simp) ?_
  refine AllReadyH.cons (o := ⟨some 25, _, _, _, _, _⟩) rfl (fun K hK => ?_) AllReadyH.nil
  rw [if_pos (by kernel_rfl)]
  go_simp
  refine (times_any 1 (k : Int) (by decide) _).mono ?_
  rw [H1.out]
  rintro e w6 ⟨rfl, hb⟩
  refine hK.out _ _ (hS.below hb) (fun hS => ?_)
  clear hK K
  refine wpAnyH_take (i := 4) (oi := ⟨some 27, _, _, _, _, _⟩) (v := .bool true) rfl (by kernel_rfl) (by kernel_rfl) (by kernel_rfl) (fun _ _ _ h => h) (yields_same (by kernel_rfl) (.tmp 25) (.tmp 26) rfl (byt X) rfl rfl) hS ?_
  simp only [Act.put, List.setIfInBounds_toArray, List.set_cons_zero, List.set_cons_succ]
  refine wpAnyH_take (i := 5) (oi := ⟨some 28, _, _, _, _, _⟩) (v := .bool true) rfl (by kernel_rfl) (by kernel_rfl) (by kernel_rfl) (fun _ _ _ h => h) (Or.inl ⟨by kernel_rfl, fun w' hSw => ?_⟩) hS ?_
  · go_simp
  simp only [Act.put, List.setIfInBounds_toArray, List.set_cons_zero, List.set_cons_succ]
  refine wpAnyH_take (i := 6) (oi := ⟨some 29, _, _, _, _, _⟩) (v := .agg (bv (byt X))) rfl (by kernel_rfl) (by kernel_rfl) (by kernel_rfl) (fun _ _ _ h => h) (yields_arr (by kernel_rfl) (.tmp 3) rfl (w.heap.size) (byt X) rfl (fun _ h => h.1)) hS ?_
  simp only [Act.put, List.setIfInBounds_toArray, List.set_cons_zero, List.set_cons_succ]
  refine wpAnyH_take (i := 8) (oi := ⟨some 31, _, _, _, _, _⟩) (v := .agg (bv (byt (timesB 135 k)))) rfl (by kernel_rfl) (by kernel_rfl) (by kernel_rfl) (fun _ _ _ h => h) (yields_arr (by kernel_rfl) (.tmp 5) rfl (w4.heap.size) (byt (timesB 135 k)) rfl (fun _ h => h.2.2.1)) hS ?_
  simp only [Act.put, List.setIfInBounds_toArray, List.set_cons_zero, List.set_cons_succ]
  refine wpAnyH_ready (rs := [7]) (by kernel_rfl) (by simp) ?_
  refine AllReadyH.cons (o := ⟨some 30, _, _, _, _, _⟩) rfl (fun K hK => ?_) AllReadyH.nil
  rw [if_pos (by kernel_rfl)]
  go_simp
  refine (times_any X 128 HX.out _).mono ?_
  rw [H2.out]
  rintro e w7 ⟨rfl, hb⟩
  refine hK.out _ _ (hS.below hb) (fun hS => ?_)
  clear hK K
  refine wpAnyH_take (i := 9) (oi := ⟨some 32, _, _, _, _, _⟩) (v := .bool true) rfl (by kernel_rfl) (by kernel_rfl) (by kernel_rfl) (fun _ _ _ h => h) (yields_same (by kernel_rfl) (.tmp 30) (.tmp 31) rfl (byt (timesB 135 k)) rfl rfl) hS ?_
  simp only [Act.put, List.setIfInBounds_toArray, List.set_cons_zero, List.set_cons_succ]
  refine wpAnyH_take (i := 10) (oi := ⟨some 33, _, _, _, _, _⟩) (v := .bool true) rfl (by kernel_rfl) (by kernel_rfl) (by kernel_rfl) (fun _ _ _ h => h) (Or.inl ⟨by kernel_rfl, fun w' hSw => ?_⟩) hS ?_
  · go_simp
  simp only [Act.put, List.setIfInBounds_toArray, List.set_cons_zero, List.set_cons_succ]
  refine wpAnyH_take (i := 11) (oi := ⟨some 34, _, _, _, _, _⟩) (v := .bool true) rfl (by kernel_rfl) (by kernel_rfl) (by kernel_rfl) (fun _ _ _ h => h) (Or.inl ⟨by kernel_rfl, fun w' hSw => ?_⟩) hS ?_
  · go_simp
  simp only [Act.put, List.setIfInBounds_toArray, List.set_cons_zero, List.set_cons_succ]
  refine wpAnyH_take (i := 12) (oi := ⟨some 35, _, _, _, _, _⟩) (v := .agg (bv (byt X))) rfl (by kernel_rfl) (by kernel_rfl) (by kernel_rfl) (fun _ _ _ h => h) (yields_arr (by kernel_rfl) (.tmp 3) rfl (w.heap.size) (byt X) rfl (fun _ h => h.1)) hS ?_
  simp only [Act.put, List.setIfInBounds_toArray, List.set_cons_zero, List.set_cons_succ]
  refine wpAnyH_take (i := 13) (oi := ⟨some 36, _, _, _, _, _⟩) (v := .int .i64 (k : Int)) rfl (by kernel_rfl) (by kernel_rfl) (by kernel_rfl) (fun _ _ _ h => h) (Or.inl ⟨by kernel_rfl, fun w' hSw => ?_⟩) hS ?_
  · go_simp
  simp only [Act.put, List.setIfInBounds_toArray, List.set_cons_zero, List.set_cons_succ]
  refine wpAnyH_take (i := 14) (oi := ⟨some 37, _, _, _, _, _⟩) (v := .int .i64 (-(k : Int))) rfl (by kernel_rfl) (by kernel_rfl) (by kernel_rfl) (fun _ _ _ h => h) (Or.inl ⟨by kernel_rfl, fun w' hSw => ?_⟩) hS ?_
  · (have hneg := HN.out; go_simp)
  simp only [Act.put, List.setIfInBounds_toArray, List.set_cons_zero, List.set_cons_succ]
  refine wpAnyH_take (i := 16) (oi := ⟨some 39, _, _, _, _, _⟩) (v := .agg (bv (byt 1))) rfl (by kernel_rfl) (by kernel_rfl) (by kernel_rfl) (fun _ _ _ h => h) (yields_arr (by kernel_rfl) (.tmp 4) rfl (w1.heap.size) (byt 1) rfl (fun _ h => h.2.1)) hS ?_
  simp only [Act.put, List.setIfInBounds_toArray, List.set_cons_zero, List.set_cons_succ]
  refine wpAnyH_ready (rs := [15]) (by kernel_rfl) (by simp) ?_
  refine AllReadyH.cons (o := ⟨some 38, _, _, _, _, _⟩) rfl (fun K hK => ?_) AllReadyH.nil
  rw [if_pos (by kernel_rfl)]
  go_simp
  refine (times_any X (-(k : Int)) HX.out _).mono ?_
  rw [H3.out]
  rintro e w8 ⟨rfl, hb⟩
  refine hK.out _ _ (hS.below hb) (fun hS => ?_)
  clear hK K
  refine wpAnyH_take (i := 17) (oi := ⟨some 40, _, _, _, _, _⟩) (v := .bool true) rfl (by kernel_rfl) (by kernel_rfl) (by kernel_rfl) (fun _ _ _ h => h) (yields_same (by kernel_rfl) (.tmp 38) (.tmp 39) rfl (byt 1) rfl rfl) hS ?_
  simp only [Act.put, List.setIfInBounds_toArray, List.set_cons_zero, List.set_cons_succ]
  refine wpAnyH_take (i := 18) (oi := ⟨some 41, _, _, _, _, _⟩) (v := .bool true) rfl (by kernel_rfl) (by kernel_rfl) (by kernel_rfl) (fun _ _ _ h => h) (Or.inl ⟨by kernel_rfl, fun w' hSw => ?_⟩) hS ?_
  · go_simp
  simp only [Act.put, List.setIfInBounds_toArray, List.set_cons_zero, List.set_cons_succ]
  refine wpAnyH_take (i := 19) (oi := ⟨some 42, _, _, _, _, _⟩) (v := .bool true) rfl (by kernel_rfl) (by kernel_rfl) (by kernel_rfl) (fun _ _ _ h => h) (Or.inl ⟨by kernel_rfl, fun w' hSw => ?_⟩) hS ?_
  · go_simp
  simp only [Act.put, List.setIfInBounds_toArray, List.set_cons_zero, List.set_cons_succ]
  refine wpAnyH_ready (rs := [20]) (by kernel_rfl) (by simp) ?_
  refine AllReadyH.cons (o := ⟨some 43, _, _, _, _, _⟩) rfl (fun K hK => ?_) AllReadyH.nil
  rw [if_pos (by kernel_rfl)]
  go_simp
  refine (awake7 _).mono ?_
  rintro e w9 ⟨rfl, hb⟩
  refine hK.out _ _ (hS.below hb) (fun hS => ?_)
  clear hK K
  refine wpAnyH_take (i := 21) (oi := ⟨some 44, _, _, _, _, _⟩) (v := .bool true) rfl (by kernel_rfl) (by kernel_rfl) (by kernel_rfl) (fun _ _ _ h => h) (Or.inl ⟨by kernel_rfl, fun w' hSw => ?_⟩) hS ?_
  · go_simp
  simp only [Act.put, List.setIfInBounds_toArray, List.set_cons_zero, List.set_cons_succ]
  refine wpAnyH_take (i := 22) (oi := ⟨some 2, _, _, _, _, _⟩) (v := .bool true) rfl (by kernel_rfl) (by kernel_rfl) (by kernel_rfl) (fun _ _ _ h => h) (Or.inl ⟨by kernel_rfl, fun w' hSw => ?_⟩) hS ?_
  · go_simp
  simp only [Act.put, List.setIfInBounds_toArray, List.set_cons_zero, List.set_cons_succ]
  refine wpAnyH_done (by kernel_rfl) ?_ _
  go_wp2_with fail
  go_ret
  exact ⟨rfl, hS.2.2.2⟩
theorem tweakAround_walk (k : Int) (_k0 : -9223372036854775808 ≤ k) (_k1 : k ≤ 9223372036854775807) (w : World) :
    Calls Try.prog 12 #[.int .i64 k] w fun e w' => e = .returned (.bool true) ∧ Below w.heap.size w w' := by
  by_cases h : 0 ≤ k ∧ k ≤ 127
  · obtain ⟨K, rfl⟩ := Int.eq_ofNat_of_zero_le h.1
    exact around_in K (by omega) w
  · exact around_out k w (by omega)
end Go.Proofs.Ytibfihjcjohadaa
