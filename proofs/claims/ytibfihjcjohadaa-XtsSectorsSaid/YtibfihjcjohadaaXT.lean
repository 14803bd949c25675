/-
  The walks of a unit's tweaks, of Tweaks and of May. Conditions: numbers in their bounds.
-/
import Derived.Test.YtibfihjcjohadaaXO
import Derived.Lib.SmallJoins
namespace Go.Proofs.Ytibfihjcjohadaa
open Go.RowKit Go.Op
open Aes (words words_len)
open Twk (byt dbl hlv tm byt_lt dbl_lt tm_lt up down xor_lt128 byt_xor)
theorem OwnB.le {w : World} {base base' : Nat} {v : Value} {l : List Nat} (h : OwnB w base v l) (hb : base' ≤ base) : OwnB w base' v l := ⟨Joins.ownsRow_le h.1 hb, h.2⟩
/-- what the tweaks of a unit tell -/
def TwQ (k2 : List Nat) (u n : Nat) (w : World) (e : Ending) (w' : World) : Prop := ∃ v, e = .returned v ∧ OwnB w' w.heap.size v (twL k2 u n) ∧ Below w.heap.size w w'
/-- a block's variable of the call's own -/
def NewArr (w0 : World) (B : Nat) (f : Nat → Nat) (p : Value) (w' : World) : Prop := ∃ g, p = .pointer (some ⟨g, 0, none⟩) ∧ B ≤ g ∧ Arr w' g f ∧ Below w0.heap.size w0 w'
set_option maxRecDepth 100000 in
set_option maxHeartbeats 4000000 in
theorem tweaks_walk (C D : Nat) (k2 : List Nat) (u n : Nat) (hk : MayK k2.length) (hu : u < 9223372036854775808) (hn : n ≤ 256) (w : World) (hD : Ciph w D (words k2)) :
    Calls Try.prog 92 #[.agg #[.pointer (some ⟨C, 0, none⟩), .pointer (some ⟨D, 0, none⟩)], .int .i64 (u : Int), .int .i64 (n : Int)] w (TwQ k2 u n w) := by
  have HN : Box (∀ w, Calls Try.prog 45 #[.int .i64 (u : Int)] w fun e w' => e = .returned (.agg (bv (byt u))) ∧ Below w.heap.size w w') := ⟨fun w => number_nat u hu w⟩
  have HE : Box (∀ w, Ciph w D (words k2) → Calls Try.prog 61 #[.pointer (some ⟨D, 0, none⟩), .agg (bv (byt u))] w fun e w' => e = .returned (.agg (bv (byt (encN k2 u)))) ∧ Below w.heap.size w w') := ⟨fun w h => encN_any D k2 u hk w h⟩
  have HT0 : Box (encN k2 u = twN k2 u 0) := ⟨rfl⟩
  revert HE HT0
  generalize encN k2 u = t0
  intro HE HT0
  have hP := PairV.new w (.pointer (some ⟨C, 0, none⟩)) (.pointer (some ⟨D, 0, none⟩)) w.heap.size rfl
  have hb0 : Below w.heap.size w (w.alloc (.cells #[.pointer (some ⟨C, 0, none⟩), .pointer (some ⟨D, 0, none⟩)] 106)) := (Below.refl _ _).alloc (Nat.le_refl _) _
  clear hk
  go_enter Try.func92, Try.ntmps92
  go_upto_region 1 with fail
  revert hP hb0
  generalize w.alloc (.cells #[.pointer (some ⟨C, 0, none⟩), .pointer (some ⟨D, 0, none⟩)] 106) = w1
  intro hP hb0
  have hD1 := hD.below hb0
  have hc1 := hP.c1
  have hlt1 := hP.lt
  have hz1 := hb0.size
  go_cut [7] from 8 to 12 (fun p wx => NewArr w1 w1.heap.size (byt t0) p wx)
  case first =>
    refine wp_region_held_drew (S := fun w' => Below w1.heap.size w1 w') (by kernel_rfl) (Below.refl _ _).drew (fun hS => ?_)
    refine wpAnyH_take (i := 0) (oi := ⟨some 8, _, _, _, _, _⟩) (v := .pointer (some ⟨w.heap.size, 1, none⟩)) rfl (by kernel_rfl) (by kernel_rfl) (by kernel_rfl) (fun _ _ _ h => h) (Or.inl ⟨by kernel_rfl, fun w' hSw => ?_⟩) hS ?_
    · go_simp
    simp only [Act.put, List.setIfInBounds_toArray, List.set_cons_zero, List.set_cons_succ]
    refine wpAnyH_take (i := 1) (oi := ⟨some 9, _, _, _, _, _⟩) (v := .pointer (some ⟨D, 0, none⟩)) rfl (by kernel_rfl) (by kernel_rfl) (by kernel_rfl) (fun _ _ _ h => h) (Or.inl ⟨by kernel_rfl, fun w' hSw => ?_⟩) hS ?_
    · (have c := (hSw.cell (p := ⟨w.heap.size, 1, none⟩) hlt1).trans hc1; go_simp)
    simp only [Act.put, List.setIfInBounds_toArray, List.set_cons_zero, List.set_cons_succ]
    refine wpAnyH_take (i := 2) (oi := ⟨some 10, _, _, _, _, _⟩) (v := .int .i64 (u : Int)) rfl (by kernel_rfl) (by kernel_rfl) (by kernel_rfl) (fun _ _ _ h => h) (Or.inl ⟨by kernel_rfl, fun w' hSw => ?_⟩) hS ?_
    · go_simp
    simp only [Act.put, List.setIfInBounds_toArray, List.set_cons_zero, List.set_cons_succ]
    refine wpAnyH_ready (rs := [3, 5]) (by kernel_rfl) (by simp) ?_
    refine (AllReadyH.cons (o := ⟨some 11, _, _, _, _, _⟩) rfl (fun K hK => ?_) (AllReadyH.cons (o := ⟨some 7, _, _, _, _, _⟩) rfl (fun K hK => ?_) AllReadyH.nil))
    · rw [if_pos (by kernel_rfl)]
      go_simp
      refine (HN.out _).mono ?_
      rintro e v1 ⟨rfl, hq1⟩
      have hqz1 := hq1.size
      refine hK.out _ _ (hS.trans (hq1.mono (by first | exact hS.size | (have := hS.size; simp at this ⊢; omega)))) (fun hS => ?_)
      clear hK K
      refine wpAnyH_ready (rs := [4, 5]) (by kernel_rfl) (by simp) ?_
      refine (AllReadyH.cons (o := ⟨some 12, _, _, _, _, _⟩) rfl (fun K hK => ?_) (AllReadyH.cons (o := ⟨some 7, _, _, _, _, _⟩) rfl (fun K hK => ?_) AllReadyH.nil))
      · rw [if_pos (by kernel_rfl)]
        go_simp
        refine (HE.out _ (hD1.below hS)).mono ?_
        rintro e v2 ⟨rfl, hq2⟩
        have hqz2 := hq2.size
        refine hK.out _ _ (hS.trans (hq2.mono (by first | exact hS.size | (have := hS.size; simp at this ⊢; omega)))) (fun hS => ?_)
        clear hK K
        refine wpAnyH_ready (rs := [5]) (by kernel_rfl) (by simp) ?_
        refine (AllReadyH.cons (o := ⟨some 7, _, _, _, _, _⟩) rfl (fun K hK => ?_) AllReadyH.nil)
        rw [if_pos (by kernel_rfl)]
        go_simp
        have ha7 : Arr (v2.alloc (.cells #[.int .u8 0, .int .u8 0, .int .u8 0, .int .u8 0, .int .u8 0, .int .u8 0, .int .u8 0, .int .u8 0, .int .u8 0, .int .u8 0, .int .u8 0, .int .u8 0, .int .u8 0, .int .u8 0, .int .u8 0, .int .u8 0] 36)) (v2.heap.size) (fun _ => 0) := Arr.zero _ _ (by first | rfl | simp | simp [World.setRow])
        refine hK.out _ _ (hS.alloc hS.size _) (fun hS => ?_)
        clear hK K
        refine wpAnyH_ready (rs := [6]) (by kernel_rfl) (by simp) ?_
        refine (AllReadyH.cons (o := ⟨none, _, _, _, _, _⟩) rfl (fun K hK => ?_) AllReadyH.nil)
        rw [if_pos (by kernel_rfl)]
        refine wpo_store_arr (.tmp 7) (.tmp 12) rfl (v2.heap.size) (fun _ => 0) (byt t0) rfl rfl ha7 ?_
        have ha7 := ha7.setRow (h := byt t0)
        refine hK.out _ _ (below_setRow hS (by have := hS.size; first | omega | (simp at *; omega) | (simp [setRow_size] at *; omega)) _) (fun hS => ?_)
        clear hK K
        simp only [Act.put]
        refine wpAnyH_done (by kernel_rfl) ?_ _
        go_wp2_with fail
        go_meet
        case rel => exact ⟨_, rfl, (by have := hS.size; first | omega | (simp at *; omega) | (simp [setRow_size] at *; omega)), ha7, hS⟩
      · rw [if_pos (by kernel_rfl)]
        go_simp
        have ha7 : Arr (v1.alloc (.cells #[.int .u8 0, .int .u8 0, .int .u8 0, .int .u8 0, .int .u8 0, .int .u8 0, .int .u8 0, .int .u8 0, .int .u8 0, .int .u8 0, .int .u8 0, .int .u8 0, .int .u8 0, .int .u8 0, .int .u8 0, .int .u8 0] 36)) (v1.heap.size) (fun _ => 0) := Arr.zero _ _ (by first | rfl | simp | simp [World.setRow])
        refine hK.out _ _ (hS.alloc hS.size _) (fun hS => ?_)
        clear hK K
        refine wpAnyH_ready (rs := [4]) (by kernel_rfl) (by simp) ?_
        refine (AllReadyH.cons (o := ⟨some 12, _, _, _, _, _⟩) rfl (fun K hK => ?_) AllReadyH.nil)
        rw [if_pos (by kernel_rfl)]
        go_simp
        refine (HE.out _ (hD1.below hS)).mono ?_
        rintro e v2 ⟨rfl, hq2⟩
        have ha7 := ha7.below hq2 ha7.lt
        have hqz2 := hq2.size
        refine hK.out _ _ (hS.trans (hq2.mono (by first | exact hS.size | (have := hS.size; simp at this ⊢; omega)))) (fun hS => ?_)
        clear hK K
        refine wpAnyH_ready (rs := [6]) (by kernel_rfl) (by simp) ?_
        refine (AllReadyH.cons (o := ⟨none, _, _, _, _, _⟩) rfl (fun K hK => ?_) AllReadyH.nil)
        rw [if_pos (by kernel_rfl)]
        refine wpo_store_arr (.tmp 7) (.tmp 12) rfl (v1.heap.size) (fun _ => 0) (byt t0) rfl rfl ha7 ?_
        have ha7 := ha7.setRow (h := byt t0)
        refine hK.out _ _ (below_setRow hS (by have := hS.size; first | omega | (simp at *; omega) | (simp [setRow_size] at *; omega)) _) (fun hS => ?_)
        clear hK K
        simp only [Act.put]
        refine wpAnyH_done (by kernel_rfl) ?_ _
        go_wp2_with fail
        go_meet
        case rel => exact ⟨_, rfl, (by have := hS.size; first | omega | (simp at *; omega) | (simp [setRow_size] at *; omega)), ha7, hS⟩
    · rw [if_pos (by kernel_rfl)]
      go_simp
      have ha7 : Arr (w1.drew.alloc (.cells #[.int .u8 0, .int .u8 0, .int .u8 0, .int .u8 0, .int .u8 0, .int .u8 0, .int .u8 0, .int .u8 0, .int .u8 0, .int .u8 0, .int .u8 0, .int .u8 0, .int .u8 0, .int .u8 0, .int .u8 0, .int .u8 0] 36)) (w1.heap.size) (fun _ => 0) := Arr.zero _ _ (by first | rfl | simp | simp [World.setRow])
      refine hK.out _ _ (hS.alloc hS.size _) (fun hS => ?_)
      clear hK K
      refine wpAnyH_ready (rs := [3]) (by kernel_rfl) (by simp) ?_
      refine (AllReadyH.cons (o := ⟨some 11, _, _, _, _, _⟩) rfl (fun K hK => ?_) AllReadyH.nil)
      rw [if_pos (by kernel_rfl)]
      go_simp
      refine (HN.out _).mono ?_
      rintro e v1 ⟨rfl, hq1⟩
      have ha7 := ha7.below hq1 ha7.lt
      have hqz1 := hq1.size
      refine hK.out _ _ (hS.trans (hq1.mono (by first | exact hS.size | (have := hS.size; simp at this ⊢; omega)))) (fun hS => ?_)
      clear hK K
      refine wpAnyH_ready (rs := [4]) (by kernel_rfl) (by simp) ?_
      refine (AllReadyH.cons (o := ⟨some 12, _, _, _, _, _⟩) rfl (fun K hK => ?_) AllReadyH.nil)
      rw [if_pos (by kernel_rfl)]
      go_simp
      refine (HE.out _ (hD1.below hS)).mono ?_
      rintro e v2 ⟨rfl, hq2⟩
      have ha7 := ha7.below hq2 ha7.lt
      have hqz2 := hq2.size
      refine hK.out _ _ (hS.trans (hq2.mono (by first | exact hS.size | (have := hS.size; simp at this ⊢; omega)))) (fun hS => ?_)
      clear hK K
      refine wpAnyH_ready (rs := [6]) (by kernel_rfl) (by simp) ?_
      refine (AllReadyH.cons (o := ⟨none, _, _, _, _, _⟩) rfl (fun K hK => ?_) AllReadyH.nil)
      rw [if_pos (by kernel_rfl)]
      refine wpo_store_arr (.tmp 7) (.tmp 12) rfl (w1.heap.size) (fun _ => 0) (byt t0) rfl rfl ha7 ?_
      have ha7 := ha7.setRow (h := byt t0)
      refine hK.out _ _ (below_setRow hS (by have := hS.size; first | omega | (simp at *; omega) | (simp [setRow_size] at *; omega)) _) (fun hS => ?_)
      clear hK K
      simp only [Act.put]
      refine wpAnyH_done (by kernel_rfl) ?_ _
      go_wp2_with fail
      go_meet
      case rel => exact ⟨_, rfl, (by have := hS.size; first | omega | (simp at *; omega) | (simp [setRow_size] at *; omega)), ha7, hS⟩
  case rest =>
    obtain ⟨g, rfl, hg, hA, hb2⟩ := hcut
    have hz2 := hb2.size
    have hgl := hA.lt
    have hw2 := hb0.trans (hb2.mono hz1)
    clear hP hD1 hc1 hD HE HN hb0 hb2
    rw [HT0.out] at hA
    clear HT0
    go_wp2_with fail
    go_loopw [6, 14] (fun o i wr => ∃ (k : Nat), i = .int .i64 (k : Int) ∧ k ≤ n ∧ OwnB wr wc.heap.size o (twL k2 u k) ∧ Arr wr g (byt (twN k2 u k)) ∧ Below w.heap.size w wr ∧ wc.heap.size ≤ wr.heap.size) (fun _ i _ => n - (intOf i).toNat)
    case atStart => exact ⟨0, rfl, by omega, ownB_nil _ _, hA, hw2, Nat.le_refl _⟩
    case round =>
      clear hA hw2
      obtain ⟨k, rfl, hk, hO, hA, hB, hz⟩ := hrel
      by_cases hkn : k = n
      · subst hkn
        go_wp2_with fail
        go_ret
        exact ⟨_, rfl, hO.le (by omega), hB⟩
      · have hk2 : k < n := by omega
        clear hkn
        obtain ⟨v, hv⟩ : ∃ v, v = twN k2 u k := ⟨_, rfl⟩
        have hvl : v < 2 ^ 128 := by rw [hv]; exact twN_lt _ _ _
        have HV : Box (twN k2 u (k + 1) = dbl v) := ⟨by rw [hv]; rfl⟩
        have HL : Box (twL k2 u (k + 1) = twL k2 u k ++ [v]) := ⟨by rw [hv]; exact twL_succ _ _ _⟩
        have HD2 : Box (∀ w, Calls Try.prog 39 #[.agg (bv (byt v))] w fun e w' => e = .returned (.agg (bv (byt (dbl v)))) ∧ Below w.heap.size w w') := ⟨fun w => double_any v hvl w⟩
        rw [← hv] at hA
        have hlen : (twL k2 u k).length ≤ 256 := by rw [twL_len]; omega
        have HLEN := Box.mk hlen
        clear hv hlen
        obtain ⟨l, hl⟩ : ∃ l, twL k2 u k = l := ⟨_, rfl⟩
        rw [hl] at hO HL HLEN
        clear hl
        go_wp2_with (first
            | ((with_reducible show wpList _ _ _ (⟨some 17, Op.load 36 (.tmp 7), _, _, _, _⟩ :: _) _ _); refine wp_load_arr rfl (.tmp 7) rfl (g) (byt v) rfl (hA) ?_)
            | ((with_reducible show wpList _ _ _ (⟨some 18, Op.buildSlice 46 1 _, _, _, _, _⟩ :: _) _ _); refine wpList_one rfl (.tmp 17) rfl (byt v) rfl ?_)
            | ((with_reducible show wpList _ _ _ (⟨some 19, Op.call _, _, _, _, _⟩ :: _) _ _); refine wp_appB rfl (.tmp 16) (.tmp 18) rfl (wc.heap.size) _ (l) rfl (hO.alloc _) (some ⟨wr.heap.size, 0, none⟩) (1) (1) ([v]) rfl (blocks_one _ _ v rfl hvl) (by have := HLEN.out; omega) (by simp; omega) ?_; intro v2 w3 g1 g2 g3; have hA3 : Arr w3 g (byt v) := (hA.alloc _).grown g2 (fun h => by have := (hO.ge g h.symm).1; omega); have hB3 : Below w.heap.size w w3 := grown_below (hB.alloc hB.size _) g2 (by have := hB.size; simp; omega) (fun k hk => by have := (hO.ge k hk).1; omega); have hz3 : wc.heap.size ≤ w3.heap.size := (by have := g2.size; simp at this; omega); have hO3 := g1; clear g1 g2 g3 hA hB hO)
            | ((with_reducible show wpList _ _ _ (⟨some 20, Op.load 36 (.tmp 7), _, _, _, _⟩ :: _) _ _); refine wp_load_arr rfl (.tmp 7) rfl (g) (byt v) rfl (hA3) ?_))
        have hA4 := hA3
        refine (HD2.out _).mono ?_
        rintro e w4 ⟨rfl, hb4⟩
        have hA5 := hA4.below hb4 hA4.lt
        have hO5 := hO3.below hb4 (Nat.le_refl _)
        have hB5 := hB3.trans (hb4.mono hB3.size)
        have hz5 : wc.heap.size ≤ w4.heap.size := by have := hb4.size; omega
        have hO6 := hO5.setRow (g := g) (fun h => by have := (hO5.ge g h).1; omega) (bv (byt (dbl v)))
        have hA6 := hA5.setRow (h := byt (dbl v))
        have hB6 := below_setRow hB5 (show w.heap.size ≤ g by omega) (bv (byt (dbl v)))
        clear hO3 hA3 hA4 hB3 hO5 hB5
        go_wp2_with (first
            | ((with_reducible show wpList _ _ _ (⟨_, Op.store 36 (.tmp 7) (.tmp 21), _, _, _, _⟩ :: _) _ _); refine wp_store_arr rfl (.tmp 7) (.tmp 21) rfl (g) (byt v) (byt (dbl v)) rfl rfl (hA5) ?_))
        go_roundw
        case rel => exact ⟨k + 1, by go_num, by omega, by rw [HL.out]; exact hO6, by rw [HV.out]; exact hA6, hB6, by simp only [setRow_size]; exact hz5⟩
        case measure => simp [intOf]; omega
theorem open_yes (A : Option Addr) (n c : Nat) (l : List Nat) (u : Int) (w : World) (hl : Bytes w A n l) (hc : n ≤ c) (h : MayX n u) :
    Calls Try.prog 91 #[.slice A n c, .int .i64 u] w (OpenYes (half1 l) (half2 l) w) := by
  obtain ⟨hn, h1, h2⟩ := h
  obtain ⟨ad, hA, _⟩ := hl.2.2.2 (by omega)
  subst hA
  rcases hn with rfl | rfl
  · exact open_yes32 ad c l u w hl hc h1 h2
  · exact open_yes64 ad c l u w hl hc h1 h2
/-- what Tweaks tells of what may be -/
def TweaksQ (k2 : List Nat) (u n : Nat) (w : World) (e : Ending) (w' : World) : Prop := ∃ v, e = .returned (.tuple #[v, .int .i64 0]) ∧ OwnB w' w.heap.size v (twL k2 u n) ∧ Below w.heap.size w w'
/-- what is refused -/
def NoRow (w : World) (e : Ending) (w' : World) : Prop := e = .returned (.tuple #[.slice none 0 0, .int .i64 1]) ∧ Below w.heap.size w w'
set_option maxRecDepth 100000 in
set_option maxHeartbeats 1000000 in
theorem tweaks_noA (A : Option Addr) (n c : Nat) (u m : Int) (w : World) (h : ¬ MayX n u) : Calls Try.prog 72 #[.slice A n c, .int .i64 u, .int .i64 m] w (NoRow w) := by
  have HO := Box.mk (fun w => open_no A n c u w h)
  clear h
  go_enter Try.func72, Try.ntmps72
  go_wp2_with fail
  refine (HO.out _).mono ?_
  rintro e w1 ⟨rfl, hb1⟩
  go_wp2_with fail
  go_ret2
  exact ⟨rfl, hb1.alloc hb1.size _⟩
set_option maxRecDepth 100000 in
set_option maxHeartbeats 1000000 in
theorem tweaks_noB (A : Option Addr) (n c : Nat) (l : List Nat) (u m : Int) (w : World) (hl : Bytes w A n l) (hc : n ≤ c) (h : MayX n u) (h3 : m < 0) : Calls Try.prog 72 #[.slice A n c, .int .i64 u, .int .i64 m] w (NoRow w) := by
  have HO := Box.mk (fun w hl => open_yes A n c l u w hl hc h)
  clear h
  go_enter Try.func72, Try.ntmps72
  go_wp2_with fail
  refine (HO.out _ hl).mono ?_
  rintro e w1 ⟨C, D, rfl, hC, hD, hb1⟩
  go_wp2_with ((with_reducible show wpList _ _ _ (⟨_, Op.store 106 (.tmp 8) (.tmp 14), _, _, _, _⟩ :: _) _ _); refine wp_store106 rfl (.tmp 8) (.tmp 14) rfl w1.heap.size (.pointer none) (.pointer none) _ _ rfl rfl (PairV.new _ _ _ _ rfl) rfl rfl ?_)
  go_ret2
  exact ⟨rfl, below_setRow (hb1.alloc hb1.size _) hb1.size _⟩
set_option maxRecDepth 100000 in
set_option maxHeartbeats 1000000 in
theorem tweaks_noC (A : Option Addr) (n c : Nat) (l : List Nat) (u m : Int) (w : World) (hl : Bytes w A n l) (hc : n ≤ c) (h : MayX n u) (h3 : 0 ≤ m) (h4 : 256 < m) : Calls Try.prog 72 #[.slice A n c, .int .i64 u, .int .i64 m] w (NoRow w) := by
  have HO := Box.mk (fun w hl => open_yes A n c l u w hl hc h)
  clear h
  go_enter Try.func72, Try.ntmps72
  go_wp2_with fail
  refine (HO.out _ hl).mono ?_
  rintro e w1 ⟨C, D, rfl, hC, hD, hb1⟩
  go_wp2_with ((with_reducible show wpList _ _ _ (⟨_, Op.store 106 (.tmp 8) (.tmp 14), _, _, _, _⟩ :: _) _ _); refine wp_store106 rfl (.tmp 8) (.tmp 14) rfl w1.heap.size (.pointer none) (.pointer none) _ _ rfl rfl (PairV.new _ _ _ _ rfl) rfl rfl ?_)
  go_ret2
  exact ⟨rfl, below_setRow (hb1.alloc hb1.size _) hb1.size _⟩
set_option maxRecDepth 100000 in
set_option maxHeartbeats 1000000 in
theorem tweaks_yes (A : Option Addr) (n c : Nat) (l : List Nat) (u m : Nat) (w : World) (hl : Bytes w A n l) (hc : n ≤ c) (h : MayX n (u : Int)) (hm : m ≤ 256) : Calls Try.prog 72 #[.slice A n c, .int .i64 (u : Int), .int .i64 (m : Int)] w (TweaksQ (half2 l) u m w) := by
  have HO := Box.mk (fun w hl => open_yes A n c l u w hl hc h)
  have hk : MayK (half2 l).length := half2_may (by rw [hl.1]; exact h.1)
  have hu : u < 9223372036854775808 := by have := h.2.2; omega
  have HT : Box (∀ (C D : Nat) (w : World), Ciph w D (words (half2 l)) → Calls Try.prog 92 #[.agg #[.pointer (some ⟨C, 0, none⟩), .pointer (some ⟨D, 0, none⟩)], .int .i64 (u : Int), .int .i64 (m : Int)] w (TwQ (half2 l) u m w)) := ⟨fun C D w hD => tweaks_walk C D _ u m hk hu hm w hD⟩
  clear h hk hu
  go_enter Try.func72, Try.ntmps72
  go_wp2_with fail
  refine (HO.out _ hl).mono ?_
  rintro e w1 ⟨C, D, rfl, hC, hD, hb1⟩
  have hP : PairV ((w1.alloc (.cells #[.pointer none, .pointer none] 106)).setRow w1.heap.size #[.pointer (some ⟨C, 0, none⟩), .pointer (some ⟨D, 0, none⟩)]) w1.heap.size (.pointer (some ⟨C, 0, none⟩)) (.pointer (some ⟨D, 0, none⟩)) := (PairV.new w1 (.pointer none) (.pointer none) _ rfl).setRow
  go_wp2_with (first
    | ((with_reducible show wpList _ _ _ (⟨_, Op.store 106 (.tmp 8) (.tmp 14), _, _, _, _⟩ :: _) _ _); refine wp_store106 rfl (.tmp 8) (.tmp 14) rfl w1.heap.size (.pointer none) (.pointer none) _ _ rfl rfl (PairV.new _ _ _ _ rfl) rfl rfl ?_)
    | ((with_reducible show wpList _ _ _ (⟨some 26, Op.load 106 (.tmp 8), _, _, _, _⟩ :: _) _ _); refine wp_load106 rfl (.tmp 8) rfl w1.heap.size _ _ rfl hP ?_))
  have hbW : Below w1.heap.size w1 ((w1.alloc (.cells #[.pointer none, .pointer none] 106)).setRow w1.heap.size #[.pointer (some ⟨C, 0, none⟩), .pointer (some ⟨D, 0, none⟩)]) := below_setRow ((Below.refl _ _).alloc (Nat.le_refl _) _) (Nat.le_refl _) _
  clear hP
  revert hbW
  generalize (w1.alloc (.cells #[.pointer none, .pointer none] 106)).setRow w1.heap.size #[.pointer (some ⟨C, 0, none⟩), .pointer (some ⟨D, 0, none⟩)] = w2
  intro hbW
  refine (HT.out C D _ (hD.below hbW)).mono ?_
  rintro e w3 ⟨v, rfl, hO, hb3⟩
  have hw2 := hb1.trans (hbW.mono hb1.size)
  go_wp2_with fail
  go_ret2
  exact ⟨v, rfl, hO.le hw2.size, hw2.trans (hb3.mono hw2.size)⟩
/-- a test's answer -/
def BoolQ (b : Bool) (w : World) (e : Ending) (w' : World) : Prop := e = .returned (.bool b) ∧ Below w.heap.size w w'
set_option maxRecDepth 100000 in
set_option maxHeartbeats 1000000 in
theorem may_noA (A : Option Addr) (n c : Nat) (u : Int) (B : Option Addr) (m c1 : Nat) (w : World) (h : ¬ MayX n u) : Calls Try.prog 94 #[.slice A n c, .int .i64 u, .slice B m c1] w (BoolQ false w) := by
  have HO := Box.mk (fun w => open_no A n c u w h)
  clear h
  go_enter Try.func94, Try.ntmps94
  go_wp2_with fail
  refine (HO.out _).mono ?_
  rintro e w1 ⟨rfl, hb1⟩
  go_wp2_with fail
  go_ret
  exact ⟨rfl, hb1.alloc hb1.size _⟩
set_option maxRecDepth 100000 in
set_option maxHeartbeats 1000000 in
theorem may_noB (A : Option Addr) (n c : Nat) (l : List Nat) (u : Int) (B : Option Addr) (m c1 : Nat) (w : World) (hl : Bytes w A n l) (hc : n ≤ c) (h : MayX n u) (h3 : ((m : Int) % 16 == 0) = false) : Calls Try.prog 94 #[.slice A n c, .int .i64 u, .slice B m c1] w (BoolQ false w) := by
  have HO := Box.mk (fun w hl => open_yes A n c l u w hl hc h)
  clear h
  go_enter Try.func94, Try.ntmps94
  go_wp2_with fail
  refine (HO.out _ hl).mono ?_
  rintro e w1 ⟨C, D, rfl, hC, hD, hb1⟩
  go_wp2_with ((with_reducible show wpList _ _ _ (⟨_, Op.store 106 (.tmp 7) (.tmp 13), _, _, _, _⟩ :: _) _ _); refine wp_store106 rfl (.tmp 7) (.tmp 13) rfl w1.heap.size (.pointer none) (.pointer none) _ _ rfl rfl (PairV.new _ _ _ _ rfl) rfl rfl ?_)
  go_ret
  exact ⟨rfl, below_setRow (hb1.alloc hb1.size _) hb1.size _⟩
set_option maxRecDepth 100000 in
set_option maxHeartbeats 1000000 in
theorem may_noC (A : Option Addr) (n c : Nat) (l : List Nat) (u : Int) (B : Option Addr) (m c1 : Nat) (w : World) (hl : Bytes w A n l) (hc : n ≤ c) (h : MayX n u) (h3 : ((m : Int) % 16 == 0) = true) (h4 : decide ((m : Int) ≤ 4096) = false) : Calls Try.prog 94 #[.slice A n c, .int .i64 u, .slice B m c1] w (BoolQ false w) := by
  have HO := Box.mk (fun w hl => open_yes A n c l u w hl hc h)
  clear h
  go_enter Try.func94, Try.ntmps94
  go_wp2_with fail
  refine (HO.out _ hl).mono ?_
  rintro e w1 ⟨C, D, rfl, hC, hD, hb1⟩
  go_wp2_with ((with_reducible show wpList _ _ _ (⟨_, Op.store 106 (.tmp 7) (.tmp 13), _, _, _, _⟩ :: _) _ _); refine wp_store106 rfl (.tmp 7) (.tmp 13) rfl w1.heap.size (.pointer none) (.pointer none) _ _ rfl rfl (PairV.new _ _ _ _ rfl) rfl rfl ?_)
  go_ret
  exact ⟨rfl, below_setRow (hb1.alloc hb1.size _) hb1.size _⟩
set_option maxRecDepth 100000 in
set_option maxHeartbeats 1000000 in
theorem may_yes (A : Option Addr) (n c : Nat) (l : List Nat) (u : Int) (B : Option Addr) (m c1 : Nat) (w : World) (hl : Bytes w A n l) (hc : n ≤ c) (h : MayX n u) (h3 : ((m : Int) % 16 == 0) = true) (h4 : decide ((m : Int) ≤ 4096) = true) : Calls Try.prog 94 #[.slice A n c, .int .i64 u, .slice B m c1] w (BoolQ true w) := by
  have HO := Box.mk (fun w hl => open_yes A n c l u w hl hc h)
  clear h
  go_enter Try.func94, Try.ntmps94
  go_wp2_with fail
  refine (HO.out _ hl).mono ?_
  rintro e w1 ⟨C, D, rfl, hC, hD, hb1⟩
  go_wp2_with ((with_reducible show wpList _ _ _ (⟨_, Op.store 106 (.tmp 7) (.tmp 13), _, _, _, _⟩ :: _) _ _); refine wp_store106 rfl (.tmp 7) (.tmp 13) rfl w1.heap.size (.pointer none) (.pointer none) _ _ rfl rfl (PairV.new _ _ _ _ rfl) rfl rfl ?_)
  go_ret
  exact ⟨rfl, below_setRow (hb1.alloc hb1.size _) hb1.size _⟩
end Go.Proofs.Ytibfihjcjohadaa
