/-
  The walks of xts.open, of a unit's tweaks, of Tweaks and of May. Conditions: numbers in their bounds.
-/
import Derived.Test.YtibfihjcjohadaaXA
import Derived.Deep.CutRange
namespace Go.Proofs.Ytibfihjcjohadaa
open Go.RowKit Go.Op
open Aes (words words_len)
open Twk (byt dbl hlv tm byt_lt dbl_lt tm_lt up down xor_lt128 byt_xor)
/-- block g holds a pair of ciphers -/
def PairV (w : World) (g : Nat) (p q : Value) : Prop := w.heap[g]? = some (.cells #[p, q] 106 (0, 0))
theorem PairV.lt {w : World} {g : Nat} {p q : Value} (h : PairV w g p q) : g < w.heap.size := by
  rcases Nat.lt_or_ge g w.heap.size with hlt | hge
  · exact hlt
  · unfold PairV at h; rw [Array.getElem?_eq_none hge] at h; cases h
theorem PairV.c0 {w : World} {g : Nat} {p q : Value} (h : PairV w g p q) : w.cell? ⟨g, 0, none⟩ = some p := by rw [cell_of_row w g 0 _ 106 (0, 0) h]; rfl
theorem PairV.c1 {w : World} {g : Nat} {p q : Value} (h : PairV w g p q) : w.cell? ⟨g, 1, none⟩ = some q := by rw [cell_of_row w g 1 _ 106 (0, 0) h]; rfl
theorem PairV.free {w : World} {g : Nat} {p q : Value} (h : PairV w g p q) (i : Nat) : w.frozen? ⟨g, i, none⟩ = false := frozen_of_row w g i _ 106 h
theorem PairV.set0 {w : World} {g : Nat} {p q u : Value} (h : PairV w g p q) : PairV (w.setCell ⟨g, 0, none⟩ u) g u q := heap_setCell_same w g 0 _ 106 u h
theorem PairV.set1 {w : World} {g : Nat} {p q u : Value} (h : PairV w g p q) : PairV (w.setCell ⟨g, 1, none⟩ u) g p u := heap_setCell_same w g 1 _ 106 u h
theorem PairV.below {w w' : World} {B g : Nat} {p q : Value} (h : PairV w g p q) (hb : Below B w w') (hg : g < B) : PairV w' g p q := (hb.block g hg).trans h
theorem PairV.new (w : World) (p q : Value) (g : Nat) (hg : g = w.heap.size) : PairV (w.alloc (.cells #[p, q] 106)) g p q := by subst hg; exact heap_alloc_new w _
theorem size106 : (Try.prog.info? 106).map (·.size) = some 2 := by kernel_rfl
/-- a whole pair is read -/
theorem wp_load106 {ops : Array Oper} {rest : List Oper} {o : Oper} {a : Act} {w : World} {Q : Exit → Act → World → Prop} (hgd : o.guard = none) (x : Operand) (ho : o.op = .load 106 x)
    (g : Nat) (p q : Value) (hx : a.eval x = .pointer (some ⟨g, 0, none⟩)) (ha : PairV w g p q)
    (h : wpList Try.prog ops Q rest (a.put o.dst (.agg #[p, q])) w) : wpList Try.prog ops Q (o :: rest) a w :=
  wpList_load_row hgd 106 x ho g hx 106 #[p, q] (0, 0) _ ha Try.underlying106 rfl size106 h
/-- a whole pair is stored -/
theorem wp_store106 {ops : Array Oper} {rest : List Oper} {o : Oper} {a : Act} {w : World} {Q : Exit → Act → World → Prop} (hgd : o.guard = none) (x y : Operand) (ho : o.op = .store 106 x y)
    (g : Nat) (p q p' q' : Value) (hx : a.eval x = .pointer (some ⟨g, 0, none⟩)) (hy : a.eval y = .agg #[p', q']) (ha : PairV w g p q) (h1 : p'.oneCell' = true) (h2 : q'.oneCell' = true)
    (h : wpList Try.prog ops Q rest (a.put o.dst undef) (w.setRow g #[p', q'])) : wpList Try.prog ops Q (o :: rest) a w :=
  wpList_store_row hgd 106 x y ho g #[p', q'] hx hy 106 #[p, q] ha size106 rfl (by simp [h1, h2]) h
theorem PairV.setRow {w : World} {g : Nat} {p q p' q' : Value} (h : PairV w g p q) : PairV (w.setRow g #[p', q']) g p' q' := by
  unfold PairV at h ⊢
  simp [World.setRow, Array.getElem?_modify, h]
theorem results106 {fn : Func} {p : Tmp} {s : Tmp} (h : fn.results = #[.cell p 106, .tmp s]) (tmps : Array Value) (w : World) (g : Nat) (a b v : Value)
    (hp : tmps.getD p undef = .pointer (some ⟨g, 0, none⟩)) (hs : tmps.getD s undef = v) (ha : PairV w g a b) : (results fn tmps).run Try.prog w = .ok (.tuple #[.agg #[a, b], v]) w := by
  have l1 := run_loadVar_row (P := Try.prog) w g 106 106 #[a, b] (0, 0) _ ha Try.underlying106 rfl size106
  have hp' : tmps[p]?.getD undef = .pointer (some ⟨g, 0, none⟩) := by simpa using hp
  have hs' : tmps[s]?.getD undef = v := by simpa using hs
  simp [results, h, hp', hs', asAddr, l1]
/-- a row stored below B leaves a cipher as it is -/
theorem CiphF.setRow {w : World} {B C : Nat} {ws : List Nat} (h : CiphF w B C ws) (g : Nat) (c : Array Value) (hp : g < B) : CiphF (w.setRow g c) B C ws := by
  obtain ⟨T, A, cc, h1, h2, h3, h4, h5, h6⟩ := h
  have e1 : ∀ k, B ≤ k → (w.setRow g c).heap[k]? = w.heap[k]? := fun k hk => by
    simp only [World.setRow]
    rw [Array.getElem?_modify, if_neg (by omega)]
  refine ⟨T, A, cc, (e1 C h4).trans h1, h2.of_block (e1 T h5), ?_, h4, h5, h6⟩
  obtain ⟨k1, k2, k3, k4⟩ := h3
  refine ⟨k1, k2, k3, fun hn => ?_⟩
  obtain ⟨ad, e, hc⟩ := k4 hn
  refine ⟨ad, e, fun j hj => ?_⟩
  have hb := h6 ad e
  have e2 : (ad.add j).block = ad.block := block_of_add ad j
  rw [← hc j hj]
  unfold World.cell?
  rw [e1 _ (by omega)]
/-- may a key and a unit be? -/
def MayX (n : Nat) (u : Int) : Prop := (n = 32 ∨ n = 64) ∧ 0 ≤ u ∧ u ≤ 1099511627776
/-- what open tells of what may not be -/
def OpenNo (w : World) (e : Ending) (w' : World) : Prop := e = .returned (.tuple #[.agg #[.pointer none, .pointer none], .int .i64 1]) ∧ Below w.heap.size w w'
/-- what open tells of what may be -/
def OpenYes (k1 k2 : List Nat) (w : World) (e : Ending) (w' : World) : Prop := ∃ C D, e = .returned (.tuple #[.agg #[.pointer (some ⟨C, 0, none⟩), .pointer (some ⟨D, 0, none⟩)], .int .i64 0]) ∧ Ciph w' C (words k1) ∧ Ciph w' D (words k2) ∧ Below w.heap.size w w'
/-- the halves of a key -/
def half1 (l : List Nat) : List Nat := l.take (l.length / 2)
def half2 (l : List Nat) : List Nat := l.drop (l.length / 2)
theorem half1_may {l : List Nat} (h : l.length = 32 ∨ l.length = 64) : MayK (half1 l).length := by unfold half1 MayK; rw [List.length_take]; omega
theorem half2_may {l : List Nat} (h : l.length = 32 ∨ l.length = 64) : MayK (half2 l).length := by unfold half2 MayK; rw [List.length_drop]; omega
set_option maxRecDepth 100000 in
set_option maxHeartbeats 1000000 in
theorem open_noN (A : Option Addr) (n c : Nat) (u : Int) (w : World) (h1 : ((n : Int) != 32) = true) (h2 : ((n : Int) != 64) = true) : Calls Try.prog 91 #[.slice A n c, .int .i64 u] w (OpenNo w) := by
  go_enter Try.func91, Try.ntmps91
  go_wp2_with fail
  exact bodyPost_ret (v := .tuple #[.agg #[.pointer none, .pointer none], .int .i64 1]) (by simp [results, Try.results91, go_sem]) rfl ⟨rfl, (Below.refl _ _).alloc (Nat.le_refl _) _⟩
set_option maxRecDepth 100000 in
set_option maxHeartbeats 1000000 in
theorem open_noA32 (A : Option Addr) (n c : Nat) (u : Int) (w : World) (h1 : ((n : Int) != 32) = false) (h3 : u < 0) : Calls Try.prog 91 #[.slice A n c, .int .i64 u] w (OpenNo w) := by
  go_enter Try.func91, Try.ntmps91
  go_wp2_with fail
  exact bodyPost_ret (v := .tuple #[.agg #[.pointer none, .pointer none], .int .i64 1]) (by simp [results, Try.results91, go_sem]) rfl ⟨rfl, (Below.refl _ _).alloc (Nat.le_refl _) _⟩
set_option maxRecDepth 100000 in
set_option maxHeartbeats 1000000 in
theorem open_noB32 (A : Option Addr) (n c : Nat) (u : Int) (w : World) (h1 : ((n : Int) != 32) = false) (h3 : 0 ≤ u) (h4 : 1099511627776 < u) : Calls Try.prog 91 #[.slice A n c, .int .i64 u] w (OpenNo w) := by
  go_enter Try.func91, Try.ntmps91
  go_wp2_with fail
  exact bodyPost_ret (v := .tuple #[.agg #[.pointer none, .pointer none], .int .i64 1]) (by simp [results, Try.results91, go_sem]) rfl ⟨rfl, (Below.refl _ _).alloc (Nat.le_refl _) _⟩
set_option maxRecDepth 100000 in
set_option maxHeartbeats 1000000 in
theorem open_noA64 (A : Option Addr) (n c : Nat) (u : Int) (w : World) (h1 : ((n : Int) != 32) = true) (h2 : ((n : Int) != 64) = false) (h3 : u < 0) : Calls Try.prog 91 #[.slice A n c, .int .i64 u] w (OpenNo w) := by
  go_enter Try.func91, Try.ntmps91
  go_wp2_with fail
  exact bodyPost_ret (v := .tuple #[.agg #[.pointer none, .pointer none], .int .i64 1]) (by simp [results, Try.results91, go_sem]) rfl ⟨rfl, (Below.refl _ _).alloc (Nat.le_refl _) _⟩
set_option maxRecDepth 100000 in
set_option maxHeartbeats 1000000 in
theorem open_noB64 (A : Option Addr) (n c : Nat) (u : Int) (w : World) (h1 : ((n : Int) != 32) = true) (h2 : ((n : Int) != 64) = false) (h3 : 0 ≤ u) (h4 : 1099511627776 < u) : Calls Try.prog 91 #[.slice A n c, .int .i64 u] w (OpenNo w) := by
  go_enter Try.func91, Try.ntmps91
  go_wp2_with fail
  exact bodyPost_ret (v := .tuple #[.agg #[.pointer none, .pointer none], .int .i64 1]) (by simp [results, Try.results91, go_sem]) rfl ⟨rfl, (Below.refl _ _).alloc (Nat.le_refl _) _⟩
theorem open_no (A : Option Addr) (n c : Nat) (u : Int) (w : World) (h : ¬ MayX n u) : Calls Try.prog 91 #[.slice A n c, .int .i64 u] w (OpenNo w) := by
  unfold MayX at h
  by_cases h1 : n = 32
  · by_cases h3 : u < 0
    · exact open_noA32 A n c u w (by simp; omega) h3
    · exact open_noB32 A n c u w (by simp; omega) (by omega) (by omega)
  · by_cases h2 : n = 64
    · by_cases h3 : u < 0
      · exact open_noA64 A n c u w (by simp; omega) (by simp; omega) h3
      · exact open_noB64 A n c u w (by simp; omega) (by simp; omega) (by omega) (by omega)
    · exact open_noN A n c u w (by simp; omega) (by simp; omega)
set_option maxRecDepth 100000 in
set_option maxHeartbeats 2000000 in
theorem open_yes32 (ad : Addr) (c : Nat) (l : List Nat) (u : Int) (w : World) (hl : Bytes w (some ad) 32 l) (hc : 32 ≤ c) (h1 : 0 ≤ u) (h2 : u ≤ 1099511627776) :
    Calls Try.prog 91 #[.slice (some ad) 32 c, .int .i64 u] w (OpenYes (half1 l) (half2 l) w) := by
  have e1 : half1 l = l.take 16 := by unfold half1; rw [hl.1]
  have e2 : half2 l = l.drop 16 := by unfold half2; rw [hl.1]
  rw [e1, e2]
  clear e1 e2
  have hne : (c = 16) = False := by simp; omega
  have hP := PairV.new w (.pointer none) (.pointer none) w.heap.size rfl
  have hb0 : Below w.heap.size w (w.alloc (.cells #[.pointer none, .pointer none] 106)) := (Below.refl _ _).alloc (Nat.le_refl _) _
  go_enter Try.func91, Try.ntmps91
  go_wp2_with fail
  revert hP hb0
  generalize w.alloc (.cells #[.pointer none, .pointer none] 106) = w0
  intro hP hb0
  refine (new_any _ 16 c (l.take 16) _ ((hl.below hb0).take (by decide)) (by omega) (.inl rfl)).mono ?_
  rintro e w1 ⟨C, rfl, hC, hb1, hCF⟩
  have hP1 := hP.below hb1 hP.lt
  have hz1 := hb1.size
  have hlt := hP.lt
  have hw1 := hb0.trans (hb1.mono hb0.size)
  have c0 := hP1.c0
  have f0 := hP1.free 0
  have hP2 := hP1.set0 (u := .pointer (some ⟨C, 0, none⟩))
  have hCw : CiphF (w1.setCell ⟨w.heap.size, 0, none⟩ (.pointer (some ⟨C, 0, none⟩))) w0.heap.size C (words (l.take 16)) := hCF.setCell ⟨w.heap.size, 0, none⟩ _ hlt
  have hw2 : Below w.heap.size w (w1.setCell ⟨w.heap.size, 0, none⟩ (.pointer (some ⟨C, 0, none⟩))) := hw1.setCell (Nat.le_refl _) _
  clear hP1 hb1 hC hCF hP
  go_wp2_with fail
  revert hP2 hCw hw2
  generalize w1.setCell ⟨w.heap.size, 0, none⟩ (.pointer (some ⟨C, 0, none⟩)) = w2
  intro hP2 hCw hw2
  clear c0 f0 hz1 hw1
  have hD : Bytes w2 (some ⟨ad.block, ad.off + 16, none⟩) 16 (l.drop 16) := by
    have := (hl.below hw2).drop (h := 16) (by decide)
    rwa [add_lit _ _ (by decide)] at this
  refine (new_any _ 16 (c - 16) (l.drop 16) _ hD (by omega) (.inl rfl)).mono ?_
  rintro e w3 ⟨D, rfl, hDc, hb3, hDF⟩
  have hC3 := hCw.below hb3
  have hP3 := hP2.below hb3 hP2.lt
  have hz3 := hb3.size
  have hw3 := hw2.trans (hb3.mono hw2.size)
  have hlt2 := hP2.lt
  have c1 := hP3.c1
  have f1 := hP3.free 1
  have hP4 := hP3.set1 (u := .pointer (some ⟨D, 0, none⟩))
  have hD4 : CiphF (w3.setCell ⟨w.heap.size, 1, none⟩ (.pointer (some ⟨D, 0, none⟩))) w2.heap.size D (words (l.drop 16)) := (hDF.setCell ⟨w.heap.size, 1, none⟩ _ hlt2)
  have hw4 : Below w.heap.size w (w3.setCell ⟨w.heap.size, 1, none⟩ (.pointer (some ⟨D, 0, none⟩))) := hw3.setCell (Nat.le_refl _) _
  have hC4 := hC3.setCell ⟨w.heap.size, 1, none⟩ (.pointer (some ⟨D, 0, none⟩)) hlt
  clear hC3 hP3 hw3 hDc hDF hb3 hP2 hCw hw2
  go_upto_region 5 with fail
  go_wp2_with (first
    | ((with_reducible show wpList _ _ _ (⟨some 43, Op.load 106 (.tmp 4), _, _, _, _⟩ :: _) _ _); refine wp_load106 rfl (.tmp 4) rfl w.heap.size _ _ rfl hP4 ?_)
    | ((with_reducible show wpList _ _ _ (⟨_, Op.store 106 (.tmp 4) (.tmp 43), _, _, _, _⟩ :: _) _ _); refine wp_store106 rfl (.tmp 4) (.tmp 43) rfl w.heap.size _ _ _ _ rfl rfl hP4 rfl rfl ?_))
  exact bodyPost_ret (results106 rfl _ _ w.heap.size _ _ _ rfl rfl hP4.setRow) rfl ⟨C, D, rfl, (hC4.setRow _ _ hlt).ciph, (hD4.setRow _ _ hlt2).ciph, below_setRow hw4 (Nat.le_refl _) _⟩
set_option maxRecDepth 100000 in
set_option maxHeartbeats 2000000 in
theorem open_yes64 (ad : Addr) (c : Nat) (l : List Nat) (u : Int) (w : World) (hl : Bytes w (some ad) 64 l) (hc : 64 ≤ c) (h1 : 0 ≤ u) (h2 : u ≤ 1099511627776) :
    Calls Try.prog 91 #[.slice (some ad) 64 c, .int .i64 u] w (OpenYes (half1 l) (half2 l) w) := by
  have e1 : half1 l = l.take 32 := by unfold half1; rw [hl.1]
  have e2 : half2 l = l.drop 32 := by unfold half2; rw [hl.1]
  rw [e1, e2]
  clear e1 e2
  have hne : (c = 32) = False := by simp; omega
  have hP := PairV.new w (.pointer none) (.pointer none) w.heap.size rfl
  have hb0 : Below w.heap.size w (w.alloc (.cells #[.pointer none, .pointer none] 106)) := (Below.refl _ _).alloc (Nat.le_refl _) _
  go_enter Try.func91, Try.ntmps91
  go_wp2_with fail
  revert hP hb0
  generalize w.alloc (.cells #[.pointer none, .pointer none] 106) = w0
  intro hP hb0
  refine (new_any _ 32 c (l.take 32) _ ((hl.below hb0).take (by decide)) (by omega) (.inr rfl)).mono ?_
  rintro e w1 ⟨C, rfl, hC, hb1, hCF⟩
  have hP1 := hP.below hb1 hP.lt
  have hz1 := hb1.size
  have hlt := hP.lt
  have hw1 := hb0.trans (hb1.mono hb0.size)
  have c0 := hP1.c0
  have f0 := hP1.free 0
  have hP2 := hP1.set0 (u := .pointer (some ⟨C, 0, none⟩))
  have hCw : CiphF (w1.setCell ⟨w.heap.size, 0, none⟩ (.pointer (some ⟨C, 0, none⟩))) w0.heap.size C (words (l.take 32)) := hCF.setCell ⟨w.heap.size, 0, none⟩ _ hlt
  have hw2 : Below w.heap.size w (w1.setCell ⟨w.heap.size, 0, none⟩ (.pointer (some ⟨C, 0, none⟩))) := hw1.setCell (Nat.le_refl _) _
  clear hP1 hb1 hC hCF hP
  go_wp2_with fail
  revert hP2 hCw hw2
  generalize w1.setCell ⟨w.heap.size, 0, none⟩ (.pointer (some ⟨C, 0, none⟩)) = w2
  intro hP2 hCw hw2
  clear c0 f0 hz1 hw1
  have hD : Bytes w2 (some ⟨ad.block, ad.off + 32, none⟩) 32 (l.drop 32) := by
    have := (hl.below hw2).drop (h := 32) (by decide)
    rwa [add_lit _ _ (by decide)] at this
  refine (new_any _ 32 (c - 32) (l.drop 32) _ hD (by omega) (.inr rfl)).mono ?_
  rintro e w3 ⟨D, rfl, hDc, hb3, hDF⟩
  have hC3 := hCw.below hb3
  have hP3 := hP2.below hb3 hP2.lt
  have hz3 := hb3.size
  have hw3 := hw2.trans (hb3.mono hw2.size)
  have hlt2 := hP2.lt
  have c1 := hP3.c1
  have f1 := hP3.free 1
  have hP4 := hP3.set1 (u := .pointer (some ⟨D, 0, none⟩))
  have hD4 : CiphF (w3.setCell ⟨w.heap.size, 1, none⟩ (.pointer (some ⟨D, 0, none⟩))) w2.heap.size D (words (l.drop 32)) := (hDF.setCell ⟨w.heap.size, 1, none⟩ _ hlt2)
  have hw4 : Below w.heap.size w (w3.setCell ⟨w.heap.size, 1, none⟩ (.pointer (some ⟨D, 0, none⟩))) := hw3.setCell (Nat.le_refl _) _
  have hC4 := hC3.setCell ⟨w.heap.size, 1, none⟩ (.pointer (some ⟨D, 0, none⟩)) hlt
  clear hC3 hP3 hw3 hDc hDF hb3 hP2 hCw hw2
  go_upto_region 5 with fail
  go_wp2_with (first
    | ((with_reducible show wpList _ _ _ (⟨some 43, Op.load 106 (.tmp 4), _, _, _, _⟩ :: _) _ _); refine wp_load106 rfl (.tmp 4) rfl w.heap.size _ _ rfl hP4 ?_)
    | ((with_reducible show wpList _ _ _ (⟨_, Op.store 106 (.tmp 4) (.tmp 43), _, _, _, _⟩ :: _) _ _); refine wp_store106 rfl (.tmp 4) (.tmp 43) rfl w.heap.size _ _ _ _ rfl rfl hP4 rfl rfl ?_))
  exact bodyPost_ret (results106 rfl _ _ w.heap.size _ _ _ rfl rfl hP4.setRow) rfl ⟨C, D, rfl, (hC4.setRow _ _ hlt).ciph, (hD4.setRow _ _ hlt2).ciph, below_setRow hw4 (Nat.le_refl _) _⟩
end Go.Proofs.Ytibfihjcjohadaa
