/-
  The walks of xts.through, Encrypt and Decrypt. Conditions: what may be, or is refused; numbers in their bounds.
-/
import Derived.Test.YtibfihjcjohadaaXT
namespace Go.Proofs.Ytibfihjcjohadaa
open Go.RowKit Go.Op
open Aes (words words_len)
open Twk (byt dbl hlv tm byt_lt dbl_lt tm_lt up down xor_lt128 byt_xor)
theorem run_loadVar_at (w : World) (p : Addr) (f : Nat → Nat) (hc : ∀ j, j < 16 → w.cell? (p.add j) = some (cellOf (f j))) : (loadVar 36 p).run Try.prog w = .ok (.agg (bv f)) w := by
  have hl : (loadCells p (bl f).length).run Try.prog w = .ok (bl f).toArray w :=
    run_loadCells_list (P := Try.prog) w p (bl f) (fun j v hv => by
      have hj : j < 16 := by have := (List.getElem?_eq_some_iff.mp hv).1; rwa [bl_len] at this
      rw [hc j hj, ← hv]
      simp [bl, List.getElem?_map, List.getElem?_range hj])
  have hi := size36
  cases hq : Try.prog.info? 36 with
  | none => simp [hq] at hi
  | some i =>
    have hs : i.size = (bl f).length := by rw [bl_len]; simpa [hq] using hi
    have hagg : (isAgg 36).run Try.prog w = .ok true w := by
      unfold isAgg
      rw [Sem.run_bind, run_underlying Try.underlying36 w]
      rfl
    simp [loadVar, Sem.run_bind, hagg, sizeOf, typeInfo, hq, hs, hl]
    rfl
/-- a whole block at whatever address, in a region that draws its order -/
theorem yields_arr_at {ops : Array Oper} {S : World → Prop} {op : Oper} {a : Act} (hw : Region.wanted op (yielded ops a.tmps) = true) (x : Operand) (ho : op.op = .load 36 x)
    (p : Addr) (f : Nat → Nat) (hx : a.eval x = .pointer (some p)) (hS : ∀ w, S w → ∀ j, j < 16 → w.cell? (p.add j) = some (cellOf (f j))) : YieldsIf Try.prog ops S op (.agg (bv f)) a :=
  .inl ⟨hw, fun w hw' => by
    unfold execOp
    simp only [ho, hx, Instr.loadAt, Instr.sureAddr, Sem.run_bind, Sem.run_pure, Result.andThen_ok, run_loadVar_at w p f (hS w hw')]⟩
theorem run_arrayAt (a : Option Addr) (n c : Nat) (hn : 16 ≤ n) (w : World) : (Instr.arrayAt 36 (.slice a n c)).run Try.prog w = .ok (.pointer a) w := by
  unfold Instr.arrayAt
  simp [run_underlying Try.underlying36]
  omega
theorem xor_two (A : Option Addr) (c x y : Nat) (w : World) (h : Blocks w A 2 [x, y]) :
    Calls Try.prog 47 #[.slice A 2 c] w fun e w' => e = .returned (.agg (bv (byt (x ^^^ y)))) ∧ Below w.heap.size w w' := by
  have h1 := xor_any A 2 c [x, y] w h
  have e : nsum [x, y] = x ^^^ y := by simp [nsum]
  rw [e] at h1
  exact h1
set_option maxRecDepth 100000 in
set_option maxHeartbeats 1000000 in
theorem enc_clo (C D : Nat) (l : List Nat) (x : Nat) (hk : MayK l.length) (w : World) (hC : Ciph w C (words l)) :
    Calls Try.prog 89 #[.agg #[.pointer (some ⟨C, 0, none⟩), .pointer (some ⟨D, 0, none⟩)], .agg (bv (byt x))] w fun e w' => e = .returned (.agg (bv (byt (encN l x)))) ∧ Below w.heap.size w w' := by
  have HE : Box (∀ w, Ciph w C (words l) → Calls Try.prog 61 #[.pointer (some ⟨C, 0, none⟩), .agg (bv (byt x))] w fun e w' => e = .returned (.agg (bv (byt (encN l x)))) ∧ Below w.heap.size w w') := ⟨fun w h => encN_any C l x hk w h⟩
  generalize hy : encN l x = y at HE ⊢
  have hP : PairV (((w.alloc (.cells #[.pointer (some ⟨C, 0, none⟩), .pointer (some ⟨D, 0, none⟩)] 106)).alloc (.cells (bv (byt x)) 36)).alloc (.cells #[.int .u8 0, .int .u8 0, .int .u8 0, .int .u8 0, .int .u8 0, .int .u8 0, .int .u8 0, .int .u8 0, .int .u8 0, .int .u8 0, .int .u8 0, .int .u8 0, .int .u8 0, .int .u8 0, .int .u8 0, .int .u8 0] 36)) w.heap.size (.pointer (some ⟨C, 0, none⟩)) (.pointer (some ⟨D, 0, none⟩)) :=
    (Below.heap_alloc _ _ _ (by simp; omega)).trans ((Below.heap_alloc _ _ _ (by simp)).trans (PairV.new w _ _ _ rfl))
  have hA : Arr (((w.alloc (.cells #[.pointer (some ⟨C, 0, none⟩), .pointer (some ⟨D, 0, none⟩)] 106)).alloc (.cells (bv (byt x)) 36)).alloc (.cells #[.int .u8 0, .int .u8 0, .int .u8 0, .int .u8 0, .int .u8 0, .int .u8 0, .int .u8 0, .int .u8 0, .int .u8 0, .int .u8 0, .int .u8 0, .int .u8 0, .int .u8 0, .int .u8 0, .int .u8 0, .int .u8 0] 36)) (w.heap.size + 1) (byt x) := (Arr.new _ _ _ (by simp)).alloc _
  have hz : Arr (((w.alloc (.cells #[.pointer (some ⟨C, 0, none⟩), .pointer (some ⟨D, 0, none⟩)] 106)).alloc (.cells (bv (byt x)) 36)).alloc (.cells #[.int .u8 0, .int .u8 0, .int .u8 0, .int .u8 0, .int .u8 0, .int .u8 0, .int .u8 0, .int .u8 0, .int .u8 0, .int .u8 0, .int .u8 0, .int .u8 0, .int .u8 0, .int .u8 0, .int .u8 0, .int .u8 0] 36)) (w.heap.size + 1 + 1) (fun _ => 0) := Arr.zero _ _ (by simp)
  have hb : Below w.heap.size w (((w.alloc (.cells #[.pointer (some ⟨C, 0, none⟩), .pointer (some ⟨D, 0, none⟩)] 106)).alloc (.cells (bv (byt x)) 36)).alloc (.cells #[.int .u8 0, .int .u8 0, .int .u8 0, .int .u8 0, .int .u8 0, .int .u8 0, .int .u8 0, .int .u8 0, .int .u8 0, .int .u8 0, .int .u8 0, .int .u8 0, .int .u8 0, .int .u8 0, .int .u8 0, .int .u8 0] 36)) := (((Below.refl _ _).alloc (Nat.le_refl _) _).alloc (by simp) _).alloc (by simp; omega) _
  clear hk hy
  go_enter Try.func89, Try.ntmps89
  go_upto_region 1 with fail
  revert hP hA hz hb
  generalize ((w.alloc (.cells #[.pointer (some ⟨C, 0, none⟩), .pointer (some ⟨D, 0, none⟩)] 106)).alloc (.cells (bv (byt x)) 36)).alloc (.cells #[.int .u8 0, .int .u8 0, .int .u8 0, .int .u8 0, .int .u8 0, .int .u8 0, .int .u8 0, .int .u8 0, .int .u8 0, .int .u8 0, .int .u8 0, .int .u8 0, .int .u8 0, .int .u8 0, .int .u8 0, .int .u8 0] 36) = w1
  intro hP hA hz hb
  have c0 := hP.c0
  go_wp2_with (first
      | ((with_reducible show wpList _ _ _ (⟨some 7, Op.load 36 (.tmp 3), _, _, _, _⟩ :: _) _ _); refine wp_load_arr rfl (.tmp 3) rfl (w.heap.size + 1) (byt x) rfl (hA) ?_))
  refine (HE.out _ (hC.below hb)).mono ?_
  rintro e w2 ⟨rfl, hb2⟩
  have hz2 := hz.below hb2 hz.lt
  have hw2 := hb.trans (hb2.mono hb.size)
  clear hb2 c0
  go_wp2_with (first
      | ((with_reducible show wpList _ _ _ (⟨_, Op.store 36 (.tmp 4) (.tmp 8), _, _, _, _⟩ :: _) _ _); refine wp_store_arr rfl (.tmp 4) (.tmp 8) rfl (w.heap.size + 1 + 1) (fun _ => 0) (byt y) rfl rfl (hz2) ?_))
  exact bodyPost_ret (results_arr rfl _ _ (w.heap.size + 1 + 1) (byt y) rfl hz2.setRow) rfl ⟨rfl, below_setRow hw2 (by omega) _⟩
set_option maxRecDepth 100000 in
set_option maxHeartbeats 1000000 in
theorem dec_clo (C D : Nat) (l : List Nat) (x : Nat) (hk : MayK l.length) (w : World) (hC : Ciph w C (words l)) :
    Calls Try.prog 90 #[.agg #[.pointer (some ⟨C, 0, none⟩), .pointer (some ⟨D, 0, none⟩)], .agg (bv (byt x))] w fun e w' => e = .returned (.agg (bv (byt (decN l x)))) ∧ Below w.heap.size w w' := by
  have HE : Box (∀ w, Ciph w C (words l) → Calls Try.prog 60 #[.pointer (some ⟨C, 0, none⟩), .agg (bv (byt x))] w fun e w' => e = .returned (.agg (bv (byt (decN l x)))) ∧ Below w.heap.size w w') := ⟨fun w h => decN_any C l x hk w h⟩
  generalize hy : decN l x = y at HE ⊢
  have hP : PairV (((w.alloc (.cells #[.pointer (some ⟨C, 0, none⟩), .pointer (some ⟨D, 0, none⟩)] 106)).alloc (.cells (bv (byt x)) 36)).alloc (.cells #[.int .u8 0, .int .u8 0, .int .u8 0, .int .u8 0, .int .u8 0, .int .u8 0, .int .u8 0, .int .u8 0, .int .u8 0, .int .u8 0, .int .u8 0, .int .u8 0, .int .u8 0, .int .u8 0, .int .u8 0, .int .u8 0] 36)) w.heap.size (.pointer (some ⟨C, 0, none⟩)) (.pointer (some ⟨D, 0, none⟩)) :=
    (Below.heap_alloc _ _ _ (by simp; omega)).trans ((Below.heap_alloc _ _ _ (by simp)).trans (PairV.new w _ _ _ rfl))
  have hA : Arr (((w.alloc (.cells #[.pointer (some ⟨C, 0, none⟩), .pointer (some ⟨D, 0, none⟩)] 106)).alloc (.cells (bv (byt x)) 36)).alloc (.cells #[.int .u8 0, .int .u8 0, .int .u8 0, .int .u8 0, .int .u8 0, .int .u8 0, .int .u8 0, .int .u8 0, .int .u8 0, .int .u8 0, .int .u8 0, .int .u8 0, .int .u8 0, .int .u8 0, .int .u8 0, .int .u8 0] 36)) (w.heap.size + 1) (byt x) := (Arr.new _ _ _ (by simp)).alloc _
  have hz : Arr (((w.alloc (.cells #[.pointer (some ⟨C, 0, none⟩), .pointer (some ⟨D, 0, none⟩)] 106)).alloc (.cells (bv (byt x)) 36)).alloc (.cells #[.int .u8 0, .int .u8 0, .int .u8 0, .int .u8 0, .int .u8 0, .int .u8 0, .int .u8 0, .int .u8 0, .int .u8 0, .int .u8 0, .int .u8 0, .int .u8 0, .int .u8 0, .int .u8 0, .int .u8 0, .int .u8 0] 36)) (w.heap.size + 1 + 1) (fun _ => 0) := Arr.zero _ _ (by simp)
  have hb : Below w.heap.size w (((w.alloc (.cells #[.pointer (some ⟨C, 0, none⟩), .pointer (some ⟨D, 0, none⟩)] 106)).alloc (.cells (bv (byt x)) 36)).alloc (.cells #[.int .u8 0, .int .u8 0, .int .u8 0, .int .u8 0, .int .u8 0, .int .u8 0, .int .u8 0, .int .u8 0, .int .u8 0, .int .u8 0, .int .u8 0, .int .u8 0, .int .u8 0, .int .u8 0, .int .u8 0, .int .u8 0] 36)) := (((Below.refl _ _).alloc (Nat.le_refl _) _).alloc (by simp) _).alloc (by simp; omega) _
  clear hk hy
  go_enter Try.func90, Try.ntmps90
  go_upto_region 1 with fail
  revert hP hA hz hb
  generalize ((w.alloc (.cells #[.pointer (some ⟨C, 0, none⟩), .pointer (some ⟨D, 0, none⟩)] 106)).alloc (.cells (bv (byt x)) 36)).alloc (.cells #[.int .u8 0, .int .u8 0, .int .u8 0, .int .u8 0, .int .u8 0, .int .u8 0, .int .u8 0, .int .u8 0, .int .u8 0, .int .u8 0, .int .u8 0, .int .u8 0, .int .u8 0, .int .u8 0, .int .u8 0, .int .u8 0] 36) = w1
  intro hP hA hz hb
  have c0 := hP.c0
  go_wp2_with (first
      | ((with_reducible show wpList _ _ _ (⟨some 7, Op.load 36 (.tmp 3), _, _, _, _⟩ :: _) _ _); refine wp_load_arr rfl (.tmp 3) rfl (w.heap.size + 1) (byt x) rfl (hA) ?_))
  refine (HE.out _ (hC.below hb)).mono ?_
  rintro e w2 ⟨rfl, hb2⟩
  have hz2 := hz.below hb2 hz.lt
  have hw2 := hb.trans (hb2.mono hb.size)
  clear hb2 c0
  go_wp2_with (first
      | ((with_reducible show wpList _ _ _ (⟨_, Op.store 36 (.tmp 4) (.tmp 8), _, _, _, _⟩ :: _) _ _); refine wp_store_arr rfl (.tmp 4) (.tmp 8) rfl (w.heap.size + 1 + 1) (fun _ => 0) (byt y) rfl rfl (hz2) ?_))
  exact bodyPost_ret (results_arr rfl _ _ (w.heap.size + 1 + 1) (byt y) rfl hz2.setRow) rfl ⟨rfl, below_setRow hw2 (by omega) _⟩
/-- what goes through -/
def ThrQ (back : Bool) (k1 k2 : List Nat) (u : Nat) (d : List Nat) (n : Nat) (w : World) (e : Ending) (w' : World) : Prop := ∃ v, e = .returned (.tuple #[v, .int .i64 0]) ∧ Own w' w.heap.size v (xtL back k1 k2 u d n) ∧ Below w.heap.size w w'
set_option maxRecDepth 100000 in
set_option maxHeartbeats 8000000 in
theorem thre_yes (A : Option Addr) (n c : Nat) (l : List Nat) (u : Nat) (ad : Addr) (m c1 : Nat) (d : List Nat) (w : World) (hl : Bytes w A n l) (hc : n ≤ c) (h : MayX n (u : Int)) (hd : Bytes w (some ad) m d) (hc1 : m ≤ c1) (hm : m % 16 = 0) (hm2 : m ≤ 4096) (hm0 : 0 < m) :
    Calls Try.prog 88 #[.slice A n c, .int .i64 (u : Int), .slice (some ad) m c1, .func (Fn.func 89) #[] #[]] w (ThrQ false (half1 l) (half2 l) u d (m / 16) w) := by
  have hk1 : MayK (half1 l).length := half1_may (by rw [hl.1]; exact h.1)
  have hk2 : MayK (half2 l).length := half2_may (by rw [hl.1]; exact h.1)
  have hu : u < 9223372036854775808 := by have := h.2.2; omega
  have HM := Box.mk (fun w hl => may_yes A n c l (u : Int) (some ad) m c1 w hl hc h (by simp; omega) (decide_eq_true (by omega)))
  have HO := Box.mk (fun w hl => open_yes A n c l (u : Int) w hl hc h)
  obtain ⟨k1, hk1e⟩ : ∃ k, half1 l = k := ⟨_, rfl⟩
  obtain ⟨k2, hk2e⟩ : ∃ k, half2 l = k := ⟨_, rfl⟩
  rw [hk1e] at hk1 HO
  rw [hk2e] at hk2 HO
  rw [hk1e, hk2e]
  obtain ⟨nb, hnb⟩ : ∃ nb, nb = m / 16 := ⟨_, rfl⟩
  rw [← hnb]
  have hnb2 : nb ≤ 256 := by omega
  have HNB : Box (nb * 16 = m) := ⟨by omega⟩
  have hni : (m : Int) / 16 = (nb : Int) := by omega
  have HT : Box (∀ (C D : Nat) (w : World), Ciph w D (words k2) → Calls Try.prog 92 #[.agg #[.pointer (some ⟨C, 0, none⟩), .pointer (some ⟨D, 0, none⟩)], .int .i64 (u : Int), .int .i64 (nb : Int)] w (TwQ k2 u nb w)) := ⟨fun C D w hD => tweaks_walk C D _ u nb hk2 hu hnb2 w hD⟩
  have HF0 : Box (∀ (C D x : Nat) (w : World), Ciph w C (words k1) → Calls Try.prog 89 #[.agg #[.pointer (some ⟨C, 0, none⟩), .pointer (some ⟨D, 0, none⟩)], .agg (bv (byt x))] w fun e w' => e = .returned (.agg (bv (byt (encN k1 x)))) ∧ Below w.heap.size w w') := ⟨fun C D x w h => enc_clo C D k1 x hk1 w h⟩
  clear h hk1 hk2 hu hk1e hk2e hnb
  go_enter Try.func88, Try.ntmps88
  go_wp2_with fail
  refine (HM.out _ hl).mono ?_
  rintro e w1 ⟨rfl, hb1⟩
  go_wp2_with fail
  refine (HO.out _ (hl.below hb1)).mono ?_
  rintro e w2 ⟨C, D, rfl, hC, hD, hb2⟩
  have hw2 := hb1.trans (hb2.mono hb1.size)
  have hP : PairV ((w2.alloc (.cells #[.pointer none, .pointer none] 106)).setRow w2.heap.size #[.pointer (some ⟨C, 0, none⟩), .pointer (some ⟨D, 0, none⟩)]) w2.heap.size (.pointer (some ⟨C, 0, none⟩)) (.pointer (some ⟨D, 0, none⟩)) := (PairV.new w2 (.pointer none) (.pointer none) _ rfl).setRow
  have hbW : Below w2.heap.size w2 ((w2.alloc (.cells #[.pointer none, .pointer none] 106)).setRow w2.heap.size #[.pointer (some ⟨C, 0, none⟩), .pointer (some ⟨D, 0, none⟩)]) := below_setRow ((Below.refl _ _).alloc (Nat.le_refl _) _) (Nat.le_refl _) _
  go_wp2_with (first
    | ((with_reducible show wpList _ _ _ (⟨_, Op.store 106 (.tmp 10) (.tmp 25), _, _, _, _⟩ :: _) _ _); refine wp_store106 rfl (.tmp 10) (.tmp 25) rfl w2.heap.size (.pointer none) (.pointer none) _ _ rfl rfl (PairV.new _ _ _ _ rfl) rfl rfl ?_)
    | ((with_reducible show wpList _ _ _ (⟨some 27, Op.load 106 (.tmp 10), _, _, _, _⟩ :: _) _ _); refine wp_load106 rfl (.tmp 10) rfl w2.heap.size _ _ rfl hP ?_))
  revert hbW hP
  generalize (w2.alloc (.cells #[.pointer none, .pointer none] 106)).setRow w2.heap.size #[.pointer (some ⟨C, 0, none⟩), .pointer (some ⟨D, 0, none⟩)] = w3
  intro hP hbW
  obtain ⟨g10, hg10⟩ : ∃ g, g = w2.heap.size := ⟨_, rfl⟩
  rw [← hg10] at hP ⊢
  refine (HT.out C D _ (hD.below hbW)).mono ?_
  rintro e w5 ⟨vt, rfl, hTs, hb5⟩
  have hC5 := (hC.below hbW).below hb5
  have hP5 := hP.below hb5 hP.lt
  have hw5 := (hw2.trans (hbW.mono hw2.size)).trans (hb5.mono (by have := hw2.size; have := hbW.size; omega))
  have hd5 := hd.below hw5
  obtain ⟨At, ct, hvt, hTb⟩ := hTs.blocks
  subst hvt
  rw [twL_len] at hTb ⊢
  have HF : Box (∀ (x : Nat) (w : World), Ciph w C (words k1) → Calls Try.prog 89 #[.agg #[.pointer (some ⟨C, 0, none⟩), .pointer (some ⟨D, 0, none⟩)], .agg (bv (byt x))] w fun e w' => e = .returned (.agg (bv (byt (encN k1 x)))) ∧ Below w.heap.size w w') := ⟨fun x w h => HF0.out C D x w h⟩
  clear hC hD hb1 hb2 hw2 hP hbW hg10 hb5 HM HO HT HF0 hTs hl hd
  go_wp2_with fail
  go_loopw [12, 13, 14, 15, 34] (fun o _a _b _c i wr => ∃ (k : Nat), i = .int .i64 (k : Int) ∧ k ≤ nb ∧ Own wr w5.heap.size o (xtL false k1 k2 u d k) ∧ Below w5.heap.size w5 wr) (fun _ _ _ _ i _ => nb - (intOf i).toNat)
  case atStart => exact ⟨0, rfl, by omega, own_nil _ _, Below.refl _ _⟩
  case round =>
    obtain ⟨k, rfl, hk, hO, hB⟩ := hrel
    by_cases hkn : k = nb
    · subst hkn
      go_wp2_with fail
      go_ret2
      exact ⟨_, rfl, ⟨Joins.ownsRow_le hO.1 hw5.size, hO.2⟩, hw5.trans (hB.mono hw5.size)⟩
    · have hk2' : k < nb := by omega
      clear hkn
      obtain ⟨tb, ot, t, hAt, htd, htl, _, hr⟩ := (hTb.below hB).at_ hk2'
      subst hAt
      rw [twL_get _ _ hk2'] at htd
      obtain ⟨q, hq⟩ : ∃ q, q = 16 * k := ⟨_, rfl⟩
      obtain ⟨q2, hq2⟩ : ∃ q2, q2 = 16 * k + 16 := ⟨_, rfl⟩
      have HQ : Box (q = 16 * k) := ⟨hq⟩
      have HQ2 : Box (q2 = 16 * k + 16) := ⟨hq2⟩
      have hqm : q2 ≤ m := by have := HNB.out; omega
      have hqd : q2 - q = 16 := by omega
      have q0 : (0 : Int) ≤ (q : Int) := by omega
      have q1 : (q : Int) ≤ (q2 : Int) := by omega
      have q3 : (q2 : Int) ≤ (c1 : Int) := by omega
      have hne : (c1 = q) = False := by simp; omega
      have hdl := hd5.2.2.1
      obtain ⟨x, hx⟩ : ∃ x, datN d k = x := ⟨_, rfl⟩
      have hxl : x < 2 ^ 128 := by rw [← hx]; exact datN_lt hdl k
      obtain ⟨y, hy⟩ : ∃ y, encN k1 (x ^^^ t) = y := ⟨_, rfl⟩
      have hyl : y < 2 ^ 128 := by rw [← hy]; exact encN_lt _ _
      have HXL : Box (xtL false k1 k2 u d (k + 1) = xtL false k1 k2 u d k ++ listB (byt (y ^^^ t))) := ⟨by rw [xtL]; unfold xtB; rw [hx, htd, ← hy]; rfl⟩
      have HF1 : Box (∀ (w : World), Ciph w C (words k1) → Calls Try.prog 89 #[.agg #[.pointer (some ⟨C, 0, none⟩), .pointer (some ⟨D, 0, none⟩)], .agg (bv (byt (x ^^^ t)))] w fun e w' => e = .returned (.agg (bv (byt y))) ∧ Below w.heap.size w w') := ⟨fun w h => by have h2 := HF.out (x ^^^ t) w h; rwa [hy] at h2⟩
      have hdr := hd5.below hB
      have hdlt := hdr.2.2.2 hm0
      obtain ⟨ol, hol⟩ : ∃ ol, xtL false k1 k2 u d k = ol := ⟨_, rfl⟩
      have HOL : Box (ol.length ≤ 4096) := ⟨by rw [← hol, xtL_len]; omega⟩
      rw [hol] at hO HXL
      have hA14 : Arr ((wr.alloc (.cells #[.int .u8 0, .int .u8 0, .int .u8 0, .int .u8 0, .int .u8 0, .int .u8 0, .int .u8 0, .int .u8 0, .int .u8 0, .int .u8 0, .int .u8 0, .int .u8 0, .int .u8 0, .int .u8 0, .int .u8 0, .int .u8 0] 36)).setRow wr.heap.size (bv (byt t))) wr.heap.size (byt t) := (Arr.zero _ _ rfl).setRow
      have hbW : Below wr.heap.size wr ((wr.alloc (.cells #[.int .u8 0, .int .u8 0, .int .u8 0, .int .u8 0, .int .u8 0, .int .u8 0, .int .u8 0, .int .u8 0, .int .u8 0, .int .u8 0, .int .u8 0, .int .u8 0, .int .u8 0, .int .u8 0, .int .u8 0, .int .u8 0] 36)).setRow wr.heap.size (bv (byt t))) := below_setRow ((Below.refl _ _).alloc (Nat.le_refl _) _) (Nat.le_refl _) _
      have hO7 : Own ((wr.alloc (.cells #[.int .u8 0, .int .u8 0, .int .u8 0, .int .u8 0, .int .u8 0, .int .u8 0, .int .u8 0, .int .u8 0, .int .u8 0, .int .u8 0, .int .u8 0, .int .u8 0, .int .u8 0, .int .u8 0, .int .u8 0, .int .u8 0] 36)).setRow wr.heap.size (bv (byt t))) w5.heap.size _ ol := hO.below hbW (Nat.le_refl _)
      have hB7 := hB.trans (hbW.mono hB.size)
      have HDAT : Box (∀ j, j < 16 → (((wr.alloc (.cells #[.int .u8 0, .int .u8 0, .int .u8 0, .int .u8 0, .int .u8 0, .int .u8 0, .int .u8 0, .int .u8 0, .int .u8 0, .int .u8 0, .int .u8 0, .int .u8 0, .int .u8 0, .int .u8 0, .int .u8 0, .int .u8 0] 36)).setRow wr.heap.size (bv (byt t)))).cell? ((ad.add q).add j) = some (cellOf (byt x j))) := ⟨fun j hj => by
        obtain ⟨ad', e, hcc⟩ := (hdr.below hbW).2.2.2 hm0
        injection e with e
        subst e
        rw [add_of_add, hcc (q + j) (by omega), ← hx, datN, byt_numF (datF_lt hdl k) 16 j hj, hq]
        rfl⟩
      have hdlt : ad.block < (((wr.alloc (.cells #[.int .u8 0, .int .u8 0, .int .u8 0, .int .u8 0, .int .u8 0, .int .u8 0, .int .u8 0, .int .u8 0, .int .u8 0, .int .u8 0, .int .u8 0, .int .u8 0, .int .u8 0, .int .u8 0, .int .u8 0, .int .u8 0] 36)).setRow wr.heap.size (bv (byt t)))).heap.size := by
        have h0 := (HDAT.out 0 (by decide))
        have := World.block_lt_of_cell? _ _ h0
        rwa [block_of_add, block_of_add] at this
      have hC7 := (hC5.below hB).below hbW
      have hPc0 := ((hP5.below hB hP5.lt).below hbW (by have := hP5.lt; have := hB.size; omega)).c0
      have hPc1 := ((hP5.below hB hP5.lt).below hbW (by have := hP5.lt; have := hB.size; omega)).c1
      have hPlt : g10 < (((wr.alloc (.cells #[.int .u8 0, .int .u8 0, .int .u8 0, .int .u8 0, .int .u8 0, .int .u8 0, .int .u8 0, .int .u8 0, .int .u8 0, .int .u8 0, .int .u8 0, .int .u8 0, .int .u8 0, .int .u8 0, .int .u8 0, .int .u8 0] 36)).setRow wr.heap.size (bv (byt t)))).heap.size := by have := hP5.lt; have := hB.size; have := hbW.size; omega
      clear hq hq2 hx hy hol htd hO HF hdr hbW
      go_wp2_with (first
          | ((with_reducible show wpList _ _ _ (⟨some 38, Op.load 36 (.tmp 37), _, _, _, _⟩ :: _) _ _); refine wp_load_blk rfl (.tmp 37) rfl tb (ot + k * 16) (byt t) rfl hr ?_)
          | ((with_reducible show wpList _ _ _ (⟨_, Op.store 36 (.tmp 14) (.tmp 38), _, _, _, _⟩ :: _) _ _); refine wp_store_arr rfl (.tmp 14) (.tmp 38) rfl (wr.heap.size) (fun _ => 0) (byt t) rfl rfl (Arr.zero _ _ rfl) ?_))
      revert hA14 hO7 hB7 HDAT hdlt hC7 hPc0 hPc1 hPlt
      generalize ((wr.alloc (.cells #[.int .u8 0, .int .u8 0, .int .u8 0, .int .u8 0, .int .u8 0, .int .u8 0, .int .u8 0, .int .u8 0, .int .u8 0, .int .u8 0, .int .u8 0, .int .u8 0, .int .u8 0, .int .u8 0, .int .u8 0, .int .u8 0] 36)).setRow wr.heap.size (bv (byt t))) = w7
      intro hA14 hO7 hB7 HDAT hdlt hC7 hPc0 hPc1 hPlt
      have HF := HF1
      refine wp_region_held_drew (S := fun w' => Below w7.heap.size w7 w') (by kernel_rfl) (Below.refl _ _).drew (fun hS => ?_)
      refine wpAnyH_take (i := 0) (oi := ⟨some 39, _, _, _, _, _⟩) (v := .func (Fn.func 89) #[] #[]) rfl (by kernel_rfl) (by kernel_rfl) (by kernel_rfl) (fun _ _ _ h => h) (Or.inl ⟨by kernel_rfl, fun w' hSw => ?_⟩) hS ?_
      · go_simp
      simp only [Act.put, List.setIfInBounds_toArray, List.set_cons_zero, List.set_cons_succ]
      refine wpAnyH_take (i := 1) (oi := ⟨some 40, _, _, _, _, _⟩) (v := .agg #[.pointer (some ⟨C, 0, none⟩), .pointer (some ⟨D, 0, none⟩)]) rfl (by kernel_rfl) (by kernel_rfl) (by kernel_rfl) (fun _ _ _ h => h) (Or.inl ⟨by kernel_rfl, fun w' hSw => ?_⟩) hS ?_
      · (have c0 := (hSw.cell (p := ⟨g10, 0, none⟩) hPlt).trans hPc0; have c1 := (hSw.cell (p := ⟨g10, 1, none⟩) hPlt).trans hPc1; go_simp)
      simp only [Act.put, List.setIfInBounds_toArray, List.set_cons_zero, List.set_cons_succ]
      refine wpAnyH_take (i := 2) (oi := ⟨some 41, _, _, _, _, _⟩) (v := .slice (some ad) m c1) rfl (by kernel_rfl) (by kernel_rfl) (by kernel_rfl) (fun _ _ _ h => h) (Or.inl ⟨by kernel_rfl, fun w' hSw => ?_⟩) hS ?_
      · go_simp
      simp only [Act.put, List.setIfInBounds_toArray, List.set_cons_zero, List.set_cons_succ]
      refine wpAnyH_take (i := 3) (oi := ⟨some 42, _, _, _, _, _⟩) (v := .int .i64 (k : Int)) rfl (by kernel_rfl) (by kernel_rfl) (by kernel_rfl) (fun _ _ _ h => h) (Or.inl ⟨by kernel_rfl, fun w' hSw => ?_⟩) hS ?_
      · go_simp
      simp only [Act.put, List.setIfInBounds_toArray, List.set_cons_zero, List.set_cons_succ]
      refine wpAnyH_take (i := 4) (oi := ⟨some 43, _, _, _, _, _⟩) (v := .int .i64 (q : Int)) rfl (by kernel_rfl) (by kernel_rfl) (by kernel_rfl) (fun _ _ _ h => h) (Or.inl ⟨by kernel_rfl, fun w' hSw => ?_⟩) hS ?_
      · (go_simp; rw [show (k : Int) * 16 = (q : Int) by have := HQ.out; omega]; exact IntWalk.i64_in _ (by omega))
      simp only [Act.put, List.setIfInBounds_toArray, List.set_cons_zero, List.set_cons_succ]
      refine wpAnyH_take (i := 5) (oi := ⟨some 44, _, _, _, _, _⟩) (v := .int .i64 (k : Int)) rfl (by kernel_rfl) (by kernel_rfl) (by kernel_rfl) (fun _ _ _ h => h) (Or.inl ⟨by kernel_rfl, fun w' hSw => ?_⟩) hS ?_
      · go_simp
      simp only [Act.put, List.setIfInBounds_toArray, List.set_cons_zero, List.set_cons_succ]
      refine wpAnyH_take (i := 6) (oi := ⟨some 45, _, _, _, _, _⟩) (v := .int .i64 ((k : Int) + 1)) rfl (by kernel_rfl) (by kernel_rfl) (by kernel_rfl) (fun _ _ _ h => h) (Or.inl ⟨by kernel_rfl, fun w' hSw => ?_⟩) hS ?_
      · (go_simp; exact IntWalk.i64_in _ (by omega))
      simp only [Act.put, List.setIfInBounds_toArray, List.set_cons_zero, List.set_cons_succ]
      refine wpAnyH_take (i := 7) (oi := ⟨some 46, _, _, _, _, _⟩) (v := .int .i64 (q2 : Int)) rfl (by kernel_rfl) (by kernel_rfl) (by kernel_rfl) (fun _ _ _ h => h) (Or.inl ⟨by kernel_rfl, fun w' hSw => ?_⟩) hS ?_
      · (go_simp; rw [show ((k : Int) + 1) * 16 = (q2 : Int) by have := HQ2.out; omega]; exact IntWalk.i64_in _ (by omega))
      simp only [Act.put, List.setIfInBounds_toArray, List.set_cons_zero, List.set_cons_succ]
      refine wpAnyH_take (i := 8) (oi := ⟨some 47, _, _, _, _, _⟩) (v := .slice (some (ad.add q)) 16 (c1 - q)) rfl (by kernel_rfl) (by kernel_rfl) (by kernel_rfl) (fun _ _ _ h => h) (Or.inl ⟨by kernel_rfl, fun w' hSw => ?_⟩) hS ?_
      · go_simp
      simp only [Act.put, List.setIfInBounds_toArray, List.set_cons_zero, List.set_cons_succ]
      refine wpAnyH_take (i := 9) (oi := ⟨some 48, _, _, _, _, _⟩) (v := .pointer (some (ad.add q))) rfl (by kernel_rfl) (by kernel_rfl) (by kernel_rfl) (fun _ _ _ h => h) (Or.inl ⟨by kernel_rfl, fun w' hSw => ?_⟩) hS ?_
      · (have ha := run_arrayAt (some (ad.add q)) 16 (c1 - q) (by decide) w'; go_simp)
      simp only [Act.put, List.setIfInBounds_toArray, List.set_cons_zero, List.set_cons_succ]
      refine wpAnyH_take (i := 10) (oi := ⟨some 49, _, _, _, _, _⟩) (v := .agg (bv (byt x))) rfl (by kernel_rfl) (by kernel_rfl) (by kernel_rfl) (fun _ _ _ h => h) (yields_arr_at (by kernel_rfl) (.tmp 48) rfl (ad.add q) (byt x) rfl (fun w' h j hj => (h.cell (p := (ad.add q).add j) (by rw [block_of_add, block_of_add]; exact hdlt)).trans (HDAT.out j hj))) hS ?_
      simp only [Act.put, List.setIfInBounds_toArray, List.set_cons_zero, List.set_cons_succ]
      refine wpAnyH_take (i := 11) (oi := ⟨some 50, _, _, _, _, _⟩) (v := .agg (bv (byt t))) rfl (by kernel_rfl) (by kernel_rfl) (by kernel_rfl) (fun _ _ _ h => h) (yields_arr (by kernel_rfl) (.tmp 14) rfl (wr.heap.size) (byt t) rfl fun w' h => hA14.below h hA14.lt) hS ?_
      simp only [Act.put, List.setIfInBounds_toArray, List.set_cons_zero, List.set_cons_succ]
      refine wpAnyH_take (i := 15) (oi := ⟨some 54, _, _, _, _, _⟩) (v := .agg (bv (byt t))) rfl (by kernel_rfl) (by kernel_rfl) (by kernel_rfl) (fun _ _ _ h => h) (yields_arr (by kernel_rfl) (.tmp 14) rfl (wr.heap.size) (byt t) rfl fun w' h => hA14.below h hA14.lt) hS ?_
      simp only [Act.put, List.setIfInBounds_toArray, List.set_cons_zero, List.set_cons_succ]
      refine wpAnyH_ready (rs := [12, 18]) (by kernel_rfl) (by simp) ?_
      refine (AllReadyH.cons (o := ⟨some 51, _, _, _, _, _⟩) rfl (fun K hK => ?_) (AllReadyH.cons (o := ⟨some 15, _, _, _, _, _⟩) rfl (fun K hK => ?_) AllReadyH.nil))
      · rw [if_pos (by kernel_rfl)]
        refine wp_two (.tmp 49) (.tmp 50) rfl (byt (x)) (byt (t)) rfl rfl ?_
        have hk51 : Blocks (w7.drew.alloc (.cells (bv (byt (x)) ++ bv (byt (t))) 36)) (some ⟨w7.heap.size, 0, none⟩) 2 [x, t] := blocks_two _ _ _ _ (by first | rfl | simp | simp [World.setRow]) hxl htl
        refine hK.out _ _ (hS.alloc hS.size _) (fun hS => ?_)
        clear hK K
        simp only [Act.put, List.setIfInBounds_toArray, List.set_cons_zero, List.set_cons_succ]
        refine wpAnyH_ready (rs := [13, 18]) (by kernel_rfl) (by simp) ?_
        refine (AllReadyH.cons (o := ⟨some 52, _, _, _, _, _⟩) rfl (fun K hK => ?_) (AllReadyH.cons (o := ⟨some 15, _, _, _, _, _⟩) rfl (fun K hK => ?_) AllReadyH.nil))
        · rw [if_pos (by kernel_rfl)]
          go_simp
          refine (xor_two _ _ x t _ hk51).mono ?_
          rintro e v1 ⟨rfl, hq1⟩
          have hk51 := hk51.below hq1
          have hqz1 := hq1.size
          refine hK.out _ _ (hS.trans (hq1.mono (by first | exact hS.size | (have := hS.size; simp at this ⊢; omega)))) (fun hS => ?_)
          clear hK K
          refine wpAnyH_ready (rs := [14, 18]) (by kernel_rfl) (by simp) ?_
          refine (AllReadyH.cons (o := ⟨some 53, _, _, _, _, _⟩) rfl (fun K hK => ?_) (AllReadyH.cons (o := ⟨some 15, _, _, _, _, _⟩) rfl (fun K hK => ?_) AllReadyH.nil))
          · rw [if_pos (by kernel_rfl)]
            go_simp
            refine (HF.out _ (hC7.below hS)).mono ?_
            rintro e v2 ⟨rfl, hq2⟩
            have hk51 := hk51.below hq2
            have hqz2 := hq2.size
            refine hK.out _ _ (hS.trans (hq2.mono (by first | exact hS.size | (have := hS.size; simp at this ⊢; omega)))) (fun hS => ?_)
            clear hK K
            refine wpAnyH_ready (rs := [16, 18]) (by kernel_rfl) (by simp) ?_
            refine (AllReadyH.cons (o := ⟨some 55, _, _, _, _, _⟩) rfl (fun K hK => ?_) (AllReadyH.cons (o := ⟨some 15, _, _, _, _, _⟩) rfl (fun K hK => ?_) AllReadyH.nil))
            · rw [if_pos (by kernel_rfl)]
              refine wp_two (.tmp 53) (.tmp 54) rfl (byt (y)) (byt (t)) rfl rfl ?_
              have hk51 := hk51.alloc (.cells (bv (byt (y)) ++ bv (byt (t))) 36)
              have hk55 : Blocks (v2.alloc (.cells (bv (byt (y)) ++ bv (byt (t))) 36)) (some ⟨v2.heap.size, 0, none⟩) 2 [y, t] := blocks_two _ _ _ _ (by first | rfl | simp | simp [World.setRow]) hyl htl
              refine hK.out _ _ (hS.alloc hS.size _) (fun hS => ?_)
              clear hK K
              simp only [Act.put, List.setIfInBounds_toArray, List.set_cons_zero, List.set_cons_succ]
              refine wpAnyH_ready (rs := [17, 18]) (by kernel_rfl) (by simp) ?_
              refine (AllReadyH.cons (o := ⟨some 56, _, _, _, _, _⟩) rfl (fun K hK => ?_) (AllReadyH.cons (o := ⟨some 15, _, _, _, _, _⟩) rfl (fun K hK => ?_) AllReadyH.nil))
              · rw [if_pos (by kernel_rfl)]
                go_simp
                refine (xor_two _ _ y t _ hk55).mono ?_
                rintro e v3 ⟨rfl, hq3⟩
                have hk51 := hk51.below hq3
                have hk55 := hk55.below hq3
                have hqz3 := hq3.size
                refine hK.out _ _ (hS.trans (hq3.mono (by first | exact hS.size | (have := hS.size; simp at this ⊢; omega)))) (fun hS => ?_)
                clear hK K
                refine wpAnyH_ready (rs := [18]) (by kernel_rfl) (by simp) ?_
                refine (AllReadyH.cons (o := ⟨some 15, _, _, _, _, _⟩) rfl (fun K hK => ?_) AllReadyH.nil)
                rw [if_pos (by kernel_rfl)]
                go_simp
                have hk51 := hk51.alloc (.cells #[.int .u8 0, .int .u8 0, .int .u8 0, .int .u8 0, .int .u8 0, .int .u8 0, .int .u8 0, .int .u8 0, .int .u8 0, .int .u8 0, .int .u8 0, .int .u8 0, .int .u8 0, .int .u8 0, .int .u8 0, .int .u8 0] 36)
                have hk55 := hk55.alloc (.cells #[.int .u8 0, .int .u8 0, .int .u8 0, .int .u8 0, .int .u8 0, .int .u8 0, .int .u8 0, .int .u8 0, .int .u8 0, .int .u8 0, .int .u8 0, .int .u8 0, .int .u8 0, .int .u8 0, .int .u8 0, .int .u8 0] 36)
                have ha15 : Arr (v3.alloc (.cells #[.int .u8 0, .int .u8 0, .int .u8 0, .int .u8 0, .int .u8 0, .int .u8 0, .int .u8 0, .int .u8 0, .int .u8 0, .int .u8 0, .int .u8 0, .int .u8 0, .int .u8 0, .int .u8 0, .int .u8 0, .int .u8 0] 36)) (v3.heap.size) (fun _ => 0) := Arr.zero _ _ (by first | rfl | simp | simp [World.setRow])
                refine hK.out _ _ (hS.alloc hS.size _) (fun hS => ?_)
                clear hK K
                refine wpAnyH_ready (rs := [19]) (by kernel_rfl) (by simp) ?_
                refine (AllReadyH.cons (o := ⟨none, _, _, _, _, _⟩) rfl (fun K hK => ?_) AllReadyH.nil)
                rw [if_pos (by kernel_rfl)]
                refine wpo_store_arr (.tmp 15) (.tmp 56) rfl (v3.heap.size) (fun _ => 0) (byt (y ^^^ t)) rfl rfl ha15 ?_
                have ha15 := ha15.setRow (h := byt (y ^^^ t))
                refine hK.out _ _ (below_setRow hS (by have := hS.size; first | omega | (simp at *; omega) | (simp [setRow_size] at *; omega)) _) (fun hS => ?_)
                clear hK K
                simp only [Act.put]
                refine wpAnyH_done (by kernel_rfl) ?_ _
                have hO8 := hO7.below hS (Nat.le_refl _)
                have hB8 := hB7.trans (hS.mono hB7.size)
                have hz8 := hS.size
                go_wp2_with (((with_reducible show wpList _ _ _ (⟨some 59, Op.call _, _, _, _, _⟩ :: _) _ _); refine wp_appA rfl (.tmp 57) (.tmp 58) rfl w5.heap.size _ ol rfl hO8 (some ⟨v3.heap.size, 0, none⟩) 16 16 (listB (byt (y ^^^ t))) rfl (ha15.bytes (byt_lt _)) (by have := HOL.out; omega) (by have := hB8.size; omega) ?_))
                intro v2 w8 k1 k2 k3
                have hB9 := grown_below hB8 k2 hB8.size (fun k hk => (hO8.ge k hk).1)
                clear hO8 hB8 hS k2 k3 ha15
                go_wp2_with fail
                go_roundw
                case rel => exact ⟨k + 1, by go_num, by omega, by rw [HXL.out]; exact k1, hB9⟩
                case measure => simp [intOf]; omega
              · rw [if_pos (by kernel_rfl)]
                go_simp
                have hk51 := hk51.alloc (.cells #[.int .u8 0, .int .u8 0, .int .u8 0, .int .u8 0, .int .u8 0, .int .u8 0, .int .u8 0, .int .u8 0, .int .u8 0, .int .u8 0, .int .u8 0, .int .u8 0, .int .u8 0, .int .u8 0, .int .u8 0, .int .u8 0] 36)
                have hk55 := hk55.alloc (.cells #[.int .u8 0, .int .u8 0, .int .u8 0, .int .u8 0, .int .u8 0, .int .u8 0, .int .u8 0, .int .u8 0, .int .u8 0, .int .u8 0, .int .u8 0, .int .u8 0, .int .u8 0, .int .u8 0, .int .u8 0, .int .u8 0] 36)
                have ha15 : Arr ((v2.alloc (.cells (bv (byt (y)) ++ bv (byt (t))) 36)).alloc (.cells #[.int .u8 0, .int .u8 0, .int .u8 0, .int .u8 0, .int .u8 0, .int .u8 0, .int .u8 0, .int .u8 0, .int .u8 0, .int .u8 0, .int .u8 0, .int .u8 0, .int .u8 0, .int .u8 0, .int .u8 0, .int .u8 0] 36)) (v2.heap.size + 1) (fun _ => 0) := Arr.zero _ _ (by first | rfl | simp | simp [World.setRow])
                refine hK.out _ _ (hS.alloc hS.size _) (fun hS => ?_)
                clear hK K
                refine wpAnyH_ready (rs := [17]) (by kernel_rfl) (by simp) ?_
                refine (AllReadyH.cons (o := ⟨some 56, _, _, _, _, _⟩) rfl (fun K hK => ?_) AllReadyH.nil)
                rw [if_pos (by kernel_rfl)]
                go_simp
                refine (xor_two _ _ y t _ hk55).mono ?_
                rintro e v3 ⟨rfl, hq3⟩
                have ha15 := ha15.below hq3 ha15.lt
                have hk51 := hk51.below hq3
                have hk55 := hk55.below hq3
                have hqz3 := hq3.size
                refine hK.out _ _ (hS.trans (hq3.mono (by first | exact hS.size | (have := hS.size; simp at this ⊢; omega)))) (fun hS => ?_)
                clear hK K
                refine wpAnyH_ready (rs := [19]) (by kernel_rfl) (by simp) ?_
                refine (AllReadyH.cons (o := ⟨none, _, _, _, _, _⟩) rfl (fun K hK => ?_) AllReadyH.nil)
                rw [if_pos (by kernel_rfl)]
                refine wpo_store_arr (.tmp 15) (.tmp 56) rfl (v2.heap.size + 1) (fun _ => 0) (byt (y ^^^ t)) rfl rfl ha15 ?_
                have ha15 := ha15.setRow (h := byt (y ^^^ t))
                refine hK.out _ _ (below_setRow hS (by have := hS.size; first | omega | (simp at *; omega) | (simp [setRow_size] at *; omega)) _) (fun hS => ?_)
                clear hK K
                simp only [Act.put]
                refine wpAnyH_done (by kernel_rfl) ?_ _
                have hO8 := hO7.below hS (Nat.le_refl _)
                have hB8 := hB7.trans (hS.mono hB7.size)
                have hz8 := hS.size
                go_wp2_with (((with_reducible show wpList _ _ _ (⟨some 59, Op.call _, _, _, _, _⟩ :: _) _ _); refine wp_appA rfl (.tmp 57) (.tmp 58) rfl w5.heap.size _ ol rfl hO8 (some ⟨v2.heap.size + 1, 0, none⟩) 16 16 (listB (byt (y ^^^ t))) rfl (ha15.bytes (byt_lt _)) (by have := HOL.out; omega) (by have := hB8.size; omega) ?_))
                intro v2 w8 k1 k2 k3
                have hB9 := grown_below hB8 k2 hB8.size (fun k hk => (hO8.ge k hk).1)
                clear hO8 hB8 hS k2 k3 ha15
                go_wp2_with fail
                go_roundw
                case rel => exact ⟨k + 1, by go_num, by omega, by rw [HXL.out]; exact k1, hB9⟩
                case measure => simp [intOf]; omega
            · rw [if_pos (by kernel_rfl)]
              go_simp
              have hk51 := hk51.alloc (.cells #[.int .u8 0, .int .u8 0, .int .u8 0, .int .u8 0, .int .u8 0, .int .u8 0, .int .u8 0, .int .u8 0, .int .u8 0, .int .u8 0, .int .u8 0, .int .u8 0, .int .u8 0, .int .u8 0, .int .u8 0, .int .u8 0] 36)
              have ha15 : Arr (v2.alloc (.cells #[.int .u8 0, .int .u8 0, .int .u8 0, .int .u8 0, .int .u8 0, .int .u8 0, .int .u8 0, .int .u8 0, .int .u8 0, .int .u8 0, .int .u8 0, .int .u8 0, .int .u8 0, .int .u8 0, .int .u8 0, .int .u8 0] 36)) (v2.heap.size) (fun _ => 0) := Arr.zero _ _ (by first | rfl | simp | simp [World.setRow])
              refine hK.out _ _ (hS.alloc hS.size _) (fun hS => ?_)
              clear hK K
              refine wpAnyH_ready (rs := [16]) (by kernel_rfl) (by simp) ?_
              refine (AllReadyH.cons (o := ⟨some 55, _, _, _, _, _⟩) rfl (fun K hK => ?_) AllReadyH.nil)
              rw [if_pos (by kernel_rfl)]
              refine wp_two (.tmp 53) (.tmp 54) rfl (byt (y)) (byt (t)) rfl rfl ?_
              have ha15 := ha15.alloc (.cells (bv (byt (y)) ++ bv (byt (t))) 36)
              have hk51 := hk51.alloc (.cells (bv (byt (y)) ++ bv (byt (t))) 36)
              have hk55 : Blocks ((v2.alloc (.cells #[.int .u8 0, .int .u8 0, .int .u8 0, .int .u8 0, .int .u8 0, .int .u8 0, .int .u8 0, .int .u8 0, .int .u8 0, .int .u8 0, .int .u8 0, .int .u8 0, .int .u8 0, .int .u8 0, .int .u8 0, .int .u8 0] 36)).alloc (.cells (bv (byt (y)) ++ bv (byt (t))) 36)) (some ⟨v2.heap.size + 1, 0, none⟩) 2 [y, t] := blocks_two _ _ _ _ (by first | rfl | simp | simp [World.setRow]) hyl htl
              refine hK.out _ _ (hS.alloc hS.size _) (fun hS => ?_)
              clear hK K
              simp only [Act.put, List.setIfInBounds_toArray, List.set_cons_zero, List.set_cons_succ]
              refine wpAnyH_ready (rs := [17]) (by kernel_rfl) (by simp) ?_
              refine (AllReadyH.cons (o := ⟨some 56, _, _, _, _, _⟩) rfl (fun K hK => ?_) AllReadyH.nil)
              rw [if_pos (by kernel_rfl)]
              go_simp
              refine (xor_two _ _ y t _ hk55).mono ?_
              rintro e v3 ⟨rfl, hq3⟩
              have ha15 := ha15.below hq3 ha15.lt
              have hk51 := hk51.below hq3
              have hk55 := hk55.below hq3
              have hqz3 := hq3.size
              refine hK.out _ _ (hS.trans (hq3.mono (by first | exact hS.size | (have := hS.size; simp at this ⊢; omega)))) (fun hS => ?_)
              clear hK K
              refine wpAnyH_ready (rs := [19]) (by kernel_rfl) (by simp) ?_
              refine (AllReadyH.cons (o := ⟨none, _, _, _, _, _⟩) rfl (fun K hK => ?_) AllReadyH.nil)
              rw [if_pos (by kernel_rfl)]
              refine wpo_store_arr (.tmp 15) (.tmp 56) rfl (v2.heap.size) (fun _ => 0) (byt (y ^^^ t)) rfl rfl ha15 ?_
              have ha15 := ha15.setRow (h := byt (y ^^^ t))
              refine hK.out _ _ (below_setRow hS (by have := hS.size; first | omega | (simp at *; omega) | (simp [setRow_size] at *; omega)) _) (fun hS => ?_)
              clear hK K
              simp only [Act.put]
              refine wpAnyH_done (by kernel_rfl) ?_ _
              have hO8 := hO7.below hS (Nat.le_refl _)
              have hB8 := hB7.trans (hS.mono hB7.size)
              have hz8 := hS.size
              go_wp2_with (((with_reducible show wpList _ _ _ (⟨some 59, Op.call _, _, _, _, _⟩ :: _) _ _); refine wp_appA rfl (.tmp 57) (.tmp 58) rfl w5.heap.size _ ol rfl hO8 (some ⟨v2.heap.size, 0, none⟩) 16 16 (listB (byt (y ^^^ t))) rfl (ha15.bytes (byt_lt _)) (by have := HOL.out; omega) (by have := hB8.size; omega) ?_))
              intro v2 w8 k1 k2 k3
              have hB9 := grown_below hB8 k2 hB8.size (fun k hk => (hO8.ge k hk).1)
              clear hO8 hB8 hS k2 k3 ha15
              go_wp2_with fail
              go_roundw
              case rel => exact ⟨k + 1, by go_num, by omega, by rw [HXL.out]; exact k1, hB9⟩
              case measure => simp [intOf]; omega
          · rw [if_pos (by kernel_rfl)]
            go_simp
            have hk51 := hk51.alloc (.cells #[.int .u8 0, .int .u8 0, .int .u8 0, .int .u8 0, .int .u8 0, .int .u8 0, .int .u8 0, .int .u8 0, .int .u8 0, .int .u8 0, .int .u8 0, .int .u8 0, .int .u8 0, .int .u8 0, .int .u8 0, .int .u8 0] 36)
            have ha15 : Arr (v1.alloc (.cells #[.int .u8 0, .int .u8 0, .int .u8 0, .int .u8 0, .int .u8 0, .int .u8 0, .int .u8 0, .int .u8 0, .int .u8 0, .int .u8 0, .int .u8 0, .int .u8 0, .int .u8 0, .int .u8 0, .int .u8 0, .int .u8 0] 36)) (v1.heap.size) (fun _ => 0) := Arr.zero _ _ (by first | rfl | simp | simp [World.setRow])
            refine hK.out _ _ (hS.alloc hS.size _) (fun hS => ?_)
            clear hK K
            refine wpAnyH_ready (rs := [14]) (by kernel_rfl) (by simp) ?_
            refine (AllReadyH.cons (o := ⟨some 53, _, _, _, _, _⟩) rfl (fun K hK => ?_) AllReadyH.nil)
            rw [if_pos (by kernel_rfl)]
            go_simp
            refine (HF.out _ (hC7.below hS)).mono ?_
            rintro e v2 ⟨rfl, hq2⟩
            have ha15 := ha15.below hq2 ha15.lt
            have hk51 := hk51.below hq2
            have hqz2 := hq2.size
            refine hK.out _ _ (hS.trans (hq2.mono (by first | exact hS.size | (have := hS.size; simp at this ⊢; omega)))) (fun hS => ?_)
            clear hK K
            refine wpAnyH_ready (rs := [16]) (by kernel_rfl) (by simp) ?_
            refine (AllReadyH.cons (o := ⟨some 55, _, _, _, _, _⟩) rfl (fun K hK => ?_) AllReadyH.nil)
            rw [if_pos (by kernel_rfl)]
            refine wp_two (.tmp 53) (.tmp 54) rfl (byt (y)) (byt (t)) rfl rfl ?_
            have ha15 := ha15.alloc (.cells (bv (byt (y)) ++ bv (byt (t))) 36)
            have hk51 := hk51.alloc (.cells (bv (byt (y)) ++ bv (byt (t))) 36)
            have hk55 : Blocks (v2.alloc (.cells (bv (byt (y)) ++ bv (byt (t))) 36)) (some ⟨v2.heap.size, 0, none⟩) 2 [y, t] := blocks_two _ _ _ _ (by first | rfl | simp | simp [World.setRow]) hyl htl
            refine hK.out _ _ (hS.alloc hS.size _) (fun hS => ?_)
            clear hK K
            simp only [Act.put, List.setIfInBounds_toArray, List.set_cons_zero, List.set_cons_succ]
            refine wpAnyH_ready (rs := [17]) (by kernel_rfl) (by simp) ?_
            refine (AllReadyH.cons (o := ⟨some 56, _, _, _, _, _⟩) rfl (fun K hK => ?_) AllReadyH.nil)
            rw [if_pos (by kernel_rfl)]
            go_simp
            refine (xor_two _ _ y t _ hk55).mono ?_
            rintro e v3 ⟨rfl, hq3⟩
            have ha15 := ha15.below hq3 ha15.lt
            have hk51 := hk51.below hq3
            have hk55 := hk55.below hq3
            have hqz3 := hq3.size
            refine hK.out _ _ (hS.trans (hq3.mono (by first | exact hS.size | (have := hS.size; simp at this ⊢; omega)))) (fun hS => ?_)
            clear hK K
            refine wpAnyH_ready (rs := [19]) (by kernel_rfl) (by simp) ?_
            refine (AllReadyH.cons (o := ⟨none, _, _, _, _, _⟩) rfl (fun K hK => ?_) AllReadyH.nil)
            rw [if_pos (by kernel_rfl)]
            refine wpo_store_arr (.tmp 15) (.tmp 56) rfl (v1.heap.size) (fun _ => 0) (byt (y ^^^ t)) rfl rfl ha15 ?_
            have ha15 := ha15.setRow (h := byt (y ^^^ t))
            refine hK.out _ _ (below_setRow hS (by have := hS.size; first | omega | (simp at *; omega) | (simp [setRow_size] at *; omega)) _) (fun hS => ?_)
            clear hK K
            simp only [Act.put]
            refine wpAnyH_done (by kernel_rfl) ?_ _
            have hO8 := hO7.below hS (Nat.le_refl _)
            have hB8 := hB7.trans (hS.mono hB7.size)
            have hz8 := hS.size
            go_wp2_with (((with_reducible show wpList _ _ _ (⟨some 59, Op.call _, _, _, _, _⟩ :: _) _ _); refine wp_appA rfl (.tmp 57) (.tmp 58) rfl w5.heap.size _ ol rfl hO8 (some ⟨v1.heap.size, 0, none⟩) 16 16 (listB (byt (y ^^^ t))) rfl (ha15.bytes (byt_lt _)) (by have := HOL.out; omega) (by have := hB8.size; omega) ?_))
            intro v2 w8 k1 k2 k3
            have hB9 := grown_below hB8 k2 hB8.size (fun k hk => (hO8.ge k hk).1)
            clear hO8 hB8 hS k2 k3 ha15
            go_wp2_with fail
            go_roundw
            case rel => exact ⟨k + 1, by go_num, by omega, by rw [HXL.out]; exact k1, hB9⟩
            case measure => simp [intOf]; omega
        · rw [if_pos (by kernel_rfl)]
          go_simp
          have hk51 := hk51.alloc (.cells #[.int .u8 0, .int .u8 0, .int .u8 0, .int .u8 0, .int .u8 0, .int .u8 0, .int .u8 0, .int .u8 0, .int .u8 0, .int .u8 0, .int .u8 0, .int .u8 0, .int .u8 0, .int .u8 0, .int .u8 0, .int .u8 0] 36)
          have ha15 : Arr ((w7.drew.alloc (.cells (bv (byt (x)) ++ bv (byt (t))) 36)).alloc (.cells #[.int .u8 0, .int .u8 0, .int .u8 0, .int .u8 0, .int .u8 0, .int .u8 0, .int .u8 0, .int .u8 0, .int .u8 0, .int .u8 0, .int .u8 0, .int .u8 0, .int .u8 0, .int .u8 0, .int .u8 0, .int .u8 0] 36)) (w7.heap.size + 1) (fun _ => 0) := Arr.zero _ _ (by first | rfl | simp | simp [World.setRow])
          refine hK.out _ _ (hS.alloc hS.size _) (fun hS => ?_)
          clear hK K
          refine wpAnyH_ready (rs := [13]) (by kernel_rfl) (by simp) ?_
          refine (AllReadyH.cons (o := ⟨some 52, _, _, _, _, _⟩) rfl (fun K hK => ?_) AllReadyH.nil)
          rw [if_pos (by kernel_rfl)]
          go_simp
          refine (xor_two _ _ x t _ hk51).mono ?_
          rintro e v1 ⟨rfl, hq1⟩
          have ha15 := ha15.below hq1 ha15.lt
          have hk51 := hk51.below hq1
          have hqz1 := hq1.size
          refine hK.out _ _ (hS.trans (hq1.mono (by first | exact hS.size | (have := hS.size; simp at this ⊢; omega)))) (fun hS => ?_)
          clear hK K
          refine wpAnyH_ready (rs := [14]) (by kernel_rfl) (by simp) ?_
          refine (AllReadyH.cons (o := ⟨some 53, _, _, _, _, _⟩) rfl (fun K hK => ?_) AllReadyH.nil)
          rw [if_pos (by kernel_rfl)]
          go_simp
          refine (HF.out _ (hC7.below hS)).mono ?_
          rintro e v2 ⟨rfl, hq2⟩
          have ha15 := ha15.below hq2 ha15.lt
          have hk51 := hk51.below hq2
          have hqz2 := hq2.size
          refine hK.out _ _ (hS.trans (hq2.mono (by first | exact hS.size | (have := hS.size; simp at this ⊢; omega)))) (fun hS => ?_)
          clear hK K
          refine wpAnyH_ready (rs := [16]) (by kernel_rfl) (by simp) ?_
          refine (AllReadyH.cons (o := ⟨some 55, _, _, _, _, _⟩) rfl (fun K hK => ?_) AllReadyH.nil)
          rw [if_pos (by kernel_rfl)]
          refine wp_two (.tmp 53) (.tmp 54) rfl (byt (y)) (byt (t)) rfl rfl ?_
          have ha15 := ha15.alloc (.cells (bv (byt (y)) ++ bv (byt (t))) 36)
          have hk51 := hk51.alloc (.cells (bv (byt (y)) ++ bv (byt (t))) 36)
          have hk55 : Blocks (v2.alloc (.cells (bv (byt (y)) ++ bv (byt (t))) 36)) (some ⟨v2.heap.size, 0, none⟩) 2 [y, t] := blocks_two _ _ _ _ (by first | rfl | simp | simp [World.setRow]) hyl htl
          refine hK.out _ _ (hS.alloc hS.size _) (fun hS => ?_)
          clear hK K
          simp only [Act.put, List.setIfInBounds_toArray, List.set_cons_zero, List.set_cons_succ]
          refine wpAnyH_ready (rs := [17]) (by kernel_rfl) (by simp) ?_
          refine (AllReadyH.cons (o := ⟨some 56, _, _, _, _, _⟩) rfl (fun K hK => ?_) AllReadyH.nil)
          rw [if_pos (by kernel_rfl)]
          go_simp
          refine (xor_two _ _ y t _ hk55).mono ?_
          rintro e v3 ⟨rfl, hq3⟩
          have ha15 := ha15.below hq3 ha15.lt
          have hk51 := hk51.below hq3
          have hk55 := hk55.below hq3
          have hqz3 := hq3.size
          refine hK.out _ _ (hS.trans (hq3.mono (by first | exact hS.size | (have := hS.size; simp at this ⊢; omega)))) (fun hS => ?_)
          clear hK K
          refine wpAnyH_ready (rs := [19]) (by kernel_rfl) (by simp) ?_
          refine (AllReadyH.cons (o := ⟨none, _, _, _, _, _⟩) rfl (fun K hK => ?_) AllReadyH.nil)
          rw [if_pos (by kernel_rfl)]
          refine wpo_store_arr (.tmp 15) (.tmp 56) rfl (w7.heap.size + 1) (fun _ => 0) (byt (y ^^^ t)) rfl rfl ha15 ?_
          have ha15 := ha15.setRow (h := byt (y ^^^ t))
          refine hK.out _ _ (below_setRow hS (by have := hS.size; first | omega | (simp at *; omega) | (simp [setRow_size] at *; omega)) _) (fun hS => ?_)
          clear hK K
          simp only [Act.put]
          refine wpAnyH_done (by kernel_rfl) ?_ _
          have hO8 := hO7.below hS (Nat.le_refl _)
          have hB8 := hB7.trans (hS.mono hB7.size)
          have hz8 := hS.size
          go_wp2_with (((with_reducible show wpList _ _ _ (⟨some 59, Op.call _, _, _, _, _⟩ :: _) _ _); refine wp_appA rfl (.tmp 57) (.tmp 58) rfl w5.heap.size _ ol rfl hO8 (some ⟨w7.heap.size + 1, 0, none⟩) 16 16 (listB (byt (y ^^^ t))) rfl (ha15.bytes (byt_lt _)) (by have := HOL.out; omega) (by have := hB8.size; omega) ?_))
          intro v2 w8 k1 k2 k3
          have hB9 := grown_below hB8 k2 hB8.size (fun k hk => (hO8.ge k hk).1)
          clear hO8 hB8 hS k2 k3 ha15
          go_wp2_with fail
          go_roundw
          case rel => exact ⟨k + 1, by go_num, by omega, by rw [HXL.out]; exact k1, hB9⟩
          case measure => simp [intOf]; omega
      · rw [if_pos (by kernel_rfl)]
        go_simp
        have ha15 : Arr (w7.drew.alloc (.cells #[.int .u8 0, .int .u8 0, .int .u8 0, .int .u8 0, .int .u8 0, .int .u8 0, .int .u8 0, .int .u8 0, .int .u8 0, .int .u8 0, .int .u8 0, .int .u8 0, .int .u8 0, .int .u8 0, .int .u8 0, .int .u8 0] 36)) (w7.heap.size) (fun _ => 0) := Arr.zero _ _ (by first | rfl | simp | simp [World.setRow])
        refine hK.out _ _ (hS.alloc hS.size _) (fun hS => ?_)
        clear hK K
        refine wpAnyH_ready (rs := [12]) (by kernel_rfl) (by simp) ?_
        refine (AllReadyH.cons (o := ⟨some 51, _, _, _, _, _⟩) rfl (fun K hK => ?_) AllReadyH.nil)
        rw [if_pos (by kernel_rfl)]
        refine wp_two (.tmp 49) (.tmp 50) rfl (byt (x)) (byt (t)) rfl rfl ?_
        have ha15 := ha15.alloc (.cells (bv (byt (x)) ++ bv (byt (t))) 36)
        have hk51 : Blocks ((w7.drew.alloc (.cells #[.int .u8 0, .int .u8 0, .int .u8 0, .int .u8 0, .int .u8 0, .int .u8 0, .int .u8 0, .int .u8 0, .int .u8 0, .int .u8 0, .int .u8 0, .int .u8 0, .int .u8 0, .int .u8 0, .int .u8 0, .int .u8 0] 36)).alloc (.cells (bv (byt (x)) ++ bv (byt (t))) 36)) (some ⟨w7.heap.size + 1, 0, none⟩) 2 [x, t] := blocks_two _ _ _ _ (by first | rfl | simp | simp [World.setRow]) hxl htl
        refine hK.out _ _ (hS.alloc hS.size _) (fun hS => ?_)
        clear hK K
        simp only [Act.put, List.setIfInBounds_toArray, List.set_cons_zero, List.set_cons_succ]
        refine wpAnyH_ready (rs := [13]) (by kernel_rfl) (by simp) ?_
        refine (AllReadyH.cons (o := ⟨some 52, _, _, _, _, _⟩) rfl (fun K hK => ?_) AllReadyH.nil)
        rw [if_pos (by kernel_rfl)]
        go_simp
        refine (xor_two _ _ x t _ hk51).mono ?_
        rintro e v1 ⟨rfl, hq1⟩
        have ha15 := ha15.below hq1 ha15.lt
        have hk51 := hk51.below hq1
        have hqz1 := hq1.size
        refine hK.out _ _ (hS.trans (hq1.mono (by first | exact hS.size | (have := hS.size; simp at this ⊢; omega)))) (fun hS => ?_)
        clear hK K
        refine wpAnyH_ready (rs := [14]) (by kernel_rfl) (by simp) ?_
        refine (AllReadyH.cons (o := ⟨some 53, _, _, _, _, _⟩) rfl (fun K hK => ?_) AllReadyH.nil)
        rw [if_pos (by kernel_rfl)]
        go_simp
        refine (HF.out _ (hC7.below hS)).mono ?_
        rintro e v2 ⟨rfl, hq2⟩
        have ha15 := ha15.below hq2 ha15.lt
        have hk51 := hk51.below hq2
        have hqz2 := hq2.size
        refine hK.out _ _ (hS.trans (hq2.mono (by first | exact hS.size | (have := hS.size; simp at this ⊢; omega)))) (fun hS => ?_)
        clear hK K
        refine wpAnyH_ready (rs := [16]) (by kernel_rfl) (by simp) ?_
        refine (AllReadyH.cons (o := ⟨some 55, _, _, _, _, _⟩) rfl (fun K hK => ?_) AllReadyH.nil)
        rw [if_pos (by kernel_rfl)]
        refine wp_two (.tmp 53) (.tmp 54) rfl (byt (y)) (byt (t)) rfl rfl ?_
        have ha15 := ha15.alloc (.cells (bv (byt (y)) ++ bv (byt (t))) 36)
        have hk51 := hk51.alloc (.cells (bv (byt (y)) ++ bv (byt (t))) 36)
        have hk55 : Blocks (v2.alloc (.cells (bv (byt (y)) ++ bv (byt (t))) 36)) (some ⟨v2.heap.size, 0, none⟩) 2 [y, t] := blocks_two _ _ _ _ (by first | rfl | simp | simp [World.setRow]) hyl htl
        refine hK.out _ _ (hS.alloc hS.size _) (fun hS => ?_)
        clear hK K
        simp only [Act.put, List.setIfInBounds_toArray, List.set_cons_zero, List.set_cons_succ]
        refine wpAnyH_ready (rs := [17]) (by kernel_rfl) (by simp) ?_
        refine (AllReadyH.cons (o := ⟨some 56, _, _, _, _, _⟩) rfl (fun K hK => ?_) AllReadyH.nil)
        rw [if_pos (by kernel_rfl)]
        go_simp
        refine (xor_two _ _ y t _ hk55).mono ?_
        rintro e v3 ⟨rfl, hq3⟩
        have ha15 := ha15.below hq3 ha15.lt
        have hk51 := hk51.below hq3
        have hk55 := hk55.below hq3
        have hqz3 := hq3.size
        refine hK.out _ _ (hS.trans (hq3.mono (by first | exact hS.size | (have := hS.size; simp at this ⊢; omega)))) (fun hS => ?_)
        clear hK K
        refine wpAnyH_ready (rs := [19]) (by kernel_rfl) (by simp) ?_
        refine (AllReadyH.cons (o := ⟨none, _, _, _, _, _⟩) rfl (fun K hK => ?_) AllReadyH.nil)
        rw [if_pos (by kernel_rfl)]
        refine wpo_store_arr (.tmp 15) (.tmp 56) rfl (w7.heap.size) (fun _ => 0) (byt (y ^^^ t)) rfl rfl ha15 ?_
        have ha15 := ha15.setRow (h := byt (y ^^^ t))
        refine hK.out _ _ (below_setRow hS (by have := hS.size; first | omega | (simp at *; omega) | (simp [setRow_size] at *; omega)) _) (fun hS => ?_)
        clear hK K
        simp only [Act.put]
        refine wpAnyH_done (by kernel_rfl) ?_ _
        have hO8 := hO7.below hS (Nat.le_refl _)
        have hB8 := hB7.trans (hS.mono hB7.size)
        have hz8 := hS.size
        go_wp2_with (((with_reducible show wpList _ _ _ (⟨some 59, Op.call _, _, _, _, _⟩ :: _) _ _); refine wp_appA rfl (.tmp 57) (.tmp 58) rfl w5.heap.size _ ol rfl hO8 (some ⟨w7.heap.size, 0, none⟩) 16 16 (listB (byt (y ^^^ t))) rfl (ha15.bytes (byt_lt _)) (by have := HOL.out; omega) (by have := hB8.size; omega) ?_))
        intro v2 w8 k1 k2 k3
        have hB9 := grown_below hB8 k2 hB8.size (fun k hk => (hO8.ge k hk).1)
        clear hO8 hB8 hS k2 k3 ha15
        go_wp2_with fail
        go_roundw
        case rel => exact ⟨k + 1, by go_num, by omega, by rw [HXL.out]; exact k1, hB9⟩
        case measure => simp [intOf]; omega
set_option maxRecDepth 100000 in
set_option maxHeartbeats 8000000 in
theorem thrd_yes (A : Option Addr) (n c : Nat) (l : List Nat) (u : Nat) (ad : Addr) (m c1 : Nat) (d : List Nat) (w : World) (hl : Bytes w A n l) (hc : n ≤ c) (h : MayX n (u : Int)) (hd : Bytes w (some ad) m d) (hc1 : m ≤ c1) (hm : m % 16 = 0) (hm2 : m ≤ 4096) (hm0 : 0 < m) :
    Calls Try.prog 88 #[.slice A n c, .int .i64 (u : Int), .slice (some ad) m c1, .func (Fn.func 90) #[] #[]] w (ThrQ true (half1 l) (half2 l) u d (m / 16) w) := by
  have hk1 : MayK (half1 l).length := half1_may (by rw [hl.1]; exact h.1)
  have hk2 : MayK (half2 l).length := half2_may (by rw [hl.1]; exact h.1)
  have hu : u < 9223372036854775808 := by have := h.2.2; omega
  have HM := Box.mk (fun w hl => may_yes A n c l (u : Int) (some ad) m c1 w hl hc h (by simp; omega) (decide_eq_true (by omega)))
  have HO := Box.mk (fun w hl => open_yes A n c l (u : Int) w hl hc h)
  obtain ⟨k1, hk1e⟩ : ∃ k, half1 l = k := ⟨_, rfl⟩
  obtain ⟨k2, hk2e⟩ : ∃ k, half2 l = k := ⟨_, rfl⟩
  rw [hk1e] at hk1 HO
  rw [hk2e] at hk2 HO
  rw [hk1e, hk2e]
  obtain ⟨nb, hnb⟩ : ∃ nb, nb = m / 16 := ⟨_, rfl⟩
  rw [← hnb]
  have hnb2 : nb ≤ 256 := by omega
  have HNB : Box (nb * 16 = m) := ⟨by omega⟩
  have hni : (m : Int) / 16 = (nb : Int) := by omega
  have HT : Box (∀ (C D : Nat) (w : World), Ciph w D (words k2) → Calls Try.prog 92 #[.agg #[.pointer (some ⟨C, 0, none⟩), .pointer (some ⟨D, 0, none⟩)], .int .i64 (u : Int), .int .i64 (nb : Int)] w (TwQ k2 u nb w)) := ⟨fun C D w hD => tweaks_walk C D _ u nb hk2 hu hnb2 w hD⟩
  have HF0 : Box (∀ (C D x : Nat) (w : World), Ciph w C (words k1) → Calls Try.prog 90 #[.agg #[.pointer (some ⟨C, 0, none⟩), .pointer (some ⟨D, 0, none⟩)], .agg (bv (byt x))] w fun e w' => e = .returned (.agg (bv (byt (decN k1 x)))) ∧ Below w.heap.size w w') := ⟨fun C D x w h => dec_clo C D k1 x hk1 w h⟩
  clear h hk1 hk2 hu hk1e hk2e hnb
  go_enter Try.func88, Try.ntmps88
  go_wp2_with fail
  refine (HM.out _ hl).mono ?_
  rintro e w1 ⟨rfl, hb1⟩
  go_wp2_with fail
  refine (HO.out _ (hl.below hb1)).mono ?_
  rintro e w2 ⟨C, D, rfl, hC, hD, hb2⟩
  have hw2 := hb1.trans (hb2.mono hb1.size)
  have hP : PairV ((w2.alloc (.cells #[.pointer none, .pointer none] 106)).setRow w2.heap.size #[.pointer (some ⟨C, 0, none⟩), .pointer (some ⟨D, 0, none⟩)]) w2.heap.size (.pointer (some ⟨C, 0, none⟩)) (.pointer (some ⟨D, 0, none⟩)) := (PairV.new w2 (.pointer none) (.pointer none) _ rfl).setRow
  have hbW : Below w2.heap.size w2 ((w2.alloc (.cells #[.pointer none, .pointer none] 106)).setRow w2.heap.size #[.pointer (some ⟨C, 0, none⟩), .pointer (some ⟨D, 0, none⟩)]) := below_setRow ((Below.refl _ _).alloc (Nat.le_refl _) _) (Nat.le_refl _) _
  go_wp2_with (first
    | ((with_reducible show wpList _ _ _ (⟨_, Op.store 106 (.tmp 10) (.tmp 25), _, _, _, _⟩ :: _) _ _); refine wp_store106 rfl (.tmp 10) (.tmp 25) rfl w2.heap.size (.pointer none) (.pointer none) _ _ rfl rfl (PairV.new _ _ _ _ rfl) rfl rfl ?_)
    | ((with_reducible show wpList _ _ _ (⟨some 27, Op.load 106 (.tmp 10), _, _, _, _⟩ :: _) _ _); refine wp_load106 rfl (.tmp 10) rfl w2.heap.size _ _ rfl hP ?_))
  revert hbW hP
  generalize (w2.alloc (.cells #[.pointer none, .pointer none] 106)).setRow w2.heap.size #[.pointer (some ⟨C, 0, none⟩), .pointer (some ⟨D, 0, none⟩)] = w3
  intro hP hbW
  obtain ⟨g10, hg10⟩ : ∃ g, g = w2.heap.size := ⟨_, rfl⟩
  rw [← hg10] at hP ⊢
  refine (HT.out C D _ (hD.below hbW)).mono ?_
  rintro e w5 ⟨vt, rfl, hTs, hb5⟩
  have hC5 := (hC.below hbW).below hb5
  have hP5 := hP.below hb5 hP.lt
  have hw5 := (hw2.trans (hbW.mono hw2.size)).trans (hb5.mono (by have := hw2.size; have := hbW.size; omega))
  have hd5 := hd.below hw5
  obtain ⟨At, ct, hvt, hTb⟩ := hTs.blocks
  subst hvt
  rw [twL_len] at hTb ⊢
  have HF : Box (∀ (x : Nat) (w : World), Ciph w C (words k1) → Calls Try.prog 90 #[.agg #[.pointer (some ⟨C, 0, none⟩), .pointer (some ⟨D, 0, none⟩)], .agg (bv (byt x))] w fun e w' => e = .returned (.agg (bv (byt (decN k1 x)))) ∧ Below w.heap.size w w') := ⟨fun x w h => HF0.out C D x w h⟩
  clear hC hD hb1 hb2 hw2 hP hbW hg10 hb5 HM HO HT HF0 hTs hl hd
  go_wp2_with fail
  go_loopw [12, 13, 14, 15, 34] (fun o _a _b _c i wr => ∃ (k : Nat), i = .int .i64 (k : Int) ∧ k ≤ nb ∧ Own wr w5.heap.size o (xtL true k1 k2 u d k) ∧ Below w5.heap.size w5 wr) (fun _ _ _ _ i _ => nb - (intOf i).toNat)
  case atStart => exact ⟨0, rfl, by omega, own_nil _ _, Below.refl _ _⟩
  case round =>
    obtain ⟨k, rfl, hk, hO, hB⟩ := hrel
    by_cases hkn : k = nb
    · subst hkn
      go_wp2_with fail
      go_ret2
      exact ⟨_, rfl, ⟨Joins.ownsRow_le hO.1 hw5.size, hO.2⟩, hw5.trans (hB.mono hw5.size)⟩
    · have hk2' : k < nb := by omega
      clear hkn
      obtain ⟨tb, ot, t, hAt, htd, htl, _, hr⟩ := (hTb.below hB).at_ hk2'
      subst hAt
      rw [twL_get _ _ hk2'] at htd
      obtain ⟨q, hq⟩ : ∃ q, q = 16 * k := ⟨_, rfl⟩
      obtain ⟨q2, hq2⟩ : ∃ q2, q2 = 16 * k + 16 := ⟨_, rfl⟩
      have HQ : Box (q = 16 * k) := ⟨hq⟩
      have HQ2 : Box (q2 = 16 * k + 16) := ⟨hq2⟩
      have hqm : q2 ≤ m := by have := HNB.out; omega
      have hqd : q2 - q = 16 := by omega
      have q0 : (0 : Int) ≤ (q : Int) := by omega
      have q1 : (q : Int) ≤ (q2 : Int) := by omega
      have q3 : (q2 : Int) ≤ (c1 : Int) := by omega
      have hne : (c1 = q) = False := by simp; omega
      have hdl := hd5.2.2.1
      obtain ⟨x, hx⟩ : ∃ x, datN d k = x := ⟨_, rfl⟩
      have hxl : x < 2 ^ 128 := by rw [← hx]; exact datN_lt hdl k
      obtain ⟨y, hy⟩ : ∃ y, decN k1 (x ^^^ t) = y := ⟨_, rfl⟩
      have hyl : y < 2 ^ 128 := by rw [← hy]; exact decN_lt _ _
      have HXL : Box (xtL true k1 k2 u d (k + 1) = xtL true k1 k2 u d k ++ listB (byt (y ^^^ t))) := ⟨by rw [xtL]; unfold xtB; rw [hx, htd, ← hy]; rfl⟩
      have HF1 : Box (∀ (w : World), Ciph w C (words k1) → Calls Try.prog 90 #[.agg #[.pointer (some ⟨C, 0, none⟩), .pointer (some ⟨D, 0, none⟩)], .agg (bv (byt (x ^^^ t)))] w fun e w' => e = .returned (.agg (bv (byt y))) ∧ Below w.heap.size w w') := ⟨fun w h => by have h2 := HF.out (x ^^^ t) w h; rwa [hy] at h2⟩
      have hdr := hd5.below hB
      have hdlt := hdr.2.2.2 hm0
      obtain ⟨ol, hol⟩ : ∃ ol, xtL true k1 k2 u d k = ol := ⟨_, rfl⟩
      have HOL : Box (ol.length ≤ 4096) := ⟨by rw [← hol, xtL_len]; omega⟩
      rw [hol] at hO HXL
      have hA14 : Arr ((wr.alloc (.cells #[.int .u8 0, .int .u8 0, .int .u8 0, .int .u8 0, .int .u8 0, .int .u8 0, .int .u8 0, .int .u8 0, .int .u8 0, .int .u8 0, .int .u8 0, .int .u8 0, .int .u8 0, .int .u8 0, .int .u8 0, .int .u8 0] 36)).setRow wr.heap.size (bv (byt t))) wr.heap.size (byt t) := (Arr.zero _ _ rfl).setRow
      have hbW : Below wr.heap.size wr ((wr.alloc (.cells #[.int .u8 0, .int .u8 0, .int .u8 0, .int .u8 0, .int .u8 0, .int .u8 0, .int .u8 0, .int .u8 0, .int .u8 0, .int .u8 0, .int .u8 0, .int .u8 0, .int .u8 0, .int .u8 0, .int .u8 0, .int .u8 0] 36)).setRow wr.heap.size (bv (byt t))) := below_setRow ((Below.refl _ _).alloc (Nat.le_refl _) _) (Nat.le_refl _) _
      have hO7 : Own ((wr.alloc (.cells #[.int .u8 0, .int .u8 0, .int .u8 0, .int .u8 0, .int .u8 0, .int .u8 0, .int .u8 0, .int .u8 0, .int .u8 0, .int .u8 0, .int .u8 0, .int .u8 0, .int .u8 0, .int .u8 0, .int .u8 0, .int .u8 0] 36)).setRow wr.heap.size (bv (byt t))) w5.heap.size _ ol := hO.below hbW (Nat.le_refl _)
      have hB7 := hB.trans (hbW.mono hB.size)
      have HDAT : Box (∀ j, j < 16 → (((wr.alloc (.cells #[.int .u8 0, .int .u8 0, .int .u8 0, .int .u8 0, .int .u8 0, .int .u8 0, .int .u8 0, .int .u8 0, .int .u8 0, .int .u8 0, .int .u8 0, .int .u8 0, .int .u8 0, .int .u8 0, .int .u8 0, .int .u8 0] 36)).setRow wr.heap.size (bv (byt t)))).cell? ((ad.add q).add j) = some (cellOf (byt x j))) := ⟨fun j hj => by
        obtain ⟨ad', e, hcc⟩ := (hdr.below hbW).2.2.2 hm0
        injection e with e
        subst e
        rw [add_of_add, hcc (q + j) (by omega), ← hx, datN, byt_numF (datF_lt hdl k) 16 j hj, hq]
        rfl⟩
      have hdlt : ad.block < (((wr.alloc (.cells #[.int .u8 0, .int .u8 0, .int .u8 0, .int .u8 0, .int .u8 0, .int .u8 0, .int .u8 0, .int .u8 0, .int .u8 0, .int .u8 0, .int .u8 0, .int .u8 0, .int .u8 0, .int .u8 0, .int .u8 0, .int .u8 0] 36)).setRow wr.heap.size (bv (byt t)))).heap.size := by
        have h0 := (HDAT.out 0 (by decide))
        have := World.block_lt_of_cell? _ _ h0
        rwa [block_of_add, block_of_add] at this
      have hC7 := (hC5.below hB).below hbW
      have hPc0 := ((hP5.below hB hP5.lt).below hbW (by have := hP5.lt; have := hB.size; omega)).c0
      have hPc1 := ((hP5.below hB hP5.lt).below hbW (by have := hP5.lt; have := hB.size; omega)).c1
      have hPlt : g10 < (((wr.alloc (.cells #[.int .u8 0, .int .u8 0, .int .u8 0, .int .u8 0, .int .u8 0, .int .u8 0, .int .u8 0, .int .u8 0, .int .u8 0, .int .u8 0, .int .u8 0, .int .u8 0, .int .u8 0, .int .u8 0, .int .u8 0, .int .u8 0] 36)).setRow wr.heap.size (bv (byt t)))).heap.size := by have := hP5.lt; have := hB.size; have := hbW.size; omega
      clear hq hq2 hx hy hol htd hO HF hdr hbW
      go_wp2_with (first
          | ((with_reducible show wpList _ _ _ (⟨some 38, Op.load 36 (.tmp 37), _, _, _, _⟩ :: _) _ _); refine wp_load_blk rfl (.tmp 37) rfl tb (ot + k * 16) (byt t) rfl hr ?_)
          | ((with_reducible show wpList _ _ _ (⟨_, Op.store 36 (.tmp 14) (.tmp 38), _, _, _, _⟩ :: _) _ _); refine wp_store_arr rfl (.tmp 14) (.tmp 38) rfl (wr.heap.size) (fun _ => 0) (byt t) rfl rfl (Arr.zero _ _ rfl) ?_))
      revert hA14 hO7 hB7 HDAT hdlt hC7 hPc0 hPc1 hPlt
      generalize ((wr.alloc (.cells #[.int .u8 0, .int .u8 0, .int .u8 0, .int .u8 0, .int .u8 0, .int .u8 0, .int .u8 0, .int .u8 0, .int .u8 0, .int .u8 0, .int .u8 0, .int .u8 0, .int .u8 0, .int .u8 0, .int .u8 0, .int .u8 0] 36)).setRow wr.heap.size (bv (byt t))) = w7
      intro hA14 hO7 hB7 HDAT hdlt hC7 hPc0 hPc1 hPlt
      have HF := HF1
      refine wp_region_held_drew (S := fun w' => Below w7.heap.size w7 w') (by kernel_rfl) (Below.refl _ _).drew (fun hS => ?_)
      refine wpAnyH_take (i := 0) (oi := ⟨some 39, _, _, _, _, _⟩) (v := .func (Fn.func 90) #[] #[]) rfl (by kernel_rfl) (by kernel_rfl) (by kernel_rfl) (fun _ _ _ h => h) (Or.inl ⟨by kernel_rfl, fun w' hSw => ?_⟩) hS ?_
      · go_simp
      simp only [Act.put, List.setIfInBounds_toArray, List.set_cons_zero, List.set_cons_succ]
      refine wpAnyH_take (i := 1) (oi := ⟨some 40, _, _, _, _, _⟩) (v := .agg #[.pointer (some ⟨C, 0, none⟩), .pointer (some ⟨D, 0, none⟩)]) rfl (by kernel_rfl) (by kernel_rfl) (by kernel_rfl) (fun _ _ _ h => h) (Or.inl ⟨by kernel_rfl, fun w' hSw => ?_⟩) hS ?_
      · (have c0 := (hSw.cell (p := ⟨g10, 0, none⟩) hPlt).trans hPc0; have c1 := (hSw.cell (p := ⟨g10, 1, none⟩) hPlt).trans hPc1; go_simp)
      simp only [Act.put, List.setIfInBounds_toArray, List.set_cons_zero, List.set_cons_succ]
      refine wpAnyH_take (i := 2) (oi := ⟨some 41, _, _, _, _, _⟩) (v := .slice (some ad) m c1) rfl (by kernel_rfl) (by kernel_rfl) (by kernel_rfl) (fun _ _ _ h => h) (Or.inl ⟨by kernel_rfl, fun w' hSw => ?_⟩) hS ?_
      · go_simp
      simp only [Act.put, List.setIfInBounds_toArray, List.set_cons_zero, List.set_cons_succ]
      refine wpAnyH_take (i := 3) (oi := ⟨some 42, _, _, _, _, _⟩) (v := .int .i64 (k : Int)) rfl (by kernel_rfl) (by kernel_rfl) (by kernel_rfl) (fun _ _ _ h => h) (Or.inl ⟨by kernel_rfl, fun w' hSw => ?_⟩) hS ?_
      · go_simp
      simp only [Act.put, List.setIfInBounds_toArray, List.set_cons_zero, List.set_cons_succ]
      refine wpAnyH_take (i := 4) (oi := ⟨some 43, _, _, _, _, _⟩) (v := .int .i64 (q : Int)) rfl (by kernel_rfl) (by kernel_rfl) (by kernel_rfl) (fun _ _ _ h => h) (Or.inl ⟨by kernel_rfl, fun w' hSw => ?_⟩) hS ?_
      · (go_simp; rw [show (k : Int) * 16 = (q : Int) by have := HQ.out; omega]; exact IntWalk.i64_in _ (by omega))
      simp only [Act.put, List.setIfInBounds_toArray, List.set_cons_zero, List.set_cons_succ]
      refine wpAnyH_take (i := 5) (oi := ⟨some 44, _, _, _, _, _⟩) (v := .int .i64 (k : Int)) rfl (by kernel_rfl) (by kernel_rfl) (by kernel_rfl) (fun _ _ _ h => h) (Or.inl ⟨by kernel_rfl, fun w' hSw => ?_⟩) hS ?_
      · go_simp
      simp only [Act.put, List.setIfInBounds_toArray, List.set_cons_zero, List.set_cons_succ]
      refine wpAnyH_take (i := 6) (oi := ⟨some 45, _, _, _, _, _⟩) (v := .int .i64 ((k : Int) + 1)) rfl (by kernel_rfl) (by kernel_rfl) (by kernel_rfl) (fun _ _ _ h => h) (Or.inl ⟨by kernel_rfl, fun w' hSw => ?_⟩) hS ?_
      · (go_simp; exact IntWalk.i64_in _ (by omega))
      simp only [Act.put, List.setIfInBounds_toArray, List.set_cons_zero, List.set_cons_succ]
      refine wpAnyH_take (i := 7) (oi := ⟨some 46, _, _, _, _, _⟩) (v := .int .i64 (q2 : Int)) rfl (by kernel_rfl) (by kernel_rfl) (by kernel_rfl) (fun _ _ _ h => h) (Or.inl ⟨by kernel_rfl, fun w' hSw => ?_⟩) hS ?_
      · (go_simp; rw [show ((k : Int) + 1) * 16 = (q2 : Int) by have := HQ2.out; omega]; exact IntWalk.i64_in _ (by omega))
      simp only [Act.put, List.setIfInBounds_toArray, List.set_cons_zero, List.set_cons_succ]
      refine wpAnyH_take (i := 8) (oi := ⟨some 47, _, _, _, _, _⟩) (v := .slice (some (ad.add q)) 16 (c1 - q)) rfl (by kernel_rfl) (by kernel_rfl) (by kernel_rfl) (fun _ _ _ h => h) (Or.inl ⟨by kernel_rfl, fun w' hSw => ?_⟩) hS ?_
      · go_simp
      simp only [Act.put, List.setIfInBounds_toArray, List.set_cons_zero, List.set_cons_succ]
      refine wpAnyH_take (i := 9) (oi := ⟨some 48, _, _, _, _, _⟩) (v := .pointer (some (ad.add q))) rfl (by kernel_rfl) (by kernel_rfl) (by kernel_rfl) (fun _ _ _ h => h) (Or.inl ⟨by kernel_rfl, fun w' hSw => ?_⟩) hS ?_
      · (have ha := run_arrayAt (some (ad.add q)) 16 (c1 - q) (by decide) w'; go_simp)
      simp only [Act.put, List.setIfInBounds_toArray, List.set_cons_zero, List.set_cons_succ]
      refine wpAnyH_take (i := 10) (oi := ⟨some 49, _, _, _, _, _⟩) (v := .agg (bv (byt x))) rfl (by kernel_rfl) (by kernel_rfl) (by kernel_rfl) (fun _ _ _ h => h) (yields_arr_at (by kernel_rfl) (.tmp 48) rfl (ad.add q) (byt x) rfl (fun w' h j hj => (h.cell (p := (ad.add q).add j) (by rw [block_of_add, block_of_add]; exact hdlt)).trans (HDAT.out j hj))) hS ?_
      simp only [Act.put, List.setIfInBounds_toArray, List.set_cons_zero, List.set_cons_succ]
      refine wpAnyH_take (i := 11) (oi := ⟨some 50, _, _, _, _, _⟩) (v := .agg (bv (byt t))) rfl (by kernel_rfl) (by kernel_rfl) (by kernel_rfl) (fun _ _ _ h => h) (yields_arr (by kernel_rfl) (.tmp 14) rfl (wr.heap.size) (byt t) rfl fun w' h => hA14.below h hA14.lt) hS ?_
      simp only [Act.put, List.setIfInBounds_toArray, List.set_cons_zero, List.set_cons_succ]
      refine wpAnyH_take (i := 15) (oi := ⟨some 54, _, _, _, _, _⟩) (v := .agg (bv (byt t))) rfl (by kernel_rfl) (by kernel_rfl) (by kernel_rfl) (fun _ _ _ h => h) (yields_arr (by kernel_rfl) (.tmp 14) rfl (wr.heap.size) (byt t) rfl fun w' h => hA14.below h hA14.lt) hS ?_
      simp only [Act.put, List.setIfInBounds_toArray, List.set_cons_zero, List.set_cons_succ]
      refine wpAnyH_ready (rs := [12, 18]) (by kernel_rfl) (by simp) ?_
      refine (AllReadyH.cons (o := ⟨some 51, _, _, _, _, _⟩) rfl (fun K hK => ?_) (AllReadyH.cons (o := ⟨some 15, _, _, _, _, _⟩) rfl (fun K hK => ?_) AllReadyH.nil))
      · rw [if_pos (by kernel_rfl)]
        refine wp_two (.tmp 49) (.tmp 50) rfl (byt (x)) (byt (t)) rfl rfl ?_
        have hk51 : Blocks (w7.drew.alloc (.cells (bv (byt (x)) ++ bv (byt (t))) 36)) (some ⟨w7.heap.size, 0, none⟩) 2 [x, t] := blocks_two _ _ _ _ (by first | rfl | simp | simp [World.setRow]) hxl htl
        refine hK.out _ _ (hS.alloc hS.size _) (fun hS => ?_)
        clear hK K
        simp only [Act.put, List.setIfInBounds_toArray, List.set_cons_zero, List.set_cons_succ]
        refine wpAnyH_ready (rs := [13, 18]) (by kernel_rfl) (by simp) ?_
        refine (AllReadyH.cons (o := ⟨some 52, _, _, _, _, _⟩) rfl (fun K hK => ?_) (AllReadyH.cons (o := ⟨some 15, _, _, _, _, _⟩) rfl (fun K hK => ?_) AllReadyH.nil))
        · rw [if_pos (by kernel_rfl)]
          go_simp
          refine (xor_two _ _ x t _ hk51).mono ?_
          rintro e v1 ⟨rfl, hq1⟩
          have hk51 := hk51.below hq1
          have hqz1 := hq1.size
          refine hK.out _ _ (hS.trans (hq1.mono (by first | exact hS.size | (have := hS.size; simp at this ⊢; omega)))) (fun hS => ?_)
          clear hK K
          refine wpAnyH_ready (rs := [14, 18]) (by kernel_rfl) (by simp) ?_
          refine (AllReadyH.cons (o := ⟨some 53, _, _, _, _, _⟩) rfl (fun K hK => ?_) (AllReadyH.cons (o := ⟨some 15, _, _, _, _, _⟩) rfl (fun K hK => ?_) AllReadyH.nil))
          · rw [if_pos (by kernel_rfl)]
            go_simp
            refine (HF.out _ (hC7.below hS)).mono ?_
            rintro e v2 ⟨rfl, hq2⟩
            have hk51 := hk51.below hq2
            have hqz2 := hq2.size
            refine hK.out _ _ (hS.trans (hq2.mono (by first | exact hS.size | (have := hS.size; simp at this ⊢; omega)))) (fun hS => ?_)
            clear hK K
            refine wpAnyH_ready (rs := [16, 18]) (by kernel_rfl) (by simp) ?_
            refine (AllReadyH.cons (o := ⟨some 55, _, _, _, _, _⟩) rfl (fun K hK => ?_) (AllReadyH.cons (o := ⟨some 15, _, _, _, _, _⟩) rfl (fun K hK => ?_) AllReadyH.nil))
            · rw [if_pos (by kernel_rfl)]
              refine wp_two (.tmp 53) (.tmp 54) rfl (byt (y)) (byt (t)) rfl rfl ?_
              have hk51 := hk51.alloc (.cells (bv (byt (y)) ++ bv (byt (t))) 36)
              have hk55 : Blocks (v2.alloc (.cells (bv (byt (y)) ++ bv (byt (t))) 36)) (some ⟨v2.heap.size, 0, none⟩) 2 [y, t] := blocks_two _ _ _ _ (by first | rfl | simp | simp [World.setRow]) hyl htl
              refine hK.out _ _ (hS.alloc hS.size _) (fun hS => ?_)
              clear hK K
              simp only [Act.put, List.setIfInBounds_toArray, List.set_cons_zero, List.set_cons_succ]
              refine wpAnyH_ready (rs := [17, 18]) (by kernel_rfl) (by simp) ?_
              refine (AllReadyH.cons (o := ⟨some 56, _, _, _, _, _⟩) rfl (fun K hK => ?_) (AllReadyH.cons (o := ⟨some 15, _, _, _, _, _⟩) rfl (fun K hK => ?_) AllReadyH.nil))
              · rw [if_pos (by kernel_rfl)]
                go_simp
                refine (xor_two _ _ y t _ hk55).mono ?_
                rintro e v3 ⟨rfl, hq3⟩
                have hk51 := hk51.below hq3
                have hk55 := hk55.below hq3
                have hqz3 := hq3.size
                refine hK.out _ _ (hS.trans (hq3.mono (by first | exact hS.size | (have := hS.size; simp at this ⊢; omega)))) (fun hS => ?_)
                clear hK K
                refine wpAnyH_ready (rs := [18]) (by kernel_rfl) (by simp) ?_
                refine (AllReadyH.cons (o := ⟨some 15, _, _, _, _, _⟩) rfl (fun K hK => ?_) AllReadyH.nil)
                rw [if_pos (by kernel_rfl)]
                go_simp
                have hk51 := hk51.alloc (.cells #[.int .u8 0, .int .u8 0, .int .u8 0, .int .u8 0, .int .u8 0, .int .u8 0, .int .u8 0, .int .u8 0, .int .u8 0, .int .u8 0, .int .u8 0, .int .u8 0, .int .u8 0, .int .u8 0, .int .u8 0, .int .u8 0] 36)
                have hk55 := hk55.alloc (.cells #[.int .u8 0, .int .u8 0, .int .u8 0, .int .u8 0, .int .u8 0, .int .u8 0, .int .u8 0, .int .u8 0, .int .u8 0, .int .u8 0, .int .u8 0, .int .u8 0, .int .u8 0, .int .u8 0, .int .u8 0, .int .u8 0] 36)
                have ha15 : Arr (v3.alloc (.cells #[.int .u8 0, .int .u8 0, .int .u8 0, .int .u8 0, .int .u8 0, .int .u8 0, .int .u8 0, .int .u8 0, .int .u8 0, .int .u8 0, .int .u8 0, .int .u8 0, .int .u8 0, .int .u8 0, .int .u8 0, .int .u8 0] 36)) (v3.heap.size) (fun _ => 0) := Arr.zero _ _ (by first | rfl | simp | simp [World.setRow])
                refine hK.out _ _ (hS.alloc hS.size _) (fun hS => ?_)
                clear hK K
                refine wpAnyH_ready (rs := [19]) (by kernel_rfl) (by simp) ?_
                refine (AllReadyH.cons (o := ⟨none, _, _, _, _, _⟩) rfl (fun K hK => ?_) AllReadyH.nil)
                rw [if_pos (by kernel_rfl)]
                refine wpo_store_arr (.tmp 15) (.tmp 56) rfl (v3.heap.size) (fun _ => 0) (byt (y ^^^ t)) rfl rfl ha15 ?_
                have ha15 := ha15.setRow (h := byt (y ^^^ t))
                refine hK.out _ _ (below_setRow hS (by have := hS.size; first | omega | (simp at *; omega) | (simp [setRow_size] at *; omega)) _) (fun hS => ?_)
                clear hK K
                simp only [Act.put]
                refine wpAnyH_done (by kernel_rfl) ?_ _
                have hO8 := hO7.below hS (Nat.le_refl _)
                have hB8 := hB7.trans (hS.mono hB7.size)
                have hz8 := hS.size
                go_wp2_with (((with_reducible show wpList _ _ _ (⟨some 59, Op.call _, _, _, _, _⟩ :: _) _ _); refine wp_appA rfl (.tmp 57) (.tmp 58) rfl w5.heap.size _ ol rfl hO8 (some ⟨v3.heap.size, 0, none⟩) 16 16 (listB (byt (y ^^^ t))) rfl (ha15.bytes (byt_lt _)) (by have := HOL.out; omega) (by have := hB8.size; omega) ?_))
                intro v2 w8 k1 k2 k3
                have hB9 := grown_below hB8 k2 hB8.size (fun k hk => (hO8.ge k hk).1)
                clear hO8 hB8 hS k2 k3 ha15
                go_wp2_with fail
                go_roundw
                case rel => exact ⟨k + 1, by go_num, by omega, by rw [HXL.out]; exact k1, hB9⟩
                case measure => simp [intOf]; omega
              · rw [if_pos (by kernel_rfl)]
                go_simp
                have hk51 := hk51.alloc (.cells #[.int .u8 0, .int .u8 0, .int .u8 0, .int .u8 0, .int .u8 0, .int .u8 0, .int .u8 0, .int .u8 0, .int .u8 0, .int .u8 0, .int .u8 0, .int .u8 0, .int .u8 0, .int .u8 0, .int .u8 0, .int .u8 0] 36)
                have hk55 := hk55.alloc (.cells #[.int .u8 0, .int .u8 0, .int .u8 0, .int .u8 0, .int .u8 0, .int .u8 0, .int .u8 0, .int .u8 0, .int .u8 0, .int .u8 0, .int .u8 0, .int .u8 0, .int .u8 0, .int .u8 0, .int .u8 0, .int .u8 0] 36)
                have ha15 : Arr ((v2.alloc (.cells (bv (byt (y)) ++ bv (byt (t))) 36)).alloc (.cells #[.int .u8 0, .int .u8 0, .int .u8 0, .int .u8 0, .int .u8 0, .int .u8 0, .int .u8 0, .int .u8 0, .int .u8 0, .int .u8 0, .int .u8 0, .int .u8 0, .int .u8 0, .int .u8 0, .int .u8 0, .int .u8 0] 36)) (v2.heap.size + 1) (fun _ => 0) := Arr.zero _ _ (by first | rfl | simp | simp [World.setRow])
                refine hK.out _ _ (hS.alloc hS.size _) (fun hS => ?_)
                clear hK K
                refine wpAnyH_ready (rs := [17]) (by kernel_rfl) (by simp) ?_
                refine (AllReadyH.cons (o := ⟨some 56, _, _, _, _, _⟩) rfl (fun K hK => ?_) AllReadyH.nil)
                rw [if_pos (by kernel_rfl)]
                go_simp
                refine (xor_two _ _ y t _ hk55).mono ?_
                rintro e v3 ⟨rfl, hq3⟩
                have ha15 := ha15.below hq3 ha15.lt
                have hk51 := hk51.below hq3
                have hk55 := hk55.below hq3
                have hqz3 := hq3.size
                refine hK.out _ _ (hS.trans (hq3.mono (by first | exact hS.size | (have := hS.size; simp at this ⊢; omega)))) (fun hS => ?_)
                clear hK K
                refine wpAnyH_ready (rs := [19]) (by kernel_rfl) (by simp) ?_
                refine (AllReadyH.cons (o := ⟨none, _, _, _, _, _⟩) rfl (fun K hK => ?_) AllReadyH.nil)
                rw [if_pos (by kernel_rfl)]
                refine wpo_store_arr (.tmp 15) (.tmp 56) rfl (v2.heap.size + 1) (fun _ => 0) (byt (y ^^^ t)) rfl rfl ha15 ?_
                have ha15 := ha15.setRow (h := byt (y ^^^ t))
                refine hK.out _ _ (below_setRow hS (by have := hS.size; first | omega | (simp at *; omega) | (simp [setRow_size] at *; omega)) _) (fun hS => ?_)
                clear hK K
                simp only [Act.put]
                refine wpAnyH_done (by kernel_rfl) ?_ _
                have hO8 := hO7.below hS (Nat.le_refl _)
                have hB8 := hB7.trans (hS.mono hB7.size)
                have hz8 := hS.size
                go_wp2_with (((with_reducible show wpList _ _ _ (⟨some 59, Op.call _, _, _, _, _⟩ :: _) _ _); refine wp_appA rfl (.tmp 57) (.tmp 58) rfl w5.heap.size _ ol rfl hO8 (some ⟨v2.heap.size + 1, 0, none⟩) 16 16 (listB (byt (y ^^^ t))) rfl (ha15.bytes (byt_lt _)) (by have := HOL.out; omega) (by have := hB8.size; omega) ?_))
                intro v2 w8 k1 k2 k3
                have hB9 := grown_below hB8 k2 hB8.size (fun k hk => (hO8.ge k hk).1)
                clear hO8 hB8 hS k2 k3 ha15
                go_wp2_with fail
                go_roundw
                case rel => exact ⟨k + 1, by go_num, by omega, by rw [HXL.out]; exact k1, hB9⟩
                case measure => simp [intOf]; omega
            · rw [if_pos (by kernel_rfl)]
              go_simp
              have hk51 := hk51.alloc (.cells #[.int .u8 0, .int .u8 0, .int .u8 0, .int .u8 0, .int .u8 0, .int .u8 0, .int .u8 0, .int .u8 0, .int .u8 0, .int .u8 0, .int .u8 0, .int .u8 0, .int .u8 0, .int .u8 0, .int .u8 0, .int .u8 0] 36)
              have ha15 : Arr (v2.alloc (.cells #[.int .u8 0, .int .u8 0, .int .u8 0, .int .u8 0, .int .u8 0, .int .u8 0, .int .u8 0, .int .u8 0, .int .u8 0, .int .u8 0, .int .u8 0, .int .u8 0, .int .u8 0, .int .u8 0, .int .u8 0, .int .u8 0] 36)) (v2.heap.size) (fun _ => 0) := Arr.zero _ _ (by first | rfl | simp | simp [World.setRow])
              refine hK.out _ _ (hS.alloc hS.size _) (fun hS => ?_)
              clear hK K
              refine wpAnyH_ready (rs := [16]) (by kernel_rfl) (by simp) ?_
              refine (AllReadyH.cons (o := ⟨some 55, _, _, _, _, _⟩) rfl (fun K hK => ?_) AllReadyH.nil)
              rw [if_pos (by kernel_rfl)]
              refine wp_two (.tmp 53) (.tmp 54) rfl (byt (y)) (byt (t)) rfl rfl ?_
              have ha15 := ha15.alloc (.cells (bv (byt (y)) ++ bv (byt (t))) 36)
              have hk51 := hk51.alloc (.cells (bv (byt (y)) ++ bv (byt (t))) 36)
              have hk55 : Blocks ((v2.alloc (.cells #[.int .u8 0, .int .u8 0, .int .u8 0, .int .u8 0, .int .u8 0, .int .u8 0, .int .u8 0, .int .u8 0, .int .u8 0, .int .u8 0, .int .u8 0, .int .u8 0, .int .u8 0, .int .u8 0, .int .u8 0, .int .u8 0] 36)).alloc (.cells (bv (byt (y)) ++ bv (byt (t))) 36)) (some ⟨v2.heap.size + 1, 0, none⟩) 2 [y, t] := blocks_two _ _ _ _ (by first | rfl | simp | simp [World.setRow]) hyl htl
              refine hK.out _ _ (hS.alloc hS.size _) (fun hS => ?_)
              clear hK K
              simp only [Act.put, List.setIfInBounds_toArray, List.set_cons_zero, List.set_cons_succ]
              refine wpAnyH_ready (rs := [17]) (by kernel_rfl) (by simp) ?_
              refine (AllReadyH.cons (o := ⟨some 56, _, _, _, _, _⟩) rfl (fun K hK => ?_) AllReadyH.nil)
              rw [if_pos (by kernel_rfl)]
              go_simp
              refine (xor_two _ _ y t _ hk55).mono ?_
              rintro e v3 ⟨rfl, hq3⟩
              have ha15 := ha15.below hq3 ha15.lt
              have hk51 := hk51.below hq3
              have hk55 := hk55.below hq3
              have hqz3 := hq3.size
              refine hK.out _ _ (hS.trans (hq3.mono (by first | exact hS.size | (have := hS.size; simp at this ⊢; omega)))) (fun hS => ?_)
              clear hK K
              refine wpAnyH_ready (rs := [19]) (by kernel_rfl) (by simp) ?_
              refine (AllReadyH.cons (o := ⟨none, _, _, _, _, _⟩) rfl (fun K hK => ?_) AllReadyH.nil)
              rw [if_pos (by kernel_rfl)]
              refine wpo_store_arr (.tmp 15) (.tmp 56) rfl (v2.heap.size) (fun _ => 0) (byt (y ^^^ t)) rfl rfl ha15 ?_
              have ha15 := ha15.setRow (h := byt (y ^^^ t))
              refine hK.out _ _ (below_setRow hS (by have := hS.size; first | omega | (simp at *; omega) | (simp [setRow_size] at *; omega)) _) (fun hS => ?_)
              clear hK K
              simp only [Act.put]
              refine wpAnyH_done (by kernel_rfl) ?_ _
              have hO8 := hO7.below hS (Nat.le_refl _)
              have hB8 := hB7.trans (hS.mono hB7.size)
              have hz8 := hS.size
              go_wp2_with (((with_reducible show wpList _ _ _ (⟨some 59, Op.call _, _, _, _, _⟩ :: _) _ _); refine wp_appA rfl (.tmp 57) (.tmp 58) rfl w5.heap.size _ ol rfl hO8 (some ⟨v2.heap.size, 0, none⟩) 16 16 (listB (byt (y ^^^ t))) rfl (ha15.bytes (byt_lt _)) (by have := HOL.out; omega) (by have := hB8.size; omega) ?_))
              intro v2 w8 k1 k2 k3
              have hB9 := grown_below hB8 k2 hB8.size (fun k hk => (hO8.ge k hk).1)
              clear hO8 hB8 hS k2 k3 ha15
              go_wp2_with fail
              go_roundw
              case rel => exact ⟨k + 1, by go_num, by omega, by rw [HXL.out]; exact k1, hB9⟩
              case measure => simp [intOf]; omega
          · rw [if_pos (by kernel_rfl)]
            go_simp
            have hk51 := hk51.alloc (.cells #[.int .u8 0, .int .u8 0, .int .u8 0, .int .u8 0, .int .u8 0, .int .u8 0, .int .u8 0, .int .u8 0, .int .u8 0, .int .u8 0, .int .u8 0, .int .u8 0, .int .u8 0, .int .u8 0, .int .u8 0, .int .u8 0] 36)
            have ha15 : Arr (v1.alloc (.cells #[.int .u8 0, .int .u8 0, .int .u8 0, .int .u8 0, .int .u8 0, .int .u8 0, .int .u8 0, .int .u8 0, .int .u8 0, .int .u8 0, .int .u8 0, .int .u8 0, .int .u8 0, .int .u8 0, .int .u8 0, .int .u8 0] 36)) (v1.heap.size) (fun _ => 0) := Arr.zero _ _ (by first | rfl | simp | simp [World.setRow])
            refine hK.out _ _ (hS.alloc hS.size _) (fun hS => ?_)
            clear hK K
            refine wpAnyH_ready (rs := [14]) (by kernel_rfl) (by simp) ?_
            refine (AllReadyH.cons (o := ⟨some 53, _, _, _, _, _⟩) rfl (fun K hK => ?_) AllReadyH.nil)
            rw [if_pos (by kernel_rfl)]
            go_simp
            refine (HF.out _ (hC7.below hS)).mono ?_
            rintro e v2 ⟨rfl, hq2⟩
            have ha15 := ha15.below hq2 ha15.lt
            have hk51 := hk51.below hq2
            have hqz2 := hq2.size
            refine hK.out _ _ (hS.trans (hq2.mono (by first | exact hS.size | (have := hS.size; simp at this ⊢; omega)))) (fun hS => ?_)
            clear hK K
            refine wpAnyH_ready (rs := [16]) (by kernel_rfl) (by simp) ?_
            refine (AllReadyH.cons (o := ⟨some 55, _, _, _, _, _⟩) rfl (fun K hK => ?_) AllReadyH.nil)
            rw [if_pos (by kernel_rfl)]
            refine wp_two (.tmp 53) (.tmp 54) rfl (byt (y)) (byt (t)) rfl rfl ?_
            have ha15 := ha15.alloc (.cells (bv (byt (y)) ++ bv (byt (t))) 36)
            have hk51 := hk51.alloc (.cells (bv (byt (y)) ++ bv (byt (t))) 36)
            have hk55 : Blocks (v2.alloc (.cells (bv (byt (y)) ++ bv (byt (t))) 36)) (some ⟨v2.heap.size, 0, none⟩) 2 [y, t] := blocks_two _ _ _ _ (by first | rfl | simp | simp [World.setRow]) hyl htl
            refine hK.out _ _ (hS.alloc hS.size _) (fun hS => ?_)
            clear hK K
            simp only [Act.put, List.setIfInBounds_toArray, List.set_cons_zero, List.set_cons_succ]
            refine wpAnyH_ready (rs := [17]) (by kernel_rfl) (by simp) ?_
            refine (AllReadyH.cons (o := ⟨some 56, _, _, _, _, _⟩) rfl (fun K hK => ?_) AllReadyH.nil)
            rw [if_pos (by kernel_rfl)]
            go_simp
            refine (xor_two _ _ y t _ hk55).mono ?_
            rintro e v3 ⟨rfl, hq3⟩
            have ha15 := ha15.below hq3 ha15.lt
            have hk51 := hk51.below hq3
            have hk55 := hk55.below hq3
            have hqz3 := hq3.size
            refine hK.out _ _ (hS.trans (hq3.mono (by first | exact hS.size | (have := hS.size; simp at this ⊢; omega)))) (fun hS => ?_)
            clear hK K
            refine wpAnyH_ready (rs := [19]) (by kernel_rfl) (by simp) ?_
            refine (AllReadyH.cons (o := ⟨none, _, _, _, _, _⟩) rfl (fun K hK => ?_) AllReadyH.nil)
            rw [if_pos (by kernel_rfl)]
            refine wpo_store_arr (.tmp 15) (.tmp 56) rfl (v1.heap.size) (fun _ => 0) (byt (y ^^^ t)) rfl rfl ha15 ?_
            have ha15 := ha15.setRow (h := byt (y ^^^ t))
            refine hK.out _ _ (below_setRow hS (by have := hS.size; first | omega | (simp at *; omega) | (simp [setRow_size] at *; omega)) _) (fun hS => ?_)
            clear hK K
            simp only [Act.put]
            refine wpAnyH_done (by kernel_rfl) ?_ _
            have hO8 := hO7.below hS (Nat.le_refl _)
            have hB8 := hB7.trans (hS.mono hB7.size)
            have hz8 := hS.size
            go_wp2_with (((with_reducible show wpList _ _ _ (⟨some 59, Op.call _, _, _, _, _⟩ :: _) _ _); refine wp_appA rfl (.tmp 57) (.tmp 58) rfl w5.heap.size _ ol rfl hO8 (some ⟨v1.heap.size, 0, none⟩) 16 16 (listB (byt (y ^^^ t))) rfl (ha15.bytes (byt_lt _)) (by have := HOL.out; omega) (by have := hB8.size; omega) ?_))
            intro v2 w8 k1 k2 k3
            have hB9 := grown_below hB8 k2 hB8.size (fun k hk => (hO8.ge k hk).1)
            clear hO8 hB8 hS k2 k3 ha15
            go_wp2_with fail
            go_roundw
            case rel => exact ⟨k + 1, by go_num, by omega, by rw [HXL.out]; exact k1, hB9⟩
            case measure => simp [intOf]; omega
        · rw [if_pos (by kernel_rfl)]
          go_simp
          have hk51 := hk51.alloc (.cells #[.int .u8 0, .int .u8 0, .int .u8 0, .int .u8 0, .int .u8 0, .int .u8 0, .int .u8 0, .int .u8 0, .int .u8 0, .int .u8 0, .int .u8 0, .int .u8 0, .int .u8 0, .int .u8 0, .int .u8 0, .int .u8 0] 36)
          have ha15 : Arr ((w7.drew.alloc (.cells (bv (byt (x)) ++ bv (byt (t))) 36)).alloc (.cells #[.int .u8 0, .int .u8 0, .int .u8 0, .int .u8 0, .int .u8 0, .int .u8 0, .int .u8 0, .int .u8 0, .int .u8 0, .int .u8 0, .int .u8 0, .int .u8 0, .int .u8 0, .int .u8 0, .int .u8 0, .int .u8 0] 36)) (w7.heap.size + 1) (fun _ => 0) := Arr.zero _ _ (by first | rfl | simp | simp [World.setRow])
          refine hK.out _ _ (hS.alloc hS.size _) (fun hS => ?_)
          clear hK K
          refine wpAnyH_ready (rs := [13]) (by kernel_rfl) (by simp) ?_
          refine (AllReadyH.cons (o := ⟨some 52, _, _, _, _, _⟩) rfl (fun K hK => ?_) AllReadyH.nil)
          rw [if_pos (by kernel_rfl)]
          go_simp
          refine (xor_two _ _ x t _ hk51).mono ?_
          rintro e v1 ⟨rfl, hq1⟩
          have ha15 := ha15.below hq1 ha15.lt
          have hk51 := hk51.below hq1
          have hqz1 := hq1.size
          refine hK.out _ _ (hS.trans (hq1.mono (by first | exact hS.size | (have := hS.size; simp at this ⊢; omega)))) (fun hS => ?_)
          clear hK K
          refine wpAnyH_ready (rs := [14]) (by kernel_rfl) (by simp) ?_
          refine (AllReadyH.cons (o := ⟨some 53, _, _, _, _, _⟩) rfl (fun K hK => ?_) AllReadyH.nil)
          rw [if_pos (by kernel_rfl)]
          go_simp
          refine (HF.out _ (hC7.below hS)).mono ?_
          rintro e v2 ⟨rfl, hq2⟩
          have ha15 := ha15.below hq2 ha15.lt
          have hk51 := hk51.below hq2
          have hqz2 := hq2.size
          refine hK.out _ _ (hS.trans (hq2.mono (by first | exact hS.size | (have := hS.size; simp at this ⊢; omega)))) (fun hS => ?_)
          clear hK K
          refine wpAnyH_ready (rs := [16]) (by kernel_rfl) (by simp) ?_
          refine (AllReadyH.cons (o := ⟨some 55, _, _, _, _, _⟩) rfl (fun K hK => ?_) AllReadyH.nil)
          rw [if_pos (by kernel_rfl)]
          refine wp_two (.tmp 53) (.tmp 54) rfl (byt (y)) (byt (t)) rfl rfl ?_
          have ha15 := ha15.alloc (.cells (bv (byt (y)) ++ bv (byt (t))) 36)
          have hk51 := hk51.alloc (.cells (bv (byt (y)) ++ bv (byt (t))) 36)
          have hk55 : Blocks (v2.alloc (.cells (bv (byt (y)) ++ bv (byt (t))) 36)) (some ⟨v2.heap.size, 0, none⟩) 2 [y, t] := blocks_two _ _ _ _ (by first | rfl | simp | simp [World.setRow]) hyl htl
          refine hK.out _ _ (hS.alloc hS.size _) (fun hS => ?_)
          clear hK K
          simp only [Act.put, List.setIfInBounds_toArray, List.set_cons_zero, List.set_cons_succ]
          refine wpAnyH_ready (rs := [17]) (by kernel_rfl) (by simp) ?_
          refine (AllReadyH.cons (o := ⟨some 56, _, _, _, _, _⟩) rfl (fun K hK => ?_) AllReadyH.nil)
          rw [if_pos (by kernel_rfl)]
          go_simp
          refine (xor_two _ _ y t _ hk55).mono ?_
          rintro e v3 ⟨rfl, hq3⟩
          have ha15 := ha15.below hq3 ha15.lt
          have hk51 := hk51.below hq3
          have hk55 := hk55.below hq3
          have hqz3 := hq3.size
          refine hK.out _ _ (hS.trans (hq3.mono (by first | exact hS.size | (have := hS.size; simp at this ⊢; omega)))) (fun hS => ?_)
          clear hK K
          refine wpAnyH_ready (rs := [19]) (by kernel_rfl) (by simp) ?_
          refine (AllReadyH.cons (o := ⟨none, _, _, _, _, _⟩) rfl (fun K hK => ?_) AllReadyH.nil)
          rw [if_pos (by kernel_rfl)]
          refine wpo_store_arr (.tmp 15) (.tmp 56) rfl (w7.heap.size + 1) (fun _ => 0) (byt (y ^^^ t)) rfl rfl ha15 ?_
          have ha15 := ha15.setRow (h := byt (y ^^^ t))
          refine hK.out _ _ (below_setRow hS (by have := hS.size; first | omega | (simp at *; omega) | (simp [setRow_size] at *; omega)) _) (fun hS => ?_)
          clear hK K
          simp only [Act.put]
          refine wpAnyH_done (by kernel_rfl) ?_ _
          have hO8 := hO7.below hS (Nat.le_refl _)
          have hB8 := hB7.trans (hS.mono hB7.size)
          have hz8 := hS.size
          go_wp2_with (((with_reducible show wpList _ _ _ (⟨some 59, Op.call _, _, _, _, _⟩ :: _) _ _); refine wp_appA rfl (.tmp 57) (.tmp 58) rfl w5.heap.size _ ol rfl hO8 (some ⟨w7.heap.size + 1, 0, none⟩) 16 16 (listB (byt (y ^^^ t))) rfl (ha15.bytes (byt_lt _)) (by have := HOL.out; omega) (by have := hB8.size; omega) ?_))
          intro v2 w8 k1 k2 k3
          have hB9 := grown_below hB8 k2 hB8.size (fun k hk => (hO8.ge k hk).1)
          clear hO8 hB8 hS k2 k3 ha15
          go_wp2_with fail
          go_roundw
          case rel => exact ⟨k + 1, by go_num, by omega, by rw [HXL.out]; exact k1, hB9⟩
          case measure => simp [intOf]; omega
      · rw [if_pos (by kernel_rfl)]
        go_simp
        have ha15 : Arr (w7.drew.alloc (.cells #[.int .u8 0, .int .u8 0, .int .u8 0, .int .u8 0, .int .u8 0, .int .u8 0, .int .u8 0, .int .u8 0, .int .u8 0, .int .u8 0, .int .u8 0, .int .u8 0, .int .u8 0, .int .u8 0, .int .u8 0, .int .u8 0] 36)) (w7.heap.size) (fun _ => 0) := Arr.zero _ _ (by first | rfl | simp | simp [World.setRow])
        refine hK.out _ _ (hS.alloc hS.size _) (fun hS => ?_)
        clear hK K
        refine wpAnyH_ready (rs := [12]) (by kernel_rfl) (by simp) ?_
        refine (AllReadyH.cons (o := ⟨some 51, _, _, _, _, _⟩) rfl (fun K hK => ?_) AllReadyH.nil)
        rw [if_pos (by kernel_rfl)]
        refine wp_two (.tmp 49) (.tmp 50) rfl (byt (x)) (byt (t)) rfl rfl ?_
        have ha15 := ha15.alloc (.cells (bv (byt (x)) ++ bv (byt (t))) 36)
        have hk51 : Blocks ((w7.drew.alloc (.cells #[.int .u8 0, .int .u8 0, .int .u8 0, .int .u8 0, .int .u8 0, .int .u8 0, .int .u8 0, .int .u8 0, .int .u8 0, .int .u8 0, .int .u8 0, .int .u8 0, .int .u8 0, .int .u8 0, .int .u8 0, .int .u8 0] 36)).alloc (.cells (bv (byt (x)) ++ bv (byt (t))) 36)) (some ⟨w7.heap.size + 1, 0, none⟩) 2 [x, t] := blocks_two _ _ _ _ (by first | rfl | simp | simp [World.setRow]) hxl htl
        refine hK.out _ _ (hS.alloc hS.size _) (fun hS => ?_)
        clear hK K
        simp only [Act.put, List.setIfInBounds_toArray, List.set_cons_zero, List.set_cons_succ]
        refine wpAnyH_ready (rs := [13]) (by kernel_rfl) (by simp) ?_
        refine (AllReadyH.cons (o := ⟨some 52, _, _, _, _, _⟩) rfl (fun K hK => ?_) AllReadyH.nil)
        rw [if_pos (by kernel_rfl)]
        go_simp
        refine (xor_two _ _ x t _ hk51).mono ?_
        rintro e v1 ⟨rfl, hq1⟩
        have ha15 := ha15.below hq1 ha15.lt
        have hk51 := hk51.below hq1
        have hqz1 := hq1.size
        refine hK.out _ _ (hS.trans (hq1.mono (by first | exact hS.size | (have := hS.size; simp at this ⊢; omega)))) (fun hS => ?_)
        clear hK K
        refine wpAnyH_ready (rs := [14]) (by kernel_rfl) (by simp) ?_
        refine (AllReadyH.cons (o := ⟨some 53, _, _, _, _, _⟩) rfl (fun K hK => ?_) AllReadyH.nil)
        rw [if_pos (by kernel_rfl)]
        go_simp
        refine (HF.out _ (hC7.below hS)).mono ?_
        rintro e v2 ⟨rfl, hq2⟩
        have ha15 := ha15.below hq2 ha15.lt
        have hk51 := hk51.below hq2
        have hqz2 := hq2.size
        refine hK.out _ _ (hS.trans (hq2.mono (by first | exact hS.size | (have := hS.size; simp at this ⊢; omega)))) (fun hS => ?_)
        clear hK K
        refine wpAnyH_ready (rs := [16]) (by kernel_rfl) (by simp) ?_
        refine (AllReadyH.cons (o := ⟨some 55, _, _, _, _, _⟩) rfl (fun K hK => ?_) AllReadyH.nil)
        rw [if_pos (by kernel_rfl)]
        refine wp_two (.tmp 53) (.tmp 54) rfl (byt (y)) (byt (t)) rfl rfl ?_
        have ha15 := ha15.alloc (.cells (bv (byt (y)) ++ bv (byt (t))) 36)
        have hk51 := hk51.alloc (.cells (bv (byt (y)) ++ bv (byt (t))) 36)
        have hk55 : Blocks (v2.alloc (.cells (bv (byt (y)) ++ bv (byt (t))) 36)) (some ⟨v2.heap.size, 0, none⟩) 2 [y, t] := blocks_two _ _ _ _ (by first | rfl | simp | simp [World.setRow]) hyl htl
        refine hK.out _ _ (hS.alloc hS.size _) (fun hS => ?_)
        clear hK K
        simp only [Act.put, List.setIfInBounds_toArray, List.set_cons_zero, List.set_cons_succ]
        refine wpAnyH_ready (rs := [17]) (by kernel_rfl) (by simp) ?_
        refine (AllReadyH.cons (o := ⟨some 56, _, _, _, _, _⟩) rfl (fun K hK => ?_) AllReadyH.nil)
        rw [if_pos (by kernel_rfl)]
        go_simp
        refine (xor_two _ _ y t _ hk55).mono ?_
        rintro e v3 ⟨rfl, hq3⟩
        have ha15 := ha15.below hq3 ha15.lt
        have hk51 := hk51.below hq3
        have hk55 := hk55.below hq3
        have hqz3 := hq3.size
        refine hK.out _ _ (hS.trans (hq3.mono (by first | exact hS.size | (have := hS.size; simp at this ⊢; omega)))) (fun hS => ?_)
        clear hK K
        refine wpAnyH_ready (rs := [19]) (by kernel_rfl) (by simp) ?_
        refine (AllReadyH.cons (o := ⟨none, _, _, _, _, _⟩) rfl (fun K hK => ?_) AllReadyH.nil)
        rw [if_pos (by kernel_rfl)]
        refine wpo_store_arr (.tmp 15) (.tmp 56) rfl (w7.heap.size) (fun _ => 0) (byt (y ^^^ t)) rfl rfl ha15 ?_
        have ha15 := ha15.setRow (h := byt (y ^^^ t))
        refine hK.out _ _ (below_setRow hS (by have := hS.size; first | omega | (simp at *; omega) | (simp [setRow_size] at *; omega)) _) (fun hS => ?_)
        clear hK K
        simp only [Act.put]
        refine wpAnyH_done (by kernel_rfl) ?_ _
        have hO8 := hO7.below hS (Nat.le_refl _)
        have hB8 := hB7.trans (hS.mono hB7.size)
        have hz8 := hS.size
        go_wp2_with (((with_reducible show wpList _ _ _ (⟨some 59, Op.call _, _, _, _, _⟩ :: _) _ _); refine wp_appA rfl (.tmp 57) (.tmp 58) rfl w5.heap.size _ ol rfl hO8 (some ⟨w7.heap.size, 0, none⟩) 16 16 (listB (byt (y ^^^ t))) rfl (ha15.bytes (byt_lt _)) (by have := HOL.out; omega) (by have := hB8.size; omega) ?_))
        intro v2 w8 k1 k2 k3
        have hB9 := grown_below hB8 k2 hB8.size (fun k hk => (hO8.ge k hk).1)
        clear hO8 hB8 hS k2 k3 ha15
        go_wp2_with fail
        go_roundw
        case rel => exact ⟨k + 1, by go_num, by omega, by rw [HXL.out]; exact k1, hB9⟩
        case measure => simp [intOf]; omega
end Go.Proofs.Ytibfihjcjohadaa
