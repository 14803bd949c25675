/-
  The walk of the law on sectors, held against the reference: it returns true, whatever the input, and writes nothing that was there.
-/
import Derived.Test.YtibfihjcjohadaaXX
import Derived.Test.YtibfihjcjohadaaAw8
namespace Go.Proofs.Ytibfihjcjohadaa
open Go.RowKit Go.Op
theorem exec_strNe {o : Oper} {a : Act} (x y : Operand) (ho : o.op = .binOp .neq 9 x y 9) (s t : ByteArray) (b : Bool) (hb : decide (s = t) = b) (hx : a.eval x = .string s) (hy : a.eval y = .string t) (w : World) :
    (execOp a.eval o).run Try.prog w = .ok (.value (.bool (!b))) w := by
  subst hb
  have e : (s.toList == t.toList) = decide (s = t) := by
    rw [Lib.toList_data, Lib.toList_data, Bool.eq_iff_iff, beq_iff_eq, decide_eq_true_iff]
    refine ⟨fun h => ?_, fun h => by rw [h]⟩
    cases s; cases t
    exact congrArg _ (Array.toList_inj.mp h)
  unfold execOp
  simp only [ho, hx, hy]
  go_simp
theorem wpList_strNe {ops : Array Oper} {rest : List Oper} {o : Oper} {a : Act} {w : World} {Q : Exit → Act → World → Prop} (hgd : o.guard = none) (x y : Operand) (ho : o.op = .binOp .neq 9 x y 9)
    (s t : ByteArray) (b : Bool) (hb : decide (s = t) = b) (hx : a.eval x = .string s) (hy : a.eval y = .string t)
    (h : wpList Try.prog ops Q rest (a.put o.dst (.bool (!b))) w) : wpList Try.prog ops Q (o :: rest) a w := by
  refine wpList_plain hgd fun K hK => ?_
  unfold Oper.wp
  rw [exec_strNe x y ho s t b hb hx hy w]
  exact hK _ _ h
/-- a row of blocks of the call's own that is told, and no refusal -/
def RetBlk (l : List Nat) (n : Nat) (w : World) (e : Ending) (w' : World) : Prop := ∃ A c, e = .returned (.tuple #[.slice A n c, .int .i64 0]) ∧ OwnB w' w.heap.size (.slice A n c) l ∧ Below w.heap.size w w'
theorem TweaksQ.ret {k2 : List Nat} {u n : Nat} {w : World} {e : Ending} {w' : World} (h : TweaksQ k2 u n w e w') : RetBlk (twL k2 u n) n w e w' := by
  obtain ⟨v, h1, h2, h3⟩ := h
  obtain ⟨A, c, hv, _⟩ := h2.blocks
  rw [twL_len] at hv
  subst hv
  exact ⟨A, c, h1, h2, h3⟩
/-- a row of blocks of the call's own -/
def RowBlk (l : List Nat) (n : Nat) (w : World) (e : Ending) (w' : World) : Prop := ∃ A c, e = .returned (.slice A n c) ∧ OwnB w' w.heap.size (.slice A n c) l ∧ Below w.heap.size w w'
theorem TwQ.ret {k2 : List Nat} {u n : Nat} {w : World} {e : Ending} {w' : World} (h : TwQ k2 u n w e w') : RowBlk (twL k2 u n) n w e w' := by
  obtain ⟨v, h1, h2, h3⟩ := h
  obtain ⟨A, c, hv, _⟩ := h2.blocks
  rw [twL_len] at hv
  subst hv
  exact ⟨A, c, h1, h2, h3⟩
set_option maxRecDepth 100000 in
set_option maxHeartbeats 1000000 in
theorem xsec_outA (A : Option Addr) (n c : Nat) (u : Int) (B : Option Addr) (m c1 : Nat) (r : Int) (w : World) (h : 100 < n) :
    Calls Try.prog 27 #[.slice A n c, .int .i64 u, .slice B m c1, .int .i64 r] w fun e w' => e = .returned (.bool true) ∧ Below w.heap.size w w' := by
  go_enter Try.func27, Try.ntmps27
  go_wp2_with fail
  refine (awake8 _).mono ?_
  rintro e w' ⟨rfl, hbel⟩
  go_wp2_with fail
  go_ret
  exact ⟨rfl, hbel⟩
set_option maxRecDepth 100000 in
set_option maxHeartbeats 1000000 in
theorem xsec_outB (A : Option Addr) (n c : Nat) (u : Int) (B : Option Addr) (m c1 : Nat) (r : Int) (w : World) (q1 : n ≤ 100) (h : 500 < m) :
    Calls Try.prog 27 #[.slice A n c, .int .i64 u, .slice B m c1, .int .i64 r] w fun e w' => e = .returned (.bool true) ∧ Below w.heap.size w w' := by
  go_enter Try.func27, Try.ntmps27
  go_wp2_with fail
  refine (awake8 _).mono ?_
  rintro e w' ⟨rfl, hbel⟩
  go_wp2_with fail
  go_ret
  exact ⟨rfl, hbel⟩
set_option maxRecDepth 100000 in
set_option maxHeartbeats 1000000 in
theorem xsec_outC (A : Option Addr) (n c : Nat) (u : Int) (B : Option Addr) (m c1 : Nat) (r : Int) (w : World) (q1 : n ≤ 100) (q2 : m ≤ 500) (q3 : 40 < r) (q4 : decide (r ≤ 256) = true) :
    Calls Try.prog 27 #[.slice A n c, .int .i64 u, .slice B m c1, .int .i64 r] w fun e w' => e = .returned (.bool true) ∧ Below w.heap.size w w' := by
  go_enter Try.func27, Try.ntmps27
  go_wp2_with fail
  refine (awake8 _).mono ?_
  rintro e w' ⟨rfl, hbel⟩
  go_wp2_with fail
  go_ret
  exact ⟨rfl, hbel⟩
set_option maxRecDepth 100000 in
set_option maxHeartbeats 4000000 in
theorem xsec_YY (A : Option Addr) (n c : Nat) (l : List Nat) (u : Nat) (B : Option Addr) (m c1 : Nat) (d : List Nat) (r : Nat) (w : World) (hl : Bytes w A n l) (hc : n ≤ c) (hd : Bytes w B m d) (hc1 : m ≤ c1) (q1 : n ≤ 100) (q2 : m ≤ 500) (hM : MayX n (u : Int)) (hD : MayD n (u : Int) m) (q3 : r ≤ 40) :
    Calls Try.prog 27 #[.slice A n c, .int .i64 (u : Int), .slice B m c1, .int .i64 (r : Int)] w fun e w' => e = .returned (.bool true) ∧ Below w.heap.size w w' := by
  have HE : Box (∀ w, Bytes w A n l → Bytes w B m d → Calls Try.prog 69 #[.slice A n c, .int .i64 (u : Int), .slice B m c1] w (RetRow (xtL false (half1 l) (half2 l) u d (m / 16)) m w)) := ⟨fun w h1 h2 => (xenc_yes A n c l u B m c1 d w h1 hc h2 hc1 hD).mono fun e w' hq => hq.ret (m := m) (by have := hD.2.1; omega)⟩
  have HD : Box (∀ w, Bytes w A n l → Bytes w B m d → Calls Try.prog 70 #[.slice A n c, .int .i64 (u : Int), .slice B m c1] w (RetRow (xtL true (half1 l) (half2 l) u d (m / 16)) m w)) := ⟨fun w h1 h2 => (xdec_yes A n c l u B m c1 d w h1 hc h2 hc1 hD).mono fun e w' hq => hq.ret (m := m) (by have := hD.2.1; omega)⟩
  have HRE : Box (∀ X w, Bytes w A n l → Bytes w B m d → BoxM w X → Calls Try.prog 71 #[.pointer (some ⟨X, 0, none⟩), .slice A n c, .int .i64 (u : Int), .slice B m c1, .bool false] w (YesRowB (xtL false (half1 l) (half2 l) u d (m / 16)) m w)) := ⟨fun X w h1 h2 h3 => rxts_e X A n c l u B m c1 d w h1 hc h2 hc1 hD h3⟩
  have HRD : Box (∀ X w, Bytes w A n l → Bytes w B m d → BoxM w X → Calls Try.prog 71 #[.pointer (some ⟨X, 0, none⟩), .slice A n c, .int .i64 (u : Int), .slice B m c1, .bool true] w (YesRowB (xtL true (half1 l) (half2 l) u d (m / 16)) m w)) := ⟨fun X w h1 h2 h3 => rxts_d X A n c l u B m c1 d w h1 hc h2 hc1 hD h3⟩
  generalize xtL false (half1 l) (half2 l) u d (m / 16) = xe at HE HRE
  generalize xtL true (half1 l) (half2 l) u d (m / 16) = xd at HD HRD
  have HM : Box (∀ w, Calls Try.prog 73 #[.slice A n c, .int .i64 (u : Int)] w fun e w' => e = .returned (.bool true) ∧ w = w') := ⟨fun w => rmay_yes A n c (u : Int) w hM⟩
  have HT : Box (∀ w, Bytes w A n l → Calls Try.prog 72 #[.slice A n c, .int .i64 (u : Int), .int .i64 (r : Int)] w (RetBlk (twL (half2 l) u r) r w)) := ⟨fun w h => (tweaks_yes A n c l u r w h hc hM (by omega)).mono fun e w' hq => hq.ret⟩
  have HRT : Box (∀ X w, Bytes w A n l → BoxM w X → Calls Try.prog 75 #[.pointer (some ⟨X, 0, none⟩), .slice A n c, .int .i64 (u : Int), .int .i64 (r : Int)] w (RowBlk (twL (half2 l) u r) r w)) := ⟨fun X w h h3 => (rtw_any X A n c l u r w h hc hM (by omega) h3).mono fun e w' hq => hq.ret⟩
  generalize twL (half2 l) u r = tl at HT HRT
  clear hM hD
  go_enter Try.func27, Try.ntmps27
  go_wp2_with fail
  refine (newBox_any _).mono ?_
  rintro e w1 ⟨rfl, hX, hb1, _⟩
  obtain ⟨X, hXe⟩ : ∃ X, w.heap.size = X := ⟨_, rfl⟩
  have HXE := Box.mk hXe
  rw [hXe] at hX ⊢
  clear hXe
  go_wp2_with fail
  refine (HE.out _ (hl.below hb1) (hd.below hb1)).mono ?_
  rintro e w2 ⟨A1, d1, rfl, hO1, _, hb2⟩
  have hX := hX.below hb2 hX.lt
  have hw2 := hb1.trans (hb2.mono hb1.size)
  go_wp2_with fail
  refine (HRE.out X _ (hl.below hw2) (hd.below hw2) hX).mono ?_
  rintro e w3 ⟨A2, d2, rfl, hO2, _, hb3⟩
  have hX := hX.below hb3 hX.lt
  have hO1 := hO1.below hb3 (Nat.le_refl _)
  have hw3 := hw2.trans (hb3.mono hw2.size)
  go_wp2_with fail
  refine (HD.out _ (hl.below hw3) (hd.below hw3)).mono ?_
  rintro e w4 ⟨A3, d3, rfl, hO3, _, hb4⟩
  have hX := hX.below hb4 hX.lt
  have hO1 := hO1.below hb4 (Nat.le_refl _)
  have hO2 := hO2.below hb4 (Nat.le_refl _)
  have hw4 := hw3.trans (hb4.mono hw3.size)
  go_wp2_with fail
  refine (HRD.out X _ (hl.below hw4) (hd.below hw4) hX).mono ?_
  rintro e w5 ⟨A4, d4, rfl, hO4, _, hb5⟩
  have hX := hX.below hb5 hX.lt
  have hO1 := (hO1.below hb5 (Nat.le_refl _)).rd
  have hO2 := (hO2.below hb5 (Nat.le_refl _)).rd
  have hO3 := (hO3.below hb5 (Nat.le_refl _)).rd
  have hO4 := hO4.rd
  have hw5 := hw4.trans (hb5.mono hw4.size)
  have hl5 := hl.below hw5
  clear hb1 hb2 hb3 hb4 hb5 hw2 hw3 hw4 HE HD HRE hl hd HRD
  go_wp2_with (first
      | ((with_reducible show wpList _ _ _ (⟨some 92, Op.convert 29 9 (.tmp 91), _, _, _, _⟩ :: _) _ _); refine wpList_unguard (by kernel_rfl) ?_; refine wpList_str rfl (.tmp 91) rfl A1 m d1 xe rfl hO1 ?_)
      | ((with_reducible show wpList _ _ _ (⟨some 94, Op.convert 29 9 (.tmp 93), _, _, _, _⟩ :: _) _ _); refine wpList_unguard (by kernel_rfl) ?_; refine wpList_str rfl (.tmp 93) rfl A2 m d2 xe rfl hO2 ?_)
      | ((with_reducible show wpList _ _ _ (⟨some 99, Op.convert 29 9 (.tmp 98), _, _, _, _⟩ :: _) _ _); refine wpList_unguard (by kernel_rfl) ?_; refine wpList_str rfl (.tmp 98) rfl A3 m d3 xd rfl hO3 ?_)
      | ((with_reducible show wpList _ _ _ (⟨some 101, Op.convert 29 9 (.tmp 100), _, _, _, _⟩ :: _) _ _); refine wpList_unguard (by kernel_rfl) ?_; refine wpList_str rfl (.tmp 100) rfl A4 m d4 xd rfl hO4 ?_)
      | ((with_reducible show wpList _ _ _ (⟨some 95, Op.binOp BinOp.neq 9 (.tmp 92) (.tmp 94) 9, _, _, _, _⟩ :: _) _ _); refine wpList_unguard (by kernel_rfl) ?_; refine wpList_strNe rfl (.tmp 92) (.tmp 94) rfl (strL xe) (strL xe) true (decide_eq_true rfl) rfl rfl ?_)
      | ((with_reducible show wpList _ _ _ (⟨some 102, Op.binOp BinOp.neq 9 (.tmp 99) (.tmp 101) 9, _, _, _, _⟩ :: _) _ _); refine wpList_unguard (by kernel_rfl) ?_; refine wpList_strNe rfl (.tmp 99) (.tmp 101) rfl (strL xd) (strL xd) true (decide_eq_true rfl) rfl rfl ?_))
  refine (HT.out _ hl5).mono ?_
  rintro e w6 ⟨A6, d6, rfl, hO6, hb6⟩
  have hX := hX.below hb6 hX.lt
  have hw6 := hw5.trans (hb6.mono hw5.size)
  have hl6 := hl5.below hb6
  go_wp2_with fail
  refine (HM.out _).mono ?_
  rintro e w' ⟨rfl, rfl⟩
  go_wp2_with fail
  refine (HRT.out X _ hl6 hX).mono ?_
  rintro e w7 ⟨A7, d7, rfl, hO7, hb7⟩
  have hO6 := (hO6.below hb7 (Nat.le_refl _)).rd
  have hO7 := hO7.rd
  have hw7 := hw6.trans (hb7.mono hw6.size)
  go_wp2_with fail
  refine (alikeB A6 A7 r d6 d7 tl _ hO6 hO7 (by omega)).mono ?_
  rintro e w8 ⟨rfl, hb8⟩
  have hw8 := hw7.trans (hb8.mono hw7.size)
  clear hb6 hb7 hb8 hw5 hw6 hw7 HT HM HRT
  go_wp2_with fail
  refine (awake8 _).mono ?_
  rintro e w' ⟨rfl, hbel⟩
  go_wp2_with fail
  go_ret
  exact ⟨rfl, hw8.trans (hbel.mono hw8.size)⟩
set_option maxRecDepth 100000 in
set_option maxHeartbeats 4000000 in
theorem xsec_YN (A : Option Addr) (n c : Nat) (l : List Nat) (u : Nat) (B : Option Addr) (m c1 : Nat) (d : List Nat) (r : Int) (w : World) (hl : Bytes w A n l) (hc : n ≤ c) (hd : Bytes w B m d) (hc1 : m ≤ c1) (q1 : n ≤ 100) (q2 : m ≤ 500) (hM : MayX n (u : Int)) (hD : MayD n (u : Int) m) (q3 : r < 0) :
    Calls Try.prog 27 #[.slice A n c, .int .i64 (u : Int), .slice B m c1, .int .i64 r] w fun e w' => e = .returned (.bool true) ∧ Below w.heap.size w w' := by
  have HE : Box (∀ w, Bytes w A n l → Bytes w B m d → Calls Try.prog 69 #[.slice A n c, .int .i64 (u : Int), .slice B m c1] w (RetRow (xtL false (half1 l) (half2 l) u d (m / 16)) m w)) := ⟨fun w h1 h2 => (xenc_yes A n c l u B m c1 d w h1 hc h2 hc1 hD).mono fun e w' hq => hq.ret (m := m) (by have := hD.2.1; omega)⟩
  have HD : Box (∀ w, Bytes w A n l → Bytes w B m d → Calls Try.prog 70 #[.slice A n c, .int .i64 (u : Int), .slice B m c1] w (RetRow (xtL true (half1 l) (half2 l) u d (m / 16)) m w)) := ⟨fun w h1 h2 => (xdec_yes A n c l u B m c1 d w h1 hc h2 hc1 hD).mono fun e w' hq => hq.ret (m := m) (by have := hD.2.1; omega)⟩
  have HRE : Box (∀ X w, Bytes w A n l → Bytes w B m d → BoxM w X → Calls Try.prog 71 #[.pointer (some ⟨X, 0, none⟩), .slice A n c, .int .i64 (u : Int), .slice B m c1, .bool false] w (YesRowB (xtL false (half1 l) (half2 l) u d (m / 16)) m w)) := ⟨fun X w h1 h2 h3 => rxts_e X A n c l u B m c1 d w h1 hc h2 hc1 hD h3⟩
  have HRD : Box (∀ X w, Bytes w A n l → Bytes w B m d → BoxM w X → Calls Try.prog 71 #[.pointer (some ⟨X, 0, none⟩), .slice A n c, .int .i64 (u : Int), .slice B m c1, .bool true] w (YesRowB (xtL true (half1 l) (half2 l) u d (m / 16)) m w)) := ⟨fun X w h1 h2 h3 => rxts_d X A n c l u B m c1 d w h1 hc h2 hc1 hD h3⟩
  generalize xtL false (half1 l) (half2 l) u d (m / 16) = xe at HE HRE
  generalize xtL true (half1 l) (half2 l) u d (m / 16) = xd at HD HRD
  have HM : Box (∀ w, Calls Try.prog 73 #[.slice A n c, .int .i64 (u : Int)] w fun e w' => e = .returned (.bool true) ∧ w = w') := ⟨fun w => rmay_yes A n c (u : Int) w hM⟩
  have HT : Box (∀ w, Bytes w A n l → Calls Try.prog 72 #[.slice A n c, .int .i64 (u : Int), .int .i64 r] w (NoRow w)) := ⟨fun w h => tweaks_noB A n c l u r w h hc hM q3⟩
  clear hM hD
  go_enter Try.func27, Try.ntmps27
  go_wp2_with fail
  refine (newBox_any _).mono ?_
  rintro e w1 ⟨rfl, hX, hb1, _⟩
  obtain ⟨X, hXe⟩ : ∃ X, w.heap.size = X := ⟨_, rfl⟩
  have HXE := Box.mk hXe
  rw [hXe] at hX ⊢
  clear hXe
  go_wp2_with fail
  refine (HE.out _ (hl.below hb1) (hd.below hb1)).mono ?_
  rintro e w2 ⟨A1, d1, rfl, hO1, _, hb2⟩
  have hX := hX.below hb2 hX.lt
  have hw2 := hb1.trans (hb2.mono hb1.size)
  go_wp2_with fail
  refine (HRE.out X _ (hl.below hw2) (hd.below hw2) hX).mono ?_
  rintro e w3 ⟨A2, d2, rfl, hO2, _, hb3⟩
  have hX := hX.below hb3 hX.lt
  have hO1 := hO1.below hb3 (Nat.le_refl _)
  have hw3 := hw2.trans (hb3.mono hw2.size)
  go_wp2_with fail
  refine (HD.out _ (hl.below hw3) (hd.below hw3)).mono ?_
  rintro e w4 ⟨A3, d3, rfl, hO3, _, hb4⟩
  have hX := hX.below hb4 hX.lt
  have hO1 := hO1.below hb4 (Nat.le_refl _)
  have hO2 := hO2.below hb4 (Nat.le_refl _)
  have hw4 := hw3.trans (hb4.mono hw3.size)
  go_wp2_with fail
  refine (HRD.out X _ (hl.below hw4) (hd.below hw4) hX).mono ?_
  rintro e w5 ⟨A4, d4, rfl, hO4, _, hb5⟩
  have hX := hX.below hb5 hX.lt
  have hO1 := (hO1.below hb5 (Nat.le_refl _)).rd
  have hO2 := (hO2.below hb5 (Nat.le_refl _)).rd
  have hO3 := (hO3.below hb5 (Nat.le_refl _)).rd
  have hO4 := hO4.rd
  have hw5 := hw4.trans (hb5.mono hw4.size)
  have hl5 := hl.below hw5
  clear hb1 hb2 hb3 hb4 hb5 hw2 hw3 hw4 HE HD HRE hl hd HRD
  go_wp2_with (first
      | ((with_reducible show wpList _ _ _ (⟨some 92, Op.convert 29 9 (.tmp 91), _, _, _, _⟩ :: _) _ _); refine wpList_unguard (by kernel_rfl) ?_; refine wpList_str rfl (.tmp 91) rfl A1 m d1 xe rfl hO1 ?_)
      | ((with_reducible show wpList _ _ _ (⟨some 94, Op.convert 29 9 (.tmp 93), _, _, _, _⟩ :: _) _ _); refine wpList_unguard (by kernel_rfl) ?_; refine wpList_str rfl (.tmp 93) rfl A2 m d2 xe rfl hO2 ?_)
      | ((with_reducible show wpList _ _ _ (⟨some 99, Op.convert 29 9 (.tmp 98), _, _, _, _⟩ :: _) _ _); refine wpList_unguard (by kernel_rfl) ?_; refine wpList_str rfl (.tmp 98) rfl A3 m d3 xd rfl hO3 ?_)
      | ((with_reducible show wpList _ _ _ (⟨some 101, Op.convert 29 9 (.tmp 100), _, _, _, _⟩ :: _) _ _); refine wpList_unguard (by kernel_rfl) ?_; refine wpList_str rfl (.tmp 100) rfl A4 m d4 xd rfl hO4 ?_)
      | ((with_reducible show wpList _ _ _ (⟨some 95, Op.binOp BinOp.neq 9 (.tmp 92) (.tmp 94) 9, _, _, _, _⟩ :: _) _ _); refine wpList_unguard (by kernel_rfl) ?_; refine wpList_strNe rfl (.tmp 92) (.tmp 94) rfl (strL xe) (strL xe) true (decide_eq_true rfl) rfl rfl ?_)
      | ((with_reducible show wpList _ _ _ (⟨some 102, Op.binOp BinOp.neq 9 (.tmp 99) (.tmp 101) 9, _, _, _, _⟩ :: _) _ _); refine wpList_unguard (by kernel_rfl) ?_; refine wpList_strNe rfl (.tmp 99) (.tmp 101) rfl (strL xd) (strL xd) true (decide_eq_true rfl) rfl rfl ?_))
  refine (HT.out _ hl5).mono ?_
  rintro e w6 ⟨rfl, hb6⟩
  have hw8 := hw5.trans (hb6.mono hw5.size)
  go_wp2_with fail
  refine (HM.out _).mono ?_
  rintro e w' ⟨rfl, rfl⟩
  clear hb6 hw5 HT HM
  go_wp2_with fail
  refine (awake8 _).mono ?_
  rintro e w' ⟨rfl, hbel⟩
  go_wp2_with fail
  go_ret
  exact ⟨rfl, hw8.trans (hbel.mono hw8.size)⟩
set_option maxRecDepth 100000 in
set_option maxHeartbeats 4000000 in
theorem xsec_YG (A : Option Addr) (n c : Nat) (l : List Nat) (u : Nat) (B : Option Addr) (m c1 : Nat) (d : List Nat) (r : Int) (w : World) (hl : Bytes w A n l) (hc : n ≤ c) (hd : Bytes w B m d) (hc1 : m ≤ c1) (q1 : n ≤ 100) (q2 : m ≤ 500) (hM : MayX n (u : Int)) (hD : MayD n (u : Int) m) (q3 : 256 < r) (q4 : decide (r ≤ 256) = false) :
    Calls Try.prog 27 #[.slice A n c, .int .i64 (u : Int), .slice B m c1, .int .i64 r] w fun e w' => e = .returned (.bool true) ∧ Below w.heap.size w w' := by
  have HE : Box (∀ w, Bytes w A n l → Bytes w B m d → Calls Try.prog 69 #[.slice A n c, .int .i64 (u : Int), .slice B m c1] w (RetRow (xtL false (half1 l) (half2 l) u d (m / 16)) m w)) := ⟨fun w h1 h2 => (xenc_yes A n c l u B m c1 d w h1 hc h2 hc1 hD).mono fun e w' hq => hq.ret (m := m) (by have := hD.2.1; omega)⟩
  have HD : Box (∀ w, Bytes w A n l → Bytes w B m d → Calls Try.prog 70 #[.slice A n c, .int .i64 (u : Int), .slice B m c1] w (RetRow (xtL true (half1 l) (half2 l) u d (m / 16)) m w)) := ⟨fun w h1 h2 => (xdec_yes A n c l u B m c1 d w h1 hc h2 hc1 hD).mono fun e w' hq => hq.ret (m := m) (by have := hD.2.1; omega)⟩
  have HRE : Box (∀ X w, Bytes w A n l → Bytes w B m d → BoxM w X → Calls Try.prog 71 #[.pointer (some ⟨X, 0, none⟩), .slice A n c, .int .i64 (u : Int), .slice B m c1, .bool false] w (YesRowB (xtL false (half1 l) (half2 l) u d (m / 16)) m w)) := ⟨fun X w h1 h2 h3 => rxts_e X A n c l u B m c1 d w h1 hc h2 hc1 hD h3⟩
  have HRD : Box (∀ X w, Bytes w A n l → Bytes w B m d → BoxM w X → Calls Try.prog 71 #[.pointer (some ⟨X, 0, none⟩), .slice A n c, .int .i64 (u : Int), .slice B m c1, .bool true] w (YesRowB (xtL true (half1 l) (half2 l) u d (m / 16)) m w)) := ⟨fun X w h1 h2 h3 => rxts_d X A n c l u B m c1 d w h1 hc h2 hc1 hD h3⟩
  generalize xtL false (half1 l) (half2 l) u d (m / 16) = xe at HE HRE
  generalize xtL true (half1 l) (half2 l) u d (m / 16) = xd at HD HRD
  have HM : Box (∀ w, Calls Try.prog 73 #[.slice A n c, .int .i64 (u : Int)] w fun e w' => e = .returned (.bool true) ∧ w = w') := ⟨fun w => rmay_yes A n c (u : Int) w hM⟩
  have HT : Box (∀ w, Bytes w A n l → Calls Try.prog 72 #[.slice A n c, .int .i64 (u : Int), .int .i64 r] w (NoRow w)) := ⟨fun w h => tweaks_noC A n c l u r w h hc hM (by omega) q3⟩
  clear hM hD
  go_enter Try.func27, Try.ntmps27
  go_wp2_with fail
  refine (newBox_any _).mono ?_
  rintro e w1 ⟨rfl, hX, hb1, _⟩
  obtain ⟨X, hXe⟩ : ∃ X, w.heap.size = X := ⟨_, rfl⟩
  have HXE := Box.mk hXe
  rw [hXe] at hX ⊢
  clear hXe
  go_wp2_with fail
  refine (HE.out _ (hl.below hb1) (hd.below hb1)).mono ?_
  rintro e w2 ⟨A1, d1, rfl, hO1, _, hb2⟩
  have hX := hX.below hb2 hX.lt
  have hw2 := hb1.trans (hb2.mono hb1.size)
  go_wp2_with fail
  refine (HRE.out X _ (hl.below hw2) (hd.below hw2) hX).mono ?_
  rintro e w3 ⟨A2, d2, rfl, hO2, _, hb3⟩
  have hX := hX.below hb3 hX.lt
  have hO1 := hO1.below hb3 (Nat.le_refl _)
  have hw3 := hw2.trans (hb3.mono hw2.size)
  go_wp2_with fail
  refine (HD.out _ (hl.below hw3) (hd.below hw3)).mono ?_
  rintro e w4 ⟨A3, d3, rfl, hO3, _, hb4⟩
  have hX := hX.below hb4 hX.lt
  have hO1 := hO1.below hb4 (Nat.le_refl _)
  have hO2 := hO2.below hb4 (Nat.le_refl _)
  have hw4 := hw3.trans (hb4.mono hw3.size)
  go_wp2_with fail
  refine (HRD.out X _ (hl.below hw4) (hd.below hw4) hX).mono ?_
  rintro e w5 ⟨A4, d4, rfl, hO4, _, hb5⟩
  have hX := hX.below hb5 hX.lt
  have hO1 := (hO1.below hb5 (Nat.le_refl _)).rd
  have hO2 := (hO2.below hb5 (Nat.le_refl _)).rd
  have hO3 := (hO3.below hb5 (Nat.le_refl _)).rd
  have hO4 := hO4.rd
  have hw5 := hw4.trans (hb5.mono hw4.size)
  have hl5 := hl.below hw5
  clear hb1 hb2 hb3 hb4 hb5 hw2 hw3 hw4 HE HD HRE hl hd HRD
  go_wp2_with (first
      | ((with_reducible show wpList _ _ _ (⟨some 92, Op.convert 29 9 (.tmp 91), _, _, _, _⟩ :: _) _ _); refine wpList_unguard (by kernel_rfl) ?_; refine wpList_str rfl (.tmp 91) rfl A1 m d1 xe rfl hO1 ?_)
      | ((with_reducible show wpList _ _ _ (⟨some 94, Op.convert 29 9 (.tmp 93), _, _, _, _⟩ :: _) _ _); refine wpList_unguard (by kernel_rfl) ?_; refine wpList_str rfl (.tmp 93) rfl A2 m d2 xe rfl hO2 ?_)
      | ((with_reducible show wpList _ _ _ (⟨some 99, Op.convert 29 9 (.tmp 98), _, _, _, _⟩ :: _) _ _); refine wpList_unguard (by kernel_rfl) ?_; refine wpList_str rfl (.tmp 98) rfl A3 m d3 xd rfl hO3 ?_)
      | ((with_reducible show wpList _ _ _ (⟨some 101, Op.convert 29 9 (.tmp 100), _, _, _, _⟩ :: _) _ _); refine wpList_unguard (by kernel_rfl) ?_; refine wpList_str rfl (.tmp 100) rfl A4 m d4 xd rfl hO4 ?_)
      | ((with_reducible show wpList _ _ _ (⟨some 95, Op.binOp BinOp.neq 9 (.tmp 92) (.tmp 94) 9, _, _, _, _⟩ :: _) _ _); refine wpList_unguard (by kernel_rfl) ?_; refine wpList_strNe rfl (.tmp 92) (.tmp 94) rfl (strL xe) (strL xe) true (decide_eq_true rfl) rfl rfl ?_)
      | ((with_reducible show wpList _ _ _ (⟨some 102, Op.binOp BinOp.neq 9 (.tmp 99) (.tmp 101) 9, _, _, _, _⟩ :: _) _ _); refine wpList_unguard (by kernel_rfl) ?_; refine wpList_strNe rfl (.tmp 99) (.tmp 101) rfl (strL xd) (strL xd) true (decide_eq_true rfl) rfl rfl ?_))
  refine (HT.out _ hl5).mono ?_
  rintro e w6 ⟨rfl, hb6⟩
  have hw8 := hw5.trans (hb6.mono hw5.size)
  go_wp2_with fail
  refine (HM.out _).mono ?_
  rintro e w' ⟨rfl, rfl⟩
  clear hb6 hw5 HT HM
  go_wp2_with fail
  refine (awake8 _).mono ?_
  rintro e w' ⟨rfl, hbel⟩
  go_wp2_with fail
  go_ret
  exact ⟨rfl, hw8.trans (hbel.mono hw8.size)⟩
set_option maxRecDepth 100000 in
set_option maxHeartbeats 4000000 in
theorem xsec_NY (A : Option Addr) (n c : Nat) (l : List Nat) (u : Nat) (B : Option Addr) (m c1 : Nat) (d : List Nat) (r : Nat) (w : World) (hl : Bytes w A n l) (hc : n ≤ c) (_hd : Bytes w B m d) (_hc1 : m ≤ c1) (q1 : n ≤ 100) (q2 : m ≤ 500) (hM : MayX n (u : Int)) (hD : ¬ MayD n (u : Int) m) (q3 : r ≤ 40) :
    Calls Try.prog 27 #[.slice A n c, .int .i64 (u : Int), .slice B m c1, .int .i64 (r : Int)] w fun e w' => e = .returned (.bool true) ∧ Below w.heap.size w w' := by
  have HE : Box (∀ w, Bytes w A n l → Calls Try.prog 69 #[.slice A n c, .int .i64 (u : Int), .slice B m c1] w (NoRow w)) := ⟨fun w h1 => xenc_no A n c l (u : Int) B m c1 w h1 hc hD⟩
  have HD : Box (∀ w, Bytes w A n l → Calls Try.prog 70 #[.slice A n c, .int .i64 (u : Int), .slice B m c1] w (NoRow w)) := ⟨fun w h1 => xdec_no A n c l (u : Int) B m c1 w h1 hc hD⟩
  have HRE : Box (∀ X b w, Calls Try.prog 71 #[.pointer (some ⟨X, 0, none⟩), .slice A n c, .int .i64 (u : Int), .slice B m c1, .bool b] w (NoRowB w)) := ⟨fun X b w => rxts_no X A n c (u : Int) B m c1 b w hD⟩
  have HM : Box (∀ w, Calls Try.prog 73 #[.slice A n c, .int .i64 (u : Int)] w fun e w' => e = .returned (.bool true) ∧ w = w') := ⟨fun w => rmay_yes A n c (u : Int) w hM⟩
  have HT : Box (∀ w, Bytes w A n l → Calls Try.prog 72 #[.slice A n c, .int .i64 (u : Int), .int .i64 (r : Int)] w (RetBlk (twL (half2 l) u r) r w)) := ⟨fun w h => (tweaks_yes A n c l u r w h hc hM (by omega)).mono fun e w' hq => hq.ret⟩
  have HRT : Box (∀ X w, Bytes w A n l → BoxM w X → Calls Try.prog 75 #[.pointer (some ⟨X, 0, none⟩), .slice A n c, .int .i64 (u : Int), .int .i64 (r : Int)] w (RowBlk (twL (half2 l) u r) r w)) := ⟨fun X w h h3 => (rtw_any X A n c l u r w h hc hM (by omega) h3).mono fun e w' hq => hq.ret⟩
  generalize twL (half2 l) u r = tl at HT HRT
  clear hM hD
  go_enter Try.func27, Try.ntmps27
  go_wp2_with fail
  refine (newBox_any _).mono ?_
  rintro e w1 ⟨rfl, hX, hb1, _⟩
  obtain ⟨X, hXe⟩ : ∃ X, w.heap.size = X := ⟨_, rfl⟩
  have HXE := Box.mk hXe
  rw [hXe] at hX ⊢
  clear hXe
  go_wp2_with fail
  refine (HE.out _ (hl.below hb1)).mono ?_
  rintro e w2 ⟨rfl, hb2⟩
  have hX := hX.below hb2 hX.lt
  have hw2 := hb1.trans (hb2.mono hb1.size)
  go_wp2_with fail
  refine (HRE.out X false _).mono ?_
  rintro e w3 ⟨rfl, hb3⟩
  have hX := hX.below hb3 hX.lt
  have hw3 := hw2.trans (hb3.mono hw2.size)
  go_wp2_with fail
  refine (HD.out _ (hl.below hw3)).mono ?_
  rintro e w4 ⟨rfl, hb4⟩
  have hX := hX.below hb4 hX.lt
  have hw4 := hw3.trans (hb4.mono hw3.size)
  go_wp2_with fail
  refine (HRE.out X true _).mono ?_
  rintro e w5 ⟨rfl, hb5⟩
  have hX := hX.below hb5 hX.lt
  have hw5 := hw4.trans (hb5.mono hw4.size)
  have hO1 := bytes_nil w5
  have hl5 := hl.below hw5
  clear hb1 hb2 hb3 hb4 hb5 hw2 hw3 hw4 HE HD HRE hl
  go_wp2_with (first
      | ((with_reducible show wpList _ _ _ (⟨some 92, Op.convert 29 9 (.tmp 91), _, _, _, _⟩ :: _) _ _); refine wpList_unguard (by kernel_rfl) ?_; refine wpList_str rfl (.tmp 91) rfl none 0 0 [] rfl hO1 ?_)
      | ((with_reducible show wpList _ _ _ (⟨some 94, Op.convert 29 9 (.tmp 93), _, _, _, _⟩ :: _) _ _); refine wpList_unguard (by kernel_rfl) ?_; refine wpList_str rfl (.tmp 93) rfl none 0 0 [] rfl hO1 ?_)
      | ((with_reducible show wpList _ _ _ (⟨some 99, Op.convert 29 9 (.tmp 98), _, _, _, _⟩ :: _) _ _); refine wpList_unguard (by kernel_rfl) ?_; refine wpList_str rfl (.tmp 98) rfl none 0 0 [] rfl hO1 ?_)
      | ((with_reducible show wpList _ _ _ (⟨some 101, Op.convert 29 9 (.tmp 100), _, _, _, _⟩ :: _) _ _); refine wpList_unguard (by kernel_rfl) ?_; refine wpList_str rfl (.tmp 100) rfl none 0 0 [] rfl hO1 ?_)
      | ((with_reducible show wpList _ _ _ (⟨some 95, Op.binOp BinOp.neq 9 (.tmp 92) (.tmp 94) 9, _, _, _, _⟩ :: _) _ _); refine wpList_unguard (by kernel_rfl) ?_; refine wpList_strNe rfl (.tmp 92) (.tmp 94) rfl (strL []) (strL []) true (decide_eq_true rfl) rfl rfl ?_)
      | ((with_reducible show wpList _ _ _ (⟨some 102, Op.binOp BinOp.neq 9 (.tmp 99) (.tmp 101) 9, _, _, _, _⟩ :: _) _ _); refine wpList_unguard (by kernel_rfl) ?_; refine wpList_strNe rfl (.tmp 99) (.tmp 101) rfl (strL []) (strL []) true (decide_eq_true rfl) rfl rfl ?_))
  refine (HT.out _ hl5).mono ?_
  rintro e w6 ⟨A6, d6, rfl, hO6, hb6⟩
  have hX := hX.below hb6 hX.lt
  have hw6 := hw5.trans (hb6.mono hw5.size)
  have hl6 := hl5.below hb6
  go_wp2_with fail
  refine (HM.out _).mono ?_
  rintro e w' ⟨rfl, rfl⟩
  go_wp2_with fail
  refine (HRT.out X _ hl6 hX).mono ?_
  rintro e w7 ⟨A7, d7, rfl, hO7, hb7⟩
  have hO6 := (hO6.below hb7 (Nat.le_refl _)).rd
  have hO7 := hO7.rd
  have hw7 := hw6.trans (hb7.mono hw6.size)
  go_wp2_with fail
  refine (alikeB A6 A7 r d6 d7 tl _ hO6 hO7 (by omega)).mono ?_
  rintro e w8 ⟨rfl, hb8⟩
  have hw8 := hw7.trans (hb8.mono hw7.size)
  clear hb6 hb7 hb8 hw5 hw6 hw7 HT HM HRT
  go_wp2_with fail
  refine (awake8 _).mono ?_
  rintro e w' ⟨rfl, hbel⟩
  go_wp2_with fail
  go_ret
  exact ⟨rfl, hw8.trans (hbel.mono hw8.size)⟩
set_option maxRecDepth 100000 in
set_option maxHeartbeats 4000000 in
theorem xsec_NN (A : Option Addr) (n c : Nat) (l : List Nat) (u : Nat) (B : Option Addr) (m c1 : Nat) (d : List Nat) (r : Int) (w : World) (hl : Bytes w A n l) (hc : n ≤ c) (_hd : Bytes w B m d) (_hc1 : m ≤ c1) (q1 : n ≤ 100) (q2 : m ≤ 500) (hM : MayX n (u : Int)) (hD : ¬ MayD n (u : Int) m) (q3 : r < 0) :
    Calls Try.prog 27 #[.slice A n c, .int .i64 (u : Int), .slice B m c1, .int .i64 r] w fun e w' => e = .returned (.bool true) ∧ Below w.heap.size w w' := by
  have HE : Box (∀ w, Bytes w A n l → Calls Try.prog 69 #[.slice A n c, .int .i64 (u : Int), .slice B m c1] w (NoRow w)) := ⟨fun w h1 => xenc_no A n c l (u : Int) B m c1 w h1 hc hD⟩
  have HD : Box (∀ w, Bytes w A n l → Calls Try.prog 70 #[.slice A n c, .int .i64 (u : Int), .slice B m c1] w (NoRow w)) := ⟨fun w h1 => xdec_no A n c l (u : Int) B m c1 w h1 hc hD⟩
  have HRE : Box (∀ X b w, Calls Try.prog 71 #[.pointer (some ⟨X, 0, none⟩), .slice A n c, .int .i64 (u : Int), .slice B m c1, .bool b] w (NoRowB w)) := ⟨fun X b w => rxts_no X A n c (u : Int) B m c1 b w hD⟩
  have HM : Box (∀ w, Calls Try.prog 73 #[.slice A n c, .int .i64 (u : Int)] w fun e w' => e = .returned (.bool true) ∧ w = w') := ⟨fun w => rmay_yes A n c (u : Int) w hM⟩
  have HT : Box (∀ w, Bytes w A n l → Calls Try.prog 72 #[.slice A n c, .int .i64 (u : Int), .int .i64 r] w (NoRow w)) := ⟨fun w h => tweaks_noB A n c l u r w h hc hM q3⟩
  clear hM hD
  go_enter Try.func27, Try.ntmps27
  go_wp2_with fail
  refine (newBox_any _).mono ?_
  rintro e w1 ⟨rfl, hX, hb1, _⟩
  obtain ⟨X, hXe⟩ : ∃ X, w.heap.size = X := ⟨_, rfl⟩
  have HXE := Box.mk hXe
  rw [hXe] at hX ⊢
  clear hXe
  go_wp2_with fail
  refine (HE.out _ (hl.below hb1)).mono ?_
  rintro e w2 ⟨rfl, hb2⟩
  have hX := hX.below hb2 hX.lt
  have hw2 := hb1.trans (hb2.mono hb1.size)
  go_wp2_with fail
  refine (HRE.out X false _).mono ?_
  rintro e w3 ⟨rfl, hb3⟩
  have hX := hX.below hb3 hX.lt
  have hw3 := hw2.trans (hb3.mono hw2.size)
  go_wp2_with fail
  refine (HD.out _ (hl.below hw3)).mono ?_
  rintro e w4 ⟨rfl, hb4⟩
  have hX := hX.below hb4 hX.lt
  have hw4 := hw3.trans (hb4.mono hw3.size)
  go_wp2_with fail
  refine (HRE.out X true _).mono ?_
  rintro e w5 ⟨rfl, hb5⟩
  have hX := hX.below hb5 hX.lt
  have hw5 := hw4.trans (hb5.mono hw4.size)
  have hO1 := bytes_nil w5
  have hl5 := hl.below hw5
  clear hb1 hb2 hb3 hb4 hb5 hw2 hw3 hw4 HE HD HRE hl
  go_wp2_with (first
      | ((with_reducible show wpList _ _ _ (⟨some 92, Op.convert 29 9 (.tmp 91), _, _, _, _⟩ :: _) _ _); refine wpList_unguard (by kernel_rfl) ?_; refine wpList_str rfl (.tmp 91) rfl none 0 0 [] rfl hO1 ?_)
      | ((with_reducible show wpList _ _ _ (⟨some 94, Op.convert 29 9 (.tmp 93), _, _, _, _⟩ :: _) _ _); refine wpList_unguard (by kernel_rfl) ?_; refine wpList_str rfl (.tmp 93) rfl none 0 0 [] rfl hO1 ?_)
      | ((with_reducible show wpList _ _ _ (⟨some 99, Op.convert 29 9 (.tmp 98), _, _, _, _⟩ :: _) _ _); refine wpList_unguard (by kernel_rfl) ?_; refine wpList_str rfl (.tmp 98) rfl none 0 0 [] rfl hO1 ?_)
      | ((with_reducible show wpList _ _ _ (⟨some 101, Op.convert 29 9 (.tmp 100), _, _, _, _⟩ :: _) _ _); refine wpList_unguard (by kernel_rfl) ?_; refine wpList_str rfl (.tmp 100) rfl none 0 0 [] rfl hO1 ?_)
      | ((with_reducible show wpList _ _ _ (⟨some 95, Op.binOp BinOp.neq 9 (.tmp 92) (.tmp 94) 9, _, _, _, _⟩ :: _) _ _); refine wpList_unguard (by kernel_rfl) ?_; refine wpList_strNe rfl (.tmp 92) (.tmp 94) rfl (strL []) (strL []) true (decide_eq_true rfl) rfl rfl ?_)
      | ((with_reducible show wpList _ _ _ (⟨some 102, Op.binOp BinOp.neq 9 (.tmp 99) (.tmp 101) 9, _, _, _, _⟩ :: _) _ _); refine wpList_unguard (by kernel_rfl) ?_; refine wpList_strNe rfl (.tmp 99) (.tmp 101) rfl (strL []) (strL []) true (decide_eq_true rfl) rfl rfl ?_))
  refine (HT.out _ hl5).mono ?_
  rintro e w6 ⟨rfl, hb6⟩
  have hw8 := hw5.trans (hb6.mono hw5.size)
  go_wp2_with fail
  refine (HM.out _).mono ?_
  rintro e w' ⟨rfl, rfl⟩
  clear hb6 hw5 HT HM
  go_wp2_with fail
  refine (awake8 _).mono ?_
  rintro e w' ⟨rfl, hbel⟩
  go_wp2_with fail
  go_ret
  exact ⟨rfl, hw8.trans (hbel.mono hw8.size)⟩
set_option maxRecDepth 100000 in
set_option maxHeartbeats 4000000 in
theorem xsec_NG (A : Option Addr) (n c : Nat) (l : List Nat) (u : Nat) (B : Option Addr) (m c1 : Nat) (d : List Nat) (r : Int) (w : World) (hl : Bytes w A n l) (hc : n ≤ c) (_hd : Bytes w B m d) (_hc1 : m ≤ c1) (q1 : n ≤ 100) (q2 : m ≤ 500) (hM : MayX n (u : Int)) (hD : ¬ MayD n (u : Int) m) (q3 : 256 < r) (q4 : decide (r ≤ 256) = false) :
    Calls Try.prog 27 #[.slice A n c, .int .i64 (u : Int), .slice B m c1, .int .i64 r] w fun e w' => e = .returned (.bool true) ∧ Below w.heap.size w w' := by
  have HE : Box (∀ w, Bytes w A n l → Calls Try.prog 69 #[.slice A n c, .int .i64 (u : Int), .slice B m c1] w (NoRow w)) := ⟨fun w h1 => xenc_no A n c l (u : Int) B m c1 w h1 hc hD⟩
  have HD : Box (∀ w, Bytes w A n l → Calls Try.prog 70 #[.slice A n c, .int .i64 (u : Int), .slice B m c1] w (NoRow w)) := ⟨fun w h1 => xdec_no A n c l (u : Int) B m c1 w h1 hc hD⟩
  have HRE : Box (∀ X b w, Calls Try.prog 71 #[.pointer (some ⟨X, 0, none⟩), .slice A n c, .int .i64 (u : Int), .slice B m c1, .bool b] w (NoRowB w)) := ⟨fun X b w => rxts_no X A n c (u : Int) B m c1 b w hD⟩
  have HM : Box (∀ w, Calls Try.prog 73 #[.slice A n c, .int .i64 (u : Int)] w fun e w' => e = .returned (.bool true) ∧ w = w') := ⟨fun w => rmay_yes A n c (u : Int) w hM⟩
  have HT : Box (∀ w, Bytes w A n l → Calls Try.prog 72 #[.slice A n c, .int .i64 (u : Int), .int .i64 r] w (NoRow w)) := ⟨fun w h => tweaks_noC A n c l u r w h hc hM (by omega) q3⟩
  clear hM hD
  go_enter Try.func27, Try.ntmps27
  go_wp2_with fail
  refine (newBox_any _).mono ?_
  rintro e w1 ⟨rfl, hX, hb1, _⟩
  obtain ⟨X, hXe⟩ : ∃ X, w.heap.size = X := ⟨_, rfl⟩
  have HXE := Box.mk hXe
  rw [hXe] at hX ⊢
  clear hXe
  go_wp2_with fail
  refine (HE.out _ (hl.below hb1)).mono ?_
  rintro e w2 ⟨rfl, hb2⟩
  have hX := hX.below hb2 hX.lt
  have hw2 := hb1.trans (hb2.mono hb1.size)
  go_wp2_with fail
  refine (HRE.out X false _).mono ?_
  rintro e w3 ⟨rfl, hb3⟩
  have hX := hX.below hb3 hX.lt
  have hw3 := hw2.trans (hb3.mono hw2.size)
  go_wp2_with fail
  refine (HD.out _ (hl.below hw3)).mono ?_
  rintro e w4 ⟨rfl, hb4⟩
  have hX := hX.below hb4 hX.lt
  have hw4 := hw3.trans (hb4.mono hw3.size)
  go_wp2_with fail
  refine (HRE.out X true _).mono ?_
  rintro e w5 ⟨rfl, hb5⟩
  have hX := hX.below hb5 hX.lt
  have hw5 := hw4.trans (hb5.mono hw4.size)
  have hO1 := bytes_nil w5
  have hl5 := hl.below hw5
  clear hb1 hb2 hb3 hb4 hb5 hw2 hw3 hw4 HE HD HRE hl
  go_wp2_with (first
      | ((with_reducible show wpList _ _ _ (⟨some 92, Op.convert 29 9 (.tmp 91), _, _, _, _⟩ :: _) _ _); refine wpList_unguard (by kernel_rfl) ?_; refine wpList_str rfl (.tmp 91) rfl none 0 0 [] rfl hO1 ?_)
      | ((with_reducible show wpList _ _ _ (⟨some 94, Op.convert 29 9 (.tmp 93), _, _, _, _⟩ :: _) _ _); refine wpList_unguard (by kernel_rfl) ?_; refine wpList_str rfl (.tmp 93) rfl none 0 0 [] rfl hO1 ?_)
      | ((with_reducible show wpList _ _ _ (⟨some 99, Op.convert 29 9 (.tmp 98), _, _, _, _⟩ :: _) _ _); refine wpList_unguard (by kernel_rfl) ?_; refine wpList_str rfl (.tmp 98) rfl none 0 0 [] rfl hO1 ?_)
      | ((with_reducible show wpList _ _ _ (⟨some 101, Op.convert 29 9 (.tmp 100), _, _, _, _⟩ :: _) _ _); refine wpList_unguard (by kernel_rfl) ?_; refine wpList_str rfl (.tmp 100) rfl none 0 0 [] rfl hO1 ?_)
      | ((with_reducible show wpList _ _ _ (⟨some 95, Op.binOp BinOp.neq 9 (.tmp 92) (.tmp 94) 9, _, _, _, _⟩ :: _) _ _); refine wpList_unguard (by kernel_rfl) ?_; refine wpList_strNe rfl (.tmp 92) (.tmp 94) rfl (strL []) (strL []) true (decide_eq_true rfl) rfl rfl ?_)
      | ((with_reducible show wpList _ _ _ (⟨some 102, Op.binOp BinOp.neq 9 (.tmp 99) (.tmp 101) 9, _, _, _, _⟩ :: _) _ _); refine wpList_unguard (by kernel_rfl) ?_; refine wpList_strNe rfl (.tmp 99) (.tmp 101) rfl (strL []) (strL []) true (decide_eq_true rfl) rfl rfl ?_))
  refine (HT.out _ hl5).mono ?_
  rintro e w6 ⟨rfl, hb6⟩
  have hw8 := hw5.trans (hb6.mono hw5.size)
  go_wp2_with fail
  refine (HM.out _).mono ?_
  rintro e w' ⟨rfl, rfl⟩
  clear hb6 hw5 HT HM
  go_wp2_with fail
  refine (awake8 _).mono ?_
  rintro e w' ⟨rfl, hbel⟩
  go_wp2_with fail
  go_ret
  exact ⟨rfl, hw8.trans (hbel.mono hw8.size)⟩
set_option maxRecDepth 100000 in
set_option maxHeartbeats 4000000 in
theorem xsec_XL (A : Option Addr) (n c : Nat) (l : List Nat) (u : Int) (B : Option Addr) (m c1 : Nat) (d : List Nat) (r : Int) (w : World) (hl : Bytes w A n l) (hc : n ≤ c) (_hd : Bytes w B m d) (_hc1 : m ≤ c1) (q1 : n ≤ 100) (q2 : m ≤ 500) (hM : ¬ MayX n u) (hD : ¬ MayD n u m) (q3 : r ≤ 40) :
    Calls Try.prog 27 #[.slice A n c, .int .i64 u, .slice B m c1, .int .i64 r] w fun e w' => e = .returned (.bool true) ∧ Below w.heap.size w w' := by
  have HE : Box (∀ w, Bytes w A n l → Calls Try.prog 69 #[.slice A n c, .int .i64 u, .slice B m c1] w (NoRow w)) := ⟨fun w h1 => xenc_no A n c l u B m c1 w h1 hc hD⟩
  have HD : Box (∀ w, Bytes w A n l → Calls Try.prog 70 #[.slice A n c, .int .i64 u, .slice B m c1] w (NoRow w)) := ⟨fun w h1 => xdec_no A n c l u B m c1 w h1 hc hD⟩
  have HRE : Box (∀ X b w, Calls Try.prog 71 #[.pointer (some ⟨X, 0, none⟩), .slice A n c, .int .i64 u, .slice B m c1, .bool b] w (NoRowB w)) := ⟨fun X b w => rxts_no X A n c u B m c1 b w hD⟩
  have HM : Box (∀ w, Calls Try.prog 73 #[.slice A n c, .int .i64 u] w fun e w' => e = .returned (.bool false) ∧ w = w') := ⟨fun w => rmay_no A n c u w hM⟩
  have HT : Box (∀ w, Calls Try.prog 72 #[.slice A n c, .int .i64 u, .int .i64 r] w (NoRow w)) := ⟨fun w => tweaks_noA A n c u r w hM⟩
  clear hM hD
  go_enter Try.func27, Try.ntmps27
  go_wp2_with fail
  refine (newBox_any _).mono ?_
  rintro e w1 ⟨rfl, hX, hb1, _⟩
  obtain ⟨X, hXe⟩ : ∃ X, w.heap.size = X := ⟨_, rfl⟩
  have HXE := Box.mk hXe
  rw [hXe] at hX ⊢
  clear hXe
  go_wp2_with fail
  refine (HE.out _ (hl.below hb1)).mono ?_
  rintro e w2 ⟨rfl, hb2⟩
  have hX := hX.below hb2 hX.lt
  have hw2 := hb1.trans (hb2.mono hb1.size)
  go_wp2_with fail
  refine (HRE.out X false _).mono ?_
  rintro e w3 ⟨rfl, hb3⟩
  have hX := hX.below hb3 hX.lt
  have hw3 := hw2.trans (hb3.mono hw2.size)
  go_wp2_with fail
  refine (HD.out _ (hl.below hw3)).mono ?_
  rintro e w4 ⟨rfl, hb4⟩
  have hX := hX.below hb4 hX.lt
  have hw4 := hw3.trans (hb4.mono hw3.size)
  go_wp2_with fail
  refine (HRE.out X true _).mono ?_
  rintro e w5 ⟨rfl, hb5⟩
  have hX := hX.below hb5 hX.lt
  have hw5 := hw4.trans (hb5.mono hw4.size)
  have hO1 := bytes_nil w5
  have hl5 := hl.below hw5
  clear hb1 hb2 hb3 hb4 hb5 hw2 hw3 hw4 HE HD HRE hl
  go_wp2_with (first
      | ((with_reducible show wpList _ _ _ (⟨some 92, Op.convert 29 9 (.tmp 91), _, _, _, _⟩ :: _) _ _); refine wpList_unguard (by kernel_rfl) ?_; refine wpList_str rfl (.tmp 91) rfl none 0 0 [] rfl hO1 ?_)
      | ((with_reducible show wpList _ _ _ (⟨some 94, Op.convert 29 9 (.tmp 93), _, _, _, _⟩ :: _) _ _); refine wpList_unguard (by kernel_rfl) ?_; refine wpList_str rfl (.tmp 93) rfl none 0 0 [] rfl hO1 ?_)
      | ((with_reducible show wpList _ _ _ (⟨some 99, Op.convert 29 9 (.tmp 98), _, _, _, _⟩ :: _) _ _); refine wpList_unguard (by kernel_rfl) ?_; refine wpList_str rfl (.tmp 98) rfl none 0 0 [] rfl hO1 ?_)
      | ((with_reducible show wpList _ _ _ (⟨some 101, Op.convert 29 9 (.tmp 100), _, _, _, _⟩ :: _) _ _); refine wpList_unguard (by kernel_rfl) ?_; refine wpList_str rfl (.tmp 100) rfl none 0 0 [] rfl hO1 ?_)
      | ((with_reducible show wpList _ _ _ (⟨some 95, Op.binOp BinOp.neq 9 (.tmp 92) (.tmp 94) 9, _, _, _, _⟩ :: _) _ _); refine wpList_unguard (by kernel_rfl) ?_; refine wpList_strNe rfl (.tmp 92) (.tmp 94) rfl (strL []) (strL []) true (decide_eq_true rfl) rfl rfl ?_)
      | ((with_reducible show wpList _ _ _ (⟨some 102, Op.binOp BinOp.neq 9 (.tmp 99) (.tmp 101) 9, _, _, _, _⟩ :: _) _ _); refine wpList_unguard (by kernel_rfl) ?_; refine wpList_strNe rfl (.tmp 99) (.tmp 101) rfl (strL []) (strL []) true (decide_eq_true rfl) rfl rfl ?_))
  refine (HT.out _).mono ?_
  rintro e w6 ⟨rfl, hb6⟩
  have hw8 := hw5.trans (hb6.mono hw5.size)
  go_wp2_with fail
  refine (HM.out _).mono ?_
  rintro e w' ⟨rfl, rfl⟩
  clear hb6 hw5 HT HM
  go_wp2_with fail
  refine (awake8 _).mono ?_
  rintro e w' ⟨rfl, hbel⟩
  go_wp2_with fail
  go_ret
  exact ⟨rfl, hw8.trans (hbel.mono hw8.size)⟩
set_option maxRecDepth 100000 in
set_option maxHeartbeats 4000000 in
theorem xsec_XG (A : Option Addr) (n c : Nat) (l : List Nat) (u : Int) (B : Option Addr) (m c1 : Nat) (d : List Nat) (r : Int) (w : World) (hl : Bytes w A n l) (hc : n ≤ c) (_hd : Bytes w B m d) (_hc1 : m ≤ c1) (q1 : n ≤ 100) (q2 : m ≤ 500) (hM : ¬ MayX n u) (hD : ¬ MayD n u m) (q3 : 256 < r) (q4 : decide (r ≤ 256) = false) :
    Calls Try.prog 27 #[.slice A n c, .int .i64 u, .slice B m c1, .int .i64 r] w fun e w' => e = .returned (.bool true) ∧ Below w.heap.size w w' := by
  have HE : Box (∀ w, Bytes w A n l → Calls Try.prog 69 #[.slice A n c, .int .i64 u, .slice B m c1] w (NoRow w)) := ⟨fun w h1 => xenc_no A n c l u B m c1 w h1 hc hD⟩
  have HD : Box (∀ w, Bytes w A n l → Calls Try.prog 70 #[.slice A n c, .int .i64 u, .slice B m c1] w (NoRow w)) := ⟨fun w h1 => xdec_no A n c l u B m c1 w h1 hc hD⟩
  have HRE : Box (∀ X b w, Calls Try.prog 71 #[.pointer (some ⟨X, 0, none⟩), .slice A n c, .int .i64 u, .slice B m c1, .bool b] w (NoRowB w)) := ⟨fun X b w => rxts_no X A n c u B m c1 b w hD⟩
  have HM : Box (∀ w, Calls Try.prog 73 #[.slice A n c, .int .i64 u] w fun e w' => e = .returned (.bool false) ∧ w = w') := ⟨fun w => rmay_no A n c u w hM⟩
  have HT : Box (∀ w, Calls Try.prog 72 #[.slice A n c, .int .i64 u, .int .i64 r] w (NoRow w)) := ⟨fun w => tweaks_noA A n c u r w hM⟩
  clear hM hD
  go_enter Try.func27, Try.ntmps27
  go_wp2_with fail
  refine (newBox_any _).mono ?_
  rintro e w1 ⟨rfl, hX, hb1, _⟩
  obtain ⟨X, hXe⟩ : ∃ X, w.heap.size = X := ⟨_, rfl⟩
  have HXE := Box.mk hXe
  rw [hXe] at hX ⊢
  clear hXe
  go_wp2_with fail
  refine (HE.out _ (hl.below hb1)).mono ?_
  rintro e w2 ⟨rfl, hb2⟩
  have hX := hX.below hb2 hX.lt
  have hw2 := hb1.trans (hb2.mono hb1.size)
  go_wp2_with fail
  refine (HRE.out X false _).mono ?_
  rintro e w3 ⟨rfl, hb3⟩
  have hX := hX.below hb3 hX.lt
  have hw3 := hw2.trans (hb3.mono hw2.size)
  go_wp2_with fail
  refine (HD.out _ (hl.below hw3)).mono ?_
  rintro e w4 ⟨rfl, hb4⟩
  have hX := hX.below hb4 hX.lt
  have hw4 := hw3.trans (hb4.mono hw3.size)
  go_wp2_with fail
  refine (HRE.out X true _).mono ?_
  rintro e w5 ⟨rfl, hb5⟩
  have hX := hX.below hb5 hX.lt
  have hw5 := hw4.trans (hb5.mono hw4.size)
  have hO1 := bytes_nil w5
  have hl5 := hl.below hw5
  clear hb1 hb2 hb3 hb4 hb5 hw2 hw3 hw4 HE HD HRE hl
  go_wp2_with (first
      | ((with_reducible show wpList _ _ _ (⟨some 92, Op.convert 29 9 (.tmp 91), _, _, _, _⟩ :: _) _ _); refine wpList_unguard (by kernel_rfl) ?_; refine wpList_str rfl (.tmp 91) rfl none 0 0 [] rfl hO1 ?_)
      | ((with_reducible show wpList _ _ _ (⟨some 94, Op.convert 29 9 (.tmp 93), _, _, _, _⟩ :: _) _ _); refine wpList_unguard (by kernel_rfl) ?_; refine wpList_str rfl (.tmp 93) rfl none 0 0 [] rfl hO1 ?_)
      | ((with_reducible show wpList _ _ _ (⟨some 99, Op.convert 29 9 (.tmp 98), _, _, _, _⟩ :: _) _ _); refine wpList_unguard (by kernel_rfl) ?_; refine wpList_str rfl (.tmp 98) rfl none 0 0 [] rfl hO1 ?_)
      | ((with_reducible show wpList _ _ _ (⟨some 101, Op.convert 29 9 (.tmp 100), _, _, _, _⟩ :: _) _ _); refine wpList_unguard (by kernel_rfl) ?_; refine wpList_str rfl (.tmp 100) rfl none 0 0 [] rfl hO1 ?_)
      | ((with_reducible show wpList _ _ _ (⟨some 95, Op.binOp BinOp.neq 9 (.tmp 92) (.tmp 94) 9, _, _, _, _⟩ :: _) _ _); refine wpList_unguard (by kernel_rfl) ?_; refine wpList_strNe rfl (.tmp 92) (.tmp 94) rfl (strL []) (strL []) true (decide_eq_true rfl) rfl rfl ?_)
      | ((with_reducible show wpList _ _ _ (⟨some 102, Op.binOp BinOp.neq 9 (.tmp 99) (.tmp 101) 9, _, _, _, _⟩ :: _) _ _); refine wpList_unguard (by kernel_rfl) ?_; refine wpList_strNe rfl (.tmp 99) (.tmp 101) rfl (strL []) (strL []) true (decide_eq_true rfl) rfl rfl ?_))
  refine (HT.out _).mono ?_
  rintro e w6 ⟨rfl, hb6⟩
  have hw8 := hw5.trans (hb6.mono hw5.size)
  go_wp2_with fail
  refine (HM.out _).mono ?_
  rintro e w' ⟨rfl, rfl⟩
  clear hb6 hw5 HT HM
  go_wp2_with fail
  refine (awake8 _).mono ?_
  rintro e w' ⟨rfl, hbel⟩
  go_wp2_with fail
  go_ret
  exact ⟨rfl, hw8.trans (hbel.mono hw8.size)⟩
theorem xtsSectors_walk {w : World} (A : Option Addr) (n c : Nat) (l : List Nat) (hc : n ≤ c) (hl : Bytes w A n l) (u : Int) (_u0 : -9223372036854775808 ≤ u) (_u1 : u ≤ 9223372036854775807) (B : Option Addr) (m c1 : Nat) (d : List Nat) (hc1 : m ≤ c1) (hd : Bytes w B m d) (r : Int) (_r0 : -9223372036854775808 ≤ r) (_r1 : r ≤ 9223372036854775807) :
    Calls Try.prog 27 #[.slice A n c, .int .i64 u, .slice B m c1, .int .i64 r] w fun e w' => e = .returned (.bool true) ∧ Below w.heap.size w w' := by
  by_cases q1 : 100 < n
  · exact xsec_outA A n c u B m c1 r w q1
  by_cases q2 : 500 < m
  · exact xsec_outB A n c u B m c1 r w (by omega) q2
  by_cases q3 : 40 < r ∧ r ≤ 256
  · exact xsec_outC A n c u B m c1 r w (by omega) (by omega) q3.1 (decide_eq_true q3.2)
  by_cases hM : MayX n u
  · obtain ⟨v, rfl⟩ := Int.eq_ofNat_of_zero_le (show 0 ≤ u from hM.2.1)
    by_cases hD : MayD n ((v : Nat) : Int) m
    · by_cases r1 : r < 0
      · exact xsec_YN A n c l v B m c1 d r w hl hc hd hc1 (by omega) (by omega) hM hD r1
      · by_cases r2 : 256 < r
        · exact xsec_YG A n c l v B m c1 d r w hl hc hd hc1 (by omega) (by omega) hM hD r2 (decide_eq_false (by omega))
        · obtain ⟨k, rfl⟩ := Int.eq_ofNat_of_zero_le (show 0 ≤ r by omega)
          exact xsec_YY A n c l v B m c1 d k w hl hc hd hc1 (by omega) (by omega) hM hD (by omega)
    · by_cases r1 : r < 0
      · exact xsec_NN A n c l v B m c1 d r w hl hc hd hc1 (by omega) (by omega) hM hD r1
      · by_cases r2 : 256 < r
        · exact xsec_NG A n c l v B m c1 d r w hl hc hd hc1 (by omega) (by omega) hM hD r2 (decide_eq_false (by omega))
        · obtain ⟨k, rfl⟩ := Int.eq_ofNat_of_zero_le (show 0 ≤ r by omega)
          exact xsec_NY A n c l v B m c1 d k w hl hc hd hc1 (by omega) (by omega) hM hD (by omega)
  · have hD : ¬ MayD n u m := fun h => hM h.1
    by_cases r2 : 256 < r
    · exact xsec_XG A n c l u B m c1 d r w hl hc hd hc1 (by omega) (by omega) hM hD r2 (decide_eq_false (by omega))
    · exact xsec_XL A n c l u B m c1 d r w hl hc hd hc1 (by omega) (by omega) hM hD (by omega)
end Go.Proofs.Ytibfihjcjohadaa
