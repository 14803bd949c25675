/-
  The walks of xts.through where nothing goes through, of Encrypt and Decrypt. Conditions: what may be, or is refused; numbers in their bounds.
-/
import Derived.Test.YtibfihjcjohadaaXH
namespace Go.Proofs.Ytibfihjcjohadaa
open Go.RowKit Go.Op
open Aes (words words_len)
open Twk (byt)
/-- may a key, a unit and so many bytes be? -/
def MayD (n : Nat) (u : Int) (m : Nat) : Prop := MayX n u ∧ m % 16 = 0 ∧ m ≤ 4096
theorem may_no (A : Option Addr) (n c : Nat) (l : List Nat) (u : Int) (B : Option Addr) (m c1 : Nat) (w : World) (hl : Bytes w A n l) (hc : n ≤ c) (h : ¬ MayD n u m) : Calls Try.prog 94 #[.slice A n c, .int .i64 u, .slice B m c1] w (BoolQ false w) := by
  unfold MayD at h
  by_cases h1 : MayX n u
  · by_cases h2 : m % 16 = 0
    · exact may_noC A n c l u B m c1 w hl hc h1 (by simp; omega) (decide_eq_false (fun h5 => h ⟨h1, h2, by omega⟩))
    · exact may_noB A n c l u B m c1 w hl hc h1 (by simp; omega)
  · exact may_noA A n c u B m c1 w h1
set_option maxRecDepth 100000 in
set_option maxHeartbeats 2000000 in
theorem thre_no (A : Option Addr) (n c : Nat) (l : List Nat) (u : Int) (B : Option Addr) (m c1 : Nat) (w : World) (hl : Bytes w A n l) (hc : n ≤ c) (h : ¬ MayD n u m) :
    Calls Try.prog 88 #[.slice A n c, .int .i64 u, .slice B m c1, .func (Fn.func 89) #[] #[]] w (NoRow w) := by
  have HM := Box.mk (fun w hl => may_no A n c l u B m c1 w hl hc h)
  clear h
  go_enter Try.func88, Try.ntmps88
  go_wp2_with fail
  refine (HM.out _ hl).mono ?_
  rintro e w1 ⟨rfl, hb1⟩
  go_wp2_with fail
  go_ret2
  exact ⟨rfl, hb1⟩
set_option maxRecDepth 100000 in
set_option maxHeartbeats 2000000 in
theorem thre_zero (A : Option Addr) (n c : Nat) (l : List Nat) (u : Nat) (B : Option Addr) (c1 : Nat) (d : List Nat) (w : World) (hl : Bytes w A n l) (hc : n ≤ c) (h : MayX n (u : Int)) :
    Calls Try.prog 88 #[.slice A n c, .int .i64 (u : Int), .slice B 0 c1, .func (Fn.func 89) #[] #[]] w (ThrQ false (half1 l) (half2 l) u d 0 w) := by
  have hk2 : MayK (half2 l).length := half2_may (by rw [hl.1]; exact h.1)
  have hu : u < 9223372036854775808 := by have := h.2.2; omega
  have HM := Box.mk (fun w hl => may_yes A n c l (u : Int) B 0 c1 w hl hc h rfl rfl)
  have HO := Box.mk (fun w hl => open_yes A n c l (u : Int) w hl hc h)
  have HT : Box (∀ (C D : Nat) (w : World), Ciph w D (words (half2 l)) → Calls Try.prog 92 #[.agg #[.pointer (some ⟨C, 0, none⟩), .pointer (some ⟨D, 0, none⟩)], .int .i64 (u : Int), .int .i64 0] w (TwQ (half2 l) u 0 w)) := ⟨fun C D w hD => tweaks_walk C D _ u 0 hk2 hu (by decide) w hD⟩
  clear h hk2 hu
  go_enter Try.func88, Try.ntmps88
  go_wp2_with fail
  refine (HM.out _ hl).mono ?_
  rintro e w1 ⟨rfl, hb1⟩
  go_wp2_with fail
  refine (HO.out _ (hl.below hb1)).mono ?_
  rintro e w2 ⟨C, D, rfl, hC, hD, hb2⟩
  have hw2 := hb1.trans (hb2.mono hb1.size)
  have hP : PairV ((w2.alloc (.cells #[.pointer none, .pointer none] 106)).setRow w2.heap.size #[.pointer (some ⟨C, 0, none⟩), .pointer (some ⟨D, 0, none⟩)]) w2.heap.size (.pointer (some ⟨C, 0, none⟩)) (.pointer (some ⟨D, 0, none⟩)) := (PairV.new w2 (.pointer none) (.pointer none) _ rfl).setRow
  have hbW : Below w2.heap.size w2 ((w2.alloc (.cells #[.pointer none, .pointer none] 106)).setRow w2.heap.size #[.pointer (some ⟨C, 0, none⟩), .pointer (some ⟨D, 0, none⟩)]) := below_setRow ((Below.refl _ _).alloc (Nat.le_refl _) _) (Nat.le_refl _) _
  go_wp2_with (first
    | ((with_reducible show wpList _ _ _ (⟨_, Op.store 106 (.tmp 10) (.tmp 25), _, _, _, _⟩ :: _) _ _); refine wp_store106 rfl (.tmp 10) (.tmp 25) rfl w2.heap.size (.pointer none) (.pointer none) _ _ rfl rfl (PairV.new _ _ _ _ rfl) rfl rfl ?_)
    | ((with_reducible show wpList _ _ _ (⟨some 27, Op.load 106 (.tmp 10), _, _, _, _⟩ :: _) _ _); refine wp_load106 rfl (.tmp 10) rfl w2.heap.size _ _ rfl hP ?_))
  revert hbW hP
  generalize (w2.alloc (.cells #[.pointer none, .pointer none] 106)).setRow w2.heap.size #[.pointer (some ⟨C, 0, none⟩), .pointer (some ⟨D, 0, none⟩)] = w3
  intro hP hbW
  refine (HT.out C D _ (hD.below hbW)).mono ?_
  rintro e w5 ⟨vt, rfl, hTs, hb5⟩
  have hw5 := (hw2.trans (hbW.mono hw2.size)).trans (hb5.mono (by have := hw2.size; have := hbW.size; omega))
  obtain ⟨At, ct, hvt, hTb⟩ := hTs.blocks
  subst hvt
  rw [twL_len] at hTb ⊢
  clear hC hD hb1 hb2 hw2 hP hbW hb5 HM HO HT hTs hl hTb
  go_wp2_with fail
  go_loopw [12, 13, 14, 15, 34] (fun o _a _b _c i wr => i = .int .i64 0 ∧ o = .slice none 0 0 ∧ wr = w5) (fun _ _ _ _ _ _ => 0)
  case atStart => exact ⟨rfl, rfl, rfl⟩
  case round =>
    obtain ⟨rfl, rfl, rfl⟩ := hrel
    go_wp2_with fail
    go_ret2
    exact ⟨_, rfl, own_nil _ _, hw5⟩
theorem thre_any (A : Option Addr) (n c : Nat) (l : List Nat) (u : Nat) (B : Option Addr) (m c1 : Nat) (d : List Nat) (w : World) (hl : Bytes w A n l) (hc : n ≤ c) (hd : Bytes w B m d) (hc1 : m ≤ c1) (h : MayD n (u : Int) m) :
    Calls Try.prog 88 #[.slice A n c, .int .i64 (u : Int), .slice B m c1, .func (Fn.func 89) #[] #[]] w (ThrQ false (half1 l) (half2 l) u d (m / 16) w) := by
  rcases Nat.eq_zero_or_pos m with rfl | hm
  · exact thre_zero A n c l u B c1 d w hl hc h.1
  · obtain ⟨ad, hB, _⟩ := hd.2.2.2 hm
    subst hB
    exact thre_yes A n c l u ad m c1 d w hl hc h.1 hd hc1 h.2.1 h.2.2 hm
set_option maxRecDepth 100000 in
set_option maxHeartbeats 1000000 in
theorem xenc_yes (A : Option Addr) (n c : Nat) (l : List Nat) (u : Nat) (B : Option Addr) (m c1 : Nat) (d : List Nat) (w : World) (hl : Bytes w A n l) (hc : n ≤ c) (hd : Bytes w B m d) (hc1 : m ≤ c1) (h : MayD n (u : Int) m) :
    Calls Try.prog 69 #[.slice A n c, .int .i64 (u : Int), .slice B m c1] w (ThrQ false (half1 l) (half2 l) u d (m / 16) w) := by
  have HT := Box.mk (thre_any A n c l u B m c1 d w hl hc hd hc1 h)
  clear h
  generalize m / 16 = nb at HT ⊢
  generalize half1 l = k1 at HT ⊢
  generalize half2 l = k2 at HT ⊢
  go_enter Try.func69, Try.ntmps69
  go_wp2_with fail
  refine HT.out.mono ?_
  rintro e w1 ⟨v, rfl, hO, hb⟩
  go_wp2_with fail
  go_ret2
  exact ⟨v, rfl, hO, hb⟩
set_option maxRecDepth 100000 in
set_option maxHeartbeats 1000000 in
theorem xenc_no (A : Option Addr) (n c : Nat) (l : List Nat) (u : Int) (B : Option Addr) (m c1 : Nat) (w : World) (hl : Bytes w A n l) (hc : n ≤ c) (h : ¬ MayD n u m) :
    Calls Try.prog 69 #[.slice A n c, .int .i64 u, .slice B m c1] w (NoRow w) := by
  have HT := Box.mk (thre_no A n c l u B m c1 w hl hc h)
  clear h
  go_enter Try.func69, Try.ntmps69
  go_wp2_with fail
  refine HT.out.mono ?_
  rintro e w1 ⟨rfl, hb⟩
  go_wp2_with fail
  go_ret2
  exact ⟨rfl, hb⟩
set_option maxRecDepth 100000 in
set_option maxHeartbeats 2000000 in
theorem thrd_no (A : Option Addr) (n c : Nat) (l : List Nat) (u : Int) (B : Option Addr) (m c1 : Nat) (w : World) (hl : Bytes w A n l) (hc : n ≤ c) (h : ¬ MayD n u m) :
    Calls Try.prog 88 #[.slice A n c, .int .i64 u, .slice B m c1, .func (Fn.func 90) #[] #[]] w (NoRow w) := by
  have HM := Box.mk (fun w hl => may_no A n c l u B m c1 w hl hc h)
  clear h
  go_enter Try.func88, Try.ntmps88
  go_wp2_with fail
  refine (HM.out _ hl).mono ?_
  rintro e w1 ⟨rfl, hb1⟩
  go_wp2_with fail
  go_ret2
  exact ⟨rfl, hb1⟩
set_option maxRecDepth 100000 in
set_option maxHeartbeats 2000000 in
theorem thrd_zero (A : Option Addr) (n c : Nat) (l : List Nat) (u : Nat) (B : Option Addr) (c1 : Nat) (d : List Nat) (w : World) (hl : Bytes w A n l) (hc : n ≤ c) (h : MayX n (u : Int)) :
    Calls Try.prog 88 #[.slice A n c, .int .i64 (u : Int), .slice B 0 c1, .func (Fn.func 90) #[] #[]] w (ThrQ true (half1 l) (half2 l) u d 0 w) := by
  have hk2 : MayK (half2 l).length := half2_may (by rw [hl.1]; exact h.1)
  have hu : u < 9223372036854775808 := by have := h.2.2; omega
  have HM := Box.mk (fun w hl => may_yes A n c l (u : Int) B 0 c1 w hl hc h rfl rfl)
  have HO := Box.mk (fun w hl => open_yes A n c l (u : Int) w hl hc h)
  have HT : Box (∀ (C D : Nat) (w : World), Ciph w D (words (half2 l)) → Calls Try.prog 92 #[.agg #[.pointer (some ⟨C, 0, none⟩), .pointer (some ⟨D, 0, none⟩)], .int .i64 (u : Int), .int .i64 0] w (TwQ (half2 l) u 0 w)) := ⟨fun C D w hD => tweaks_walk C D _ u 0 hk2 hu (by decide) w hD⟩
  clear h hk2 hu
  go_enter Try.func88, Try.ntmps88
  go_wp2_with fail
  refine (HM.out _ hl).mono ?_
  rintro e w1 ⟨rfl, hb1⟩
  go_wp2_with fail
  refine (HO.out _ (hl.below hb1)).mono ?_
  rintro e w2 ⟨C, D, rfl, hC, hD, hb2⟩
  have hw2 := hb1.trans (hb2.mono hb1.size)
  have hP : PairV ((w2.alloc (.cells #[.pointer none, .pointer none] 106)).setRow w2.heap.size #[.pointer (some ⟨C, 0, none⟩), .pointer (some ⟨D, 0, none⟩)]) w2.heap.size (.pointer (some ⟨C, 0, none⟩)) (.pointer (some ⟨D, 0, none⟩)) := (PairV.new w2 (.pointer none) (.pointer none) _ rfl).setRow
  have hbW : Below w2.heap.size w2 ((w2.alloc (.cells #[.pointer none, .pointer none] 106)).setRow w2.heap.size #[.pointer (some ⟨C, 0, none⟩), .pointer (some ⟨D, 0, none⟩)]) := below_setRow ((Below.refl _ _).alloc (Nat.le_refl _) _) (Nat.le_refl _) _
  go_wp2_with (first
    | ((with_reducible show wpList _ _ _ (⟨_, Op.store 106 (.tmp 10) (.tmp 25), _, _, _, _⟩ :: _) _ _); refine wp_store106 rfl (.tmp 10) (.tmp 25) rfl w2.heap.size (.pointer none) (.pointer none) _ _ rfl rfl (PairV.new _ _ _ _ rfl) rfl rfl ?_)
    | ((with_reducible show wpList _ _ _ (⟨some 27, Op.load 106 (.tmp 10), _, _, _, _⟩ :: _) _ _); refine wp_load106 rfl (.tmp 10) rfl w2.heap.size _ _ rfl hP ?_))
  revert hbW hP
  generalize (w2.alloc (.cells #[.pointer none, .pointer none] 106)).setRow w2.heap.size #[.pointer (some ⟨C, 0, none⟩), .pointer (some ⟨D, 0, none⟩)] = w3
  intro hP hbW
  refine (HT.out C D _ (hD.below hbW)).mono ?_
  rintro e w5 ⟨vt, rfl, hTs, hb5⟩
  have hw5 := (hw2.trans (hbW.mono hw2.size)).trans (hb5.mono (by have := hw2.size; have := hbW.size; omega))
  obtain ⟨At, ct, hvt, hTb⟩ := hTs.blocks
  subst hvt
  rw [twL_len] at hTb ⊢
  clear hC hD hb1 hb2 hw2 hP hbW hb5 HM HO HT hTs hl hTb
  go_wp2_with fail
  go_loopw [12, 13, 14, 15, 34] (fun o _a _b _c i wr => i = .int .i64 0 ∧ o = .slice none 0 0 ∧ wr = w5) (fun _ _ _ _ _ _ => 0)
  case atStart => exact ⟨rfl, rfl, rfl⟩
  case round =>
    obtain ⟨rfl, rfl, rfl⟩ := hrel
    go_wp2_with fail
    go_ret2
    exact ⟨_, rfl, own_nil _ _, hw5⟩
theorem thrd_any (A : Option Addr) (n c : Nat) (l : List Nat) (u : Nat) (B : Option Addr) (m c1 : Nat) (d : List Nat) (w : World) (hl : Bytes w A n l) (hc : n ≤ c) (hd : Bytes w B m d) (hc1 : m ≤ c1) (h : MayD n (u : Int) m) :
    Calls Try.prog 88 #[.slice A n c, .int .i64 (u : Int), .slice B m c1, .func (Fn.func 90) #[] #[]] w (ThrQ true (half1 l) (half2 l) u d (m / 16) w) := by
  rcases Nat.eq_zero_or_pos m with rfl | hm
  · exact thrd_zero A n c l u B c1 d w hl hc h.1
  · obtain ⟨ad, hB, _⟩ := hd.2.2.2 hm
    subst hB
    exact thrd_yes A n c l u ad m c1 d w hl hc h.1 hd hc1 h.2.1 h.2.2 hm
set_option maxRecDepth 100000 in
set_option maxHeartbeats 1000000 in
theorem xdec_yes (A : Option Addr) (n c : Nat) (l : List Nat) (u : Nat) (B : Option Addr) (m c1 : Nat) (d : List Nat) (w : World) (hl : Bytes w A n l) (hc : n ≤ c) (hd : Bytes w B m d) (hc1 : m ≤ c1) (h : MayD n (u : Int) m) :
    Calls Try.prog 70 #[.slice A n c, .int .i64 (u : Int), .slice B m c1] w (ThrQ true (half1 l) (half2 l) u d (m / 16) w) := by
  have HT := Box.mk (thrd_any A n c l u B m c1 d w hl hc hd hc1 h)
  clear h
  generalize m / 16 = nb at HT ⊢
  generalize half1 l = k1 at HT ⊢
  generalize half2 l = k2 at HT ⊢
  go_enter Try.func70, Try.ntmps70
  go_wp2_with fail
  refine HT.out.mono ?_
  rintro e w1 ⟨v, rfl, hO, hb⟩
  go_wp2_with fail
  go_ret2
  exact ⟨v, rfl, hO, hb⟩
set_option maxRecDepth 100000 in
set_option maxHeartbeats 1000000 in
theorem xdec_no (A : Option Addr) (n c : Nat) (l : List Nat) (u : Int) (B : Option Addr) (m c1 : Nat) (w : World) (hl : Bytes w A n l) (hc : n ≤ c) (h : ¬ MayD n u m) :
    Calls Try.prog 70 #[.slice A n c, .int .i64 u, .slice B m c1] w (NoRow w) := by
  have HT := Box.mk (thrd_no A n c l u B m c1 w hl hc h)
  clear h
  go_enter Try.func70, Try.ntmps70
  go_wp2_with fail
  refine HT.out.mono ?_
  rintro e w1 ⟨rfl, hb⟩
  go_wp2_with fail
  go_ret2
  exact ⟨rfl, hb⟩
end Go.Proofs.Ytibfihjcjohadaa
