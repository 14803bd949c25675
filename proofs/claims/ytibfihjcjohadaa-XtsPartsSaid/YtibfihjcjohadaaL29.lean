/-
  The walk of the law on a sector and its blocks: it returns true, whatever the input, and writes nothing that was there.
-/
import Derived.Test.YtibfihjcjohadaaL28
namespace Go.Proofs.Ytibfihjcjohadaa
open Go.RowKit Go.Op
open Aes (words words_len)
open Twk (byt up)
theorem exec_neB {o : Oper} {a : Act} (x y : Operand) (ho : o.op = .binOp .neq 36 x y 36) (f g : Nat → Nat) (hx : a.eval x = .agg (bv f)) (hy : a.eval y = .agg (bv g)) (w : World) :
    (execOp a.eval o).run Try.prog w = .ok (.value (.bool (!(eqB f g)))) w := by
  have hs := run_eqB f g w
  have hg := guard36
  unfold execOp
  simp only [ho, hx, hy]
  go_simp
theorem yields_neB {ops : Array Oper} {S : World → Prop} {op : Oper} {a : Act} (hw : Region.wanted op (yielded ops a.tmps) = true) (x y : Operand) (ho : op.op = .binOp .neq 36 x y 36)
    (f g : Nat → Nat) (b : Bool) (hb : eqB f g = !b) (hx : a.eval x = .agg (bv f)) (hy : a.eval y = .agg (bv g)) : YieldsIf Try.prog ops S op (.bool b) a :=
  .inl ⟨hw, fun w _ => by rw [exec_neB x y ho f g hx hy w, hb, Bool.not_not]⟩
theorem timesB_up (b : Nat) {i : Nat} (hb : b < 2 ^ 128) (hi : i ≤ 1000) (w : World) :
    Calls Try.prog 43 #[.agg (bv (byt b)), .int .i64 (i : Int)] w fun e w' => e = .returned (.agg (bv (byt (up b i)))) ∧ Below w.heap.size w w' := times_up b i hb hi w
theorem part_dat {d : List Nat} (hd : ∀ x ∈ d, x < 256) (i : Nat) : bv (ofL ((d.drop (16 * i)).take 16)) = bv (byt (datN d i)) := by
  rw [← bv_datN hd i]
  refine bv_congr fun j hj => ?_
  unfold ofL datF
  exact getD_part hj
theorem Blocks.cellAt {w : World} {b o n k t j : Nat} {l : List Nat} (h : Blocks w (some ⟨b, o, none⟩) n l) (hk : k < n) (ht : l.getD k 0 = t) (hj : j < 16) : w.cell? (Addr.add ⟨b, o + k * 16, none⟩ j) = some (cellOf (byt t j)) := by
  obtain ⟨b2, o2, t2, hA, ht2, _, _, hr⟩ := h.at_ hk
  injection hA with hA
  injection hA with e1 e2 e3
  subst e1 e2
  rw [ht] at ht2
  subst ht2
  rw [add_off]
  exact hr j (cellOf (byt t j)) (by simp [bl, List.getElem?_map, List.getElem?_range hj])
set_option maxRecDepth 100000 in
set_option maxHeartbeats 1000000 in
theorem xpar_outN (A : Option Addr) (n c : Nat) (u : Int) (B : Option Addr) (m c1 : Nat) (w : World) (a1 : ((n : Int) != 32) = true) (a2 : ((n : Int) != 64) = true) :
    Calls Try.prog 29 #[.slice A n c, .int .i64 u, .slice B m c1] w fun e w' => e = .returned (.bool true) ∧ Below w.heap.size w w' := by
  go_enter Try.func29, Try.ntmps29
  go_wp2_with fail
  refine (awake8 _).mono ?_
  rintro e w' ⟨rfl, hbel⟩
  go_wp2_with fail
  go_ret
  exact ⟨rfl, hbel⟩
set_option maxRecDepth 100000 in
set_option maxHeartbeats 1000000 in
theorem xpar_out32A (A : Option Addr) (n c : Nat) (u : Int) (B : Option Addr) (m c1 : Nat) (w : World) (a1 : ((n : Int) != 32) = false) (h : u < 0) :
    Calls Try.prog 29 #[.slice A n c, .int .i64 u, .slice B m c1] w fun e w' => e = .returned (.bool true) ∧ Below w.heap.size w w' := by
  go_enter Try.func29, Try.ntmps29
  go_wp2_with fail
  refine (awake8 _).mono ?_
  rintro e w' ⟨rfl, hbel⟩
  go_wp2_with fail
  go_ret
  exact ⟨rfl, hbel⟩
set_option maxRecDepth 100000 in
set_option maxHeartbeats 1000000 in
theorem xpar_out32B (A : Option Addr) (n c : Nat) (u : Int) (B : Option Addr) (m c1 : Nat) (w : World) (a1 : ((n : Int) != 32) = false) (p1 : 0 ≤ u) (h : 1099511627776 < u) :
    Calls Try.prog 29 #[.slice A n c, .int .i64 u, .slice B m c1] w fun e w' => e = .returned (.bool true) ∧ Below w.heap.size w w' := by
  go_enter Try.func29, Try.ntmps29
  go_wp2_with fail
  refine (awake8 _).mono ?_
  rintro e w' ⟨rfl, hbel⟩
  go_wp2_with fail
  go_ret
  exact ⟨rfl, hbel⟩
set_option maxRecDepth 100000 in
set_option maxHeartbeats 1000000 in
theorem xpar_out32C (A : Option Addr) (n c : Nat) (u : Int) (B : Option Addr) (m c1 : Nat) (w : World) (a1 : ((n : Int) != 32) = false) (p1 : 0 ≤ u) (p2 : u ≤ 1099511627776) (h : ((m : Int) % 16 != 0) = true) :
    Calls Try.prog 29 #[.slice A n c, .int .i64 u, .slice B m c1] w fun e w' => e = .returned (.bool true) ∧ Below w.heap.size w w' := by
  go_enter Try.func29, Try.ntmps29
  go_wp2_with fail
  refine (awake8 _).mono ?_
  rintro e w' ⟨rfl, hbel⟩
  go_wp2_with fail
  go_ret
  exact ⟨rfl, hbel⟩
set_option maxRecDepth 100000 in
set_option maxHeartbeats 1000000 in
theorem xpar_out32D (A : Option Addr) (n c : Nat) (u : Int) (B : Option Addr) (m c1 : Nat) (w : World) (a1 : ((n : Int) != 32) = false) (p1 : 0 ≤ u) (p2 : u ≤ 1099511627776) (p4 : ((m : Int) % 16 != 0) = false) (h : 400 < m) :
    Calls Try.prog 29 #[.slice A n c, .int .i64 u, .slice B m c1] w fun e w' => e = .returned (.bool true) ∧ Below w.heap.size w w' := by
  go_enter Try.func29, Try.ntmps29
  go_wp2_with fail
  refine (awake8 _).mono ?_
  rintro e w' ⟨rfl, hbel⟩
  go_wp2_with fail
  go_ret
  exact ⟨rfl, hbel⟩
set_option maxRecDepth 100000 in
set_option maxHeartbeats 1000000 in
theorem xpar_out64A (A : Option Addr) (n c : Nat) (u : Int) (B : Option Addr) (m c1 : Nat) (w : World) (a1 : ((n : Int) != 32) = true) (a2 : ((n : Int) != 64) = false) (h : u < 0) :
    Calls Try.prog 29 #[.slice A n c, .int .i64 u, .slice B m c1] w fun e w' => e = .returned (.bool true) ∧ Below w.heap.size w w' := by
  go_enter Try.func29, Try.ntmps29
  go_wp2_with fail
  refine (awake8 _).mono ?_
  rintro e w' ⟨rfl, hbel⟩
  go_wp2_with fail
  go_ret
  exact ⟨rfl, hbel⟩
set_option maxRecDepth 100000 in
set_option maxHeartbeats 1000000 in
theorem xpar_out64B (A : Option Addr) (n c : Nat) (u : Int) (B : Option Addr) (m c1 : Nat) (w : World) (a1 : ((n : Int) != 32) = true) (a2 : ((n : Int) != 64) = false) (p1 : 0 ≤ u) (h : 1099511627776 < u) :
    Calls Try.prog 29 #[.slice A n c, .int .i64 u, .slice B m c1] w fun e w' => e = .returned (.bool true) ∧ Below w.heap.size w w' := by
  go_enter Try.func29, Try.ntmps29
  go_wp2_with fail
  refine (awake8 _).mono ?_
  rintro e w' ⟨rfl, hbel⟩
  go_wp2_with fail
  go_ret
  exact ⟨rfl, hbel⟩
set_option maxRecDepth 100000 in
set_option maxHeartbeats 1000000 in
theorem xpar_out64C (A : Option Addr) (n c : Nat) (u : Int) (B : Option Addr) (m c1 : Nat) (w : World) (a1 : ((n : Int) != 32) = true) (a2 : ((n : Int) != 64) = false) (p1 : 0 ≤ u) (p2 : u ≤ 1099511627776) (h : ((m : Int) % 16 != 0) = true) :
    Calls Try.prog 29 #[.slice A n c, .int .i64 u, .slice B m c1] w fun e w' => e = .returned (.bool true) ∧ Below w.heap.size w w' := by
  go_enter Try.func29, Try.ntmps29
  go_wp2_with fail
  refine (awake8 _).mono ?_
  rintro e w' ⟨rfl, hbel⟩
  go_wp2_with fail
  go_ret
  exact ⟨rfl, hbel⟩
set_option maxRecDepth 100000 in
set_option maxHeartbeats 1000000 in
theorem xpar_out64D (A : Option Addr) (n c : Nat) (u : Int) (B : Option Addr) (m c1 : Nat) (w : World) (a1 : ((n : Int) != 32) = true) (a2 : ((n : Int) != 64) = false) (p1 : 0 ≤ u) (p2 : u ≤ 1099511627776) (p4 : ((m : Int) % 16 != 0) = false) (h : 400 < m) :
    Calls Try.prog 29 #[.slice A n c, .int .i64 u, .slice B m c1] w fun e w' => e = .returned (.bool true) ∧ Below w.heap.size w w' := by
  go_enter Try.func29, Try.ntmps29
  go_wp2_with fail
  refine (awake8 _).mono ?_
  rintro e w' ⟨rfl, hbel⟩
  go_wp2_with fail
  go_ret
  exact ⟨rfl, hbel⟩
set_option maxRecDepth 100000 in
set_option maxHeartbeats 8000000 in
theorem xpar_in32 (ad0 : Addr) (c : Nat) (l : List Nat) (u : Nat) (B : Option Addr) (m c1 : Nat) (d : List Nat) (w : World) (hl : Bytes w (some ad0) 32 l) (hc : 32 ≤ c) (hd : Bytes w B m d) (hc1 : m ≤ c1) (p2 : (u : Int) ≤ 1099511627776) (p4 : ((m : Int) % 16 != 0) = false) (p5 : m ≤ 400) (hM : MayX 32 (u : Int)) (hm16 : m % 16 = 0) :
    Calls Try.prog 29 #[.slice (some ad0) 32 c, .int .i64 (u : Int), .slice B m c1] w fun e w' => e = .returned (.bool true) ∧ Below w.heap.size w w' := by
  obtain ⟨nb, hnb⟩ : ∃ nb, m / 16 = nb := ⟨_, rfl⟩
  have HNB : Box (m = 16 * nb) := ⟨by omega⟩
  have hni : (m : Int) / 16 = (nb : Int) := by omega
  have hnbl : nb ≤ 25 := by omega
  have hu : u < 9223372036854775808 := by omega
  have hl16 : MayK (half1 l).length := half1_may (by rw [hl.1]; exact hM.1)
  have hl16b : MayK (half2 l).length := half2_may (by rw [hl.1]; exact hM.1)
  have HXE : Box (∀ (w : World), Bytes w (some ad0) 32 l → Bytes w B m d → Calls Try.prog 69 #[.slice (some ad0) 32 c, .int .i64 (u : Int), .slice B m c1] w (RetRow (xtL false (half1 l) (half2 l) u d nb) m w)) := ⟨fun w h1 h2 => by
    have h6 := (xenc_yes (some ad0) 32 c l u B m c1 d w h1 hc h2 hc1 ⟨hM, hm16, by omega⟩).mono fun e w' hq => hq.ret (m := m) (by omega)
    rwa [hnb] at h6⟩
  have HXT : Box (∀ (w : World), Bytes w (some ad0) 32 l → Calls Try.prog 72 #[.slice (some ad0) 32 c, .int .i64 (u : Int), .int .i64 (nb : Int)] w (RetBlk (twL (half2 l) u nb) nb w)) := ⟨fun w h => (tweaks_yes (some ad0) 32 c l u nb w h hc hM (by omega)).mono fun e w' hq => hq.ret⟩
  have HN1 : Box (∀ (w : World), Bytes w (some ad0) 32 l → Calls Try.prog 59 #[.slice (some ad0) 16 c] w fun e w' => NewQ (half1 l) w e w') := ⟨fun w h => by
    have e1 : half1 l = l.take 16 := by unfold half1; rw [hl.1]
    rw [e1]
    exact new_any _ 16 c (l.take 16) _ (h.take (by decide)) (by omega) (by decide)⟩
  have HN2 : Box (∀ (w : World), Bytes w (some ad0) 32 l → Calls Try.prog 59 #[.slice (some ⟨ad0.block, ad0.off + 16, none⟩) 16 (c - 16)] w fun e w' => NewQ (half2 l) w e w') := ⟨fun w h => by
    have e1 : half2 l = l.drop 16 := by unfold half2; rw [hl.1]
    rw [e1]
    have h2 := h.drop (h := 16) (by decide)
    rw [add_lit _ _ (by decide)] at h2
    exact new_any _ 16 (c - 16) (l.drop 16) _ h2 (by omega) (by decide)⟩
  have HNU : Box (∀ w, Calls Try.prog 45 #[.int .i64 (u : Int)] w fun e w' => e = .returned (.agg (bv (byt u))) ∧ Below w.heap.size w w') := ⟨fun w => number_nat u hu w⟩
  have hne : (c = 16) = False := by simp; omega
  generalize half1 l = k1 at HXE HN1 hl16
  generalize half2 l = k2 at HXE HXT HN2 hl16b
  have HF0 : Box (∀ (C x : Nat) (w : World), Ciph w C (words k1) → Calls Try.prog 61 #[.pointer (some ⟨C, 0, none⟩), .agg (bv (byt x))] w fun e w' => e = .returned (.agg (bv (byt (encN k1 x)))) ∧ Below w.heap.size w w') := ⟨fun C x w h => encN_any C k1 x hl16 w h⟩
  have HG : Box (∀ (D : Nat) (w : World), Ciph w D (words k2) → Calls Try.prog 61 #[.pointer (some ⟨D, 0, none⟩), .agg (bv (byt u))] w fun e w' => e = .returned (.agg (bv (byt (encN k2 u)))) ∧ Below w.heap.size w w') := ⟨fun D w h => encN_any D k2 u hl16b w h⟩
  have HT0 : Box (∀ i, twN k2 u i = up (encN k2 u) i) := ⟨fun i => rfl⟩
  have ht0 : encN k2 u < 2 ^ 128 := encN_lt _ _
  obtain ⟨t0, ht0e⟩ : ∃ t0, encN k2 u = t0 := ⟨_, rfl⟩
  rw [ht0e] at HG HT0 ht0
  clear hnb hl16 hl16b hM hu ht0e
  go_enter Try.func29, Try.ntmps29
  go_wp2_with fail
  refine (HN1.out _ hl).mono ?_
  rintro e w1 ⟨C, rfl, hC, hb1, _⟩
  go_wp2_with fail
  refine (HN2.out _ (hl.below hb1)).mono ?_
  rintro e w2 ⟨D, rfl, hD, hb2, _⟩
  have hC := hC.below hb2
  have hw2 := hb1.trans (hb2.mono hb1.size)
  clear hb1 hb2 HN1 HN2
  go_wp2_with fail
  refine (HXE.out _ (hl.below hw2) (hd.below hw2)).mono ?_
  rintro e w3 ⟨A1, d1, rfl, hO1, hC1, hb3⟩
  have hC := hC.below hb3
  have hD := hD.below hb3
  have hw3 := hw2.trans (hb3.mono hw2.size)
  clear hb3 hw2 HXE
  go_wp2_with fail
  refine (HXT.out _ (hl.below hw3)).mono ?_
  rintro e w4 ⟨At, ct, rfl, hT, hb4⟩
  have hO1 := hO1.below hb4 (Nat.le_refl _)
  have hC := hC.below hb4
  have hD := hD.below hb4
  have hw4 := hw3.trans (hb4.mono hw3.size)
  clear hb4 hw3 HXT hl
  go_wp2_with fail
  refine (HNU.out _).mono ?_
  rintro e w5 ⟨rfl, hb5⟩
  go_wp2_with fail
  refine (HG.out D _ (hD.below hb5)).mono ?_
  rintro e w6 ⟨rfl, hb6⟩
  have hb6 := hb5.trans (hb6.mono hb5.size)
  have hO1 := hO1.below hb6 (Nat.le_refl _)
  have hC := hC.below hb6
  have hT := hT.below hb6 (Nat.le_refl _)
  have hw6 := hw4.trans (hb6.mono hw4.size)
  clear hb5 hb6 hw4 hD HNU HG
  go_wp2_with (first
      | ((with_reducible show wpList _ _ _ (⟨_, Op.store 36 (.tmp 15) (.tmp 119), _, _, _, _⟩ :: _) _ _); refine wp_store_arr rfl (.tmp 15) (.tmp 119) rfl (w6.heap.size) (fun _ => 0) (byt t0) rfl rfl (Arr.zero _ _ rfl) ?_))
  have hA15 : Arr ((w6.alloc (.cells #[.int .u8 0, .int .u8 0, .int .u8 0, .int .u8 0, .int .u8 0, .int .u8 0, .int .u8 0, .int .u8 0, .int .u8 0, .int .u8 0, .int .u8 0, .int .u8 0, .int .u8 0, .int .u8 0, .int .u8 0, .int .u8 0] 36)).setRow w6.heap.size (bv (byt t0))) w6.heap.size (byt t0) := (Arr.zero _ _ rfl).setRow
  have hbW : Below w6.heap.size w6 ((w6.alloc (.cells #[.int .u8 0, .int .u8 0, .int .u8 0, .int .u8 0, .int .u8 0, .int .u8 0, .int .u8 0, .int .u8 0, .int .u8 0, .int .u8 0, .int .u8 0, .int .u8 0, .int .u8 0, .int .u8 0, .int .u8 0, .int .u8 0] 36)).setRow w6.heap.size (bv (byt t0))) := below_setRow ((Below.refl _ _).alloc (Nat.le_refl _) _) (Nat.le_refl _) _
  revert hA15 hbW
  generalize ((w6.alloc (.cells #[.int .u8 0, .int .u8 0, .int .u8 0, .int .u8 0, .int .u8 0, .int .u8 0, .int .u8 0, .int .u8 0, .int .u8 0, .int .u8 0, .int .u8 0, .int .u8 0, .int .u8 0, .int .u8 0, .int .u8 0, .int .u8 0] 36)).setRow w6.heap.size (bv (byt t0))) = w5
  intro hA15 hbW
  have hO1 := hO1.below hbW (Nat.le_refl _)
  have hC := hC.below hbW
  have hT := hT.below hbW (Nat.le_refl _)
  have hw5 := hw6.trans (hbW.mono hw6.size)
  obtain ⟨g15, hg15⟩ : ∃ g, g = w6.heap.size := ⟨_, rfl⟩
  rw [← hg15] at hA15 ⊢
  clear hbW hw6 hg15
  obtain ⟨At', ct', hvt, hTb⟩ := hT.blocks
  rw [twL_len] at hvt hTb
  injection hvt with hv1 hv2 hv3
  subst hv1
  clear hv2 hv3 hT
  have hd5 := hd.below hw5
  clear hd
  go_wp2_with fail
  go_loopw [16, 17, 18] (fun i _a _b wr => ∃ (i' : Nat), i = .int .i64 (i' : Int) ∧ i' ≤ nb ∧ Below w5.heap.size w5 wr) (fun i _ _ _ => nb - (intOf i).toNat)
  case atStart => exact ⟨0, rfl, by omega, Below.refl _ _⟩
  case round =>
    obtain ⟨i, rfl, hi, hB⟩ := hrel
    by_cases hin : i = nb
    · subst hin
      go_wp2_with fail
      refine (awake8 _).mono ?_
      rintro e w' ⟨rfl, hbel⟩
      go_wp2_with fail
      go_ret
      exact ⟨rfl, (hw5.trans (hB.mono hw5.size)).trans (hbel.mono (by have := hw5.size; have := hB.size; omega))⟩
    · have hi2 : i < nb := by omega
      clear hin
      have hm0 : 0 < m := by have := HNB.out; omega
      obtain ⟨ad, hBe, _⟩ := hd5.2.2.2 hm0
      subst hBe
      obtain ⟨ad1, hA1, _⟩ := hO1.rd.2.2.2 hm0
      subst hA1
      obtain ⟨tb, ot, t, hAt, htd, htl, _, hr⟩ := (hTb.below hB).at_ hi2
      subst hAt
      rw [twL_get _ _ hi2] at htd
      obtain ⟨q, hq⟩ : ∃ q, q = 16 * i := ⟨_, rfl⟩
      obtain ⟨q2, hq2⟩ : ∃ q2, q2 = q + 16 := ⟨_, rfl⟩
      have HQ := Box.mk hq
      have HQ2 := Box.mk hq2
      have hqm : q2 ≤ m := by have := HNB.out; omega
      have hqd : q2 - q = 16 := by omega
      have q0 : (0 : Int) ≤ (q : Int) := by omega
      have q1 : (q : Int) ≤ (q2 : Int) := by omega
      have q3 : (q2 : Int) ≤ (d1 : Int) := by omega
      have q4 : (q2 : Int) ≤ (c1 : Int) := by omega
      have ne1 : (d1 = q) = False := by simp; omega
      have ne7 : (c1 = q) = False := by simp; omega
      have hdl := hd5.2.2.1
      obtain ⟨x, hx⟩ : ∃ x, datN d i = x := ⟨_, rfl⟩
      have hxl : x < 2 ^ 128 := by rw [← hx]; exact datN_lt hdl i
      obtain ⟨y, hy⟩ : ∃ y, encN k1 (x ^^^ t) = y := ⟨_, rfl⟩
      have hyl : y < 2 ^ 128 := by rw [← hy]; exact encN_lt _ _
      have HBK : Box (∀ cc w, Bytes w (some (ad.add q)) 16 ((d.drop q).take 16) → Calls Try.prog 38 #[.slice (some (ad.add q)) 16 cc] w fun e w' => e = .returned (.agg (bv (byt x))) ∧ Below w.heap.size w w') := ⟨fun cc w h => by
        have h1 := block_walk (some (ad.add q)) 16 cc _ w h
        rwa [hq, part_dat hdl i, hx, ← hq] at h1⟩
      have HF : Box (∀ (w : World), Ciph w C (words k1) → Calls Try.prog 61 #[.pointer (some ⟨C, 0, none⟩), .agg (bv (byt (x ^^^ t)))] w fun e w' => e = .returned (.agg (bv (byt y))) ∧ Below w.heap.size w w') := ⟨fun w h => by
        have h1 := HF0.out C (x ^^^ t) w h
        rwa [hy] at h1⟩
      have HTM : Box (∀ w, Calls Try.prog 43 #[.agg (bv (byt t0)), .int .i64 (i : Int)] w fun e w' => e = .returned (.agg (bv (byt t))) ∧ Below w.heap.size w w') := ⟨fun w => by
        have h1 := timesB_up t0 (i := i) ht0 (by omega) w
        rwa [← HT0.out i, htd] at h1⟩
      have HXB : Box (xtB false k1 k2 u d i = y ^^^ t) := ⟨by rw [xtB_forth, hx, htd, hy]⟩
      have hdw := (hd5.below hB).part (q := q) (by omega)
      have hq400 : q ≤ 400 := by omega
      have hq416 : q2 ≤ 416 := by omega
      have hi400 : i ≤ 400 := by omega
      have HTD : Box ((twL k2 u nb).getD i 0 = t) := ⟨by rw [twL_get _ _ hi2]; exact htd⟩
      have hTbw := hTb.below hB
      clear hq hq2 hx hy htd hr
      go_wp2_with fail
      rw [← HQ.out]
      refine (HBK.out _ _ hdw).mono ?_
      rintro e w7 ⟨rfl, hb7⟩
      go_upto_region 16 with (first
          | ((with_reducible show wpList _ _ _ (⟨_, Op.store 36 (.tmp 17) (.tmp 133), _, _, _, _⟩ :: _) _ _); refine wp_store_arr rfl (.tmp 17) (.tmp 133) rfl (w7.heap.size) (fun _ => 0) (byt x) rfl rfl (Arr.zero _ _ rfl) ?_))
      have hA17 : Arr ((w7.alloc (.cells #[.int .u8 0, .int .u8 0, .int .u8 0, .int .u8 0, .int .u8 0, .int .u8 0, .int .u8 0, .int .u8 0, .int .u8 0, .int .u8 0, .int .u8 0, .int .u8 0, .int .u8 0, .int .u8 0, .int .u8 0, .int .u8 0] 36)).setRow w7.heap.size (bv (byt x))) w7.heap.size (byt x) := (Arr.zero _ _ rfl).setRow
      have hbX : Below w7.heap.size w7 ((w7.alloc (.cells #[.int .u8 0, .int .u8 0, .int .u8 0, .int .u8 0, .int .u8 0, .int .u8 0, .int .u8 0, .int .u8 0, .int .u8 0, .int .u8 0, .int .u8 0, .int .u8 0, .int .u8 0, .int .u8 0, .int .u8 0, .int .u8 0] 36)).setRow w7.heap.size (bv (byt x))) := below_setRow ((Below.refl _ _).alloc (Nat.le_refl _) _) (Nat.le_refl _) _
      revert hA17 hbX
      generalize ((w7.alloc (.cells #[.int .u8 0, .int .u8 0, .int .u8 0, .int .u8 0, .int .u8 0, .int .u8 0, .int .u8 0, .int .u8 0, .int .u8 0, .int .u8 0, .int .u8 0, .int .u8 0, .int .u8 0, .int .u8 0, .int .u8 0, .int .u8 0] 36)).setRow w7.heap.size (bv (byt x))) = w8
      intro hA17 hbX
      have hB8 := hb7.trans (hbX.mono hb7.size)
      have hC8 := (hC.below hB).below hB8
      have hTb8 := hTbw.below hB8
      clear hbX hb7 hTbw HBK hdw
      simp only [Act.put]
      go_cut [18] from 134 to 148 (fun p wx => NewArr w8 w8.heap.size (byt (y ^^^ t)) p wx)
      case first =>
        refine wp_region_held_drew (S := fun w' => Below w8.heap.size w8 w') (by kernel_rfl) (Below.refl _ _).drew (fun hS => ?_)
        refine wpAnyH_take (i := 0) (oi := ⟨some 134, _, _, _, _, _⟩) (v := .pointer (some ⟨C, 0, none⟩)) rfl (by kernel_rfl) (by kernel_rfl) (by kernel_rfl) (fun _ _ _ h => h) (Or.inl ⟨by kernel_rfl, fun w' hSw => ?_⟩) hS ?_
        · go_simp
        simp only [Act.put, List.setIfInBounds_toArray, List.set_cons_zero, List.set_cons_succ]
        refine wpAnyH_take (i := 1) (oi := ⟨some 135, _, _, _, _, _⟩) (v := .agg (bv (byt x))) rfl (by kernel_rfl) (by kernel_rfl) (by kernel_rfl) (fun _ _ _ h => h) (yields_arr (by kernel_rfl) (.tmp 17) rfl (w7.heap.size) (byt x) rfl fun w' h => hA17.below h hA17.lt) hS ?_
        simp only [Act.put, List.setIfInBounds_toArray, List.set_cons_zero, List.set_cons_succ]
        refine wpAnyH_take (i := 2) (oi := ⟨some 136, _, _, _, _, _⟩) (v := .slice (some ⟨tb, ot, none⟩) nb ct) rfl (by kernel_rfl) (by kernel_rfl) (by kernel_rfl) (fun _ _ _ h => h) (Or.inl ⟨by kernel_rfl, fun w' hSw => ?_⟩) hS ?_
        · go_simp
        simp only [Act.put, List.setIfInBounds_toArray, List.set_cons_zero, List.set_cons_succ]
        refine wpAnyH_take (i := 3) (oi := ⟨some 137, _, _, _, _, _⟩) (v := .int .i64 (i : Int)) rfl (by kernel_rfl) (by kernel_rfl) (by kernel_rfl) (fun _ _ _ h => h) (Or.inl ⟨by kernel_rfl, fun w' hSw => ?_⟩) hS ?_
        · go_simp
        simp only [Act.put, List.setIfInBounds_toArray, List.set_cons_zero, List.set_cons_succ]
        refine wpAnyH_take (i := 4) (oi := ⟨some 138, _, _, _, _, _⟩) (v := .pointer (some ⟨tb, ot + i * 16, none⟩)) rfl (by kernel_rfl) (by kernel_rfl) (by kernel_rfl) (fun _ _ _ h => h) (Or.inl ⟨by kernel_rfl, fun w' hSw => ?_⟩) hS ?_
        · go_simp
        simp only [Act.put, List.setIfInBounds_toArray, List.set_cons_zero, List.set_cons_succ]
        refine wpAnyH_take (i := 5) (oi := ⟨some 139, _, _, _, _, _⟩) (v := .agg (bv (byt (t)))) rfl (by kernel_rfl) (by kernel_rfl) (by kernel_rfl) (fun _ _ _ h => h) (yields_arr_at (by kernel_rfl) (.tmp 138) rfl (⟨tb, ot + i * 16, none⟩) (byt (t)) rfl (fun w' h j hj => (hTb8.below h).cellAt hi2 HTD.out hj)) hS ?_
        simp only [Act.put, List.setIfInBounds_toArray, List.set_cons_zero, List.set_cons_succ]
        refine wpAnyH_take (i := 9) (oi := ⟨some 143, _, _, _, _, _⟩) (v := .slice (some ⟨tb, ot, none⟩) nb ct) rfl (by kernel_rfl) (by kernel_rfl) (by kernel_rfl) (fun _ _ _ h => h) (Or.inl ⟨by kernel_rfl, fun w' hSw => ?_⟩) hS ?_
        · go_simp
        simp only [Act.put, List.setIfInBounds_toArray, List.set_cons_zero, List.set_cons_succ]
        refine wpAnyH_take (i := 10) (oi := ⟨some 144, _, _, _, _, _⟩) (v := .int .i64 (i : Int)) rfl (by kernel_rfl) (by kernel_rfl) (by kernel_rfl) (fun _ _ _ h => h) (Or.inl ⟨by kernel_rfl, fun w' hSw => ?_⟩) hS ?_
        · go_simp
        simp only [Act.put, List.setIfInBounds_toArray, List.set_cons_zero, List.set_cons_succ]
        refine wpAnyH_take (i := 11) (oi := ⟨some 145, _, _, _, _, _⟩) (v := .pointer (some ⟨tb, ot + i * 16, none⟩)) rfl (by kernel_rfl) (by kernel_rfl) (by kernel_rfl) (fun _ _ _ h => h) (Or.inl ⟨by kernel_rfl, fun w' hSw => ?_⟩) hS ?_
        · go_simp
        simp only [Act.put, List.setIfInBounds_toArray, List.set_cons_zero, List.set_cons_succ]
        refine wpAnyH_take (i := 12) (oi := ⟨some 146, _, _, _, _, _⟩) (v := .agg (bv (byt (t)))) rfl (by kernel_rfl) (by kernel_rfl) (by kernel_rfl) (fun _ _ _ h => h) (yields_arr_at (by kernel_rfl) (.tmp 145) rfl (⟨tb, ot + i * 16, none⟩) (byt (t)) rfl (fun w' h j hj => (hTb8.below h).cellAt hi2 HTD.out hj)) hS ?_
        simp only [Act.put, List.setIfInBounds_toArray, List.set_cons_zero, List.set_cons_succ]
        refine wpAnyH_ready (rs := [6, 15]) (by kernel_rfl) (by simp) ?_
        refine (AllReadyH.cons (o := ⟨some 140, _, _, _, _, _⟩) rfl (fun K hK => ?_) (AllReadyH.cons (o := ⟨some 18, _, _, _, _, _⟩) rfl (fun K hK => ?_) AllReadyH.nil))
        · rw [if_pos (by kernel_rfl)]
          refine wp_two (.tmp 135) (.tmp 139) rfl (byt (x)) (byt (t)) rfl rfl ?_
          have hk140 : Blocks (w8.drew.alloc (.cells (bv (byt (x)) ++ bv (byt (t))) 36)) (some ⟨w8.heap.size, 0, none⟩) 2 [x, t] := blocks_two _ _ _ _ (by first | rfl | simp | simp [World.setRow]) hxl htl
          refine hK.out _ _ (hS.alloc hS.size _) (fun hS => ?_)
          clear hK K
          simp only [Act.put, List.setIfInBounds_toArray, List.set_cons_zero, List.set_cons_succ]
          refine wpAnyH_ready (rs := [7, 15]) (by kernel_rfl) (by simp) ?_
          refine (AllReadyH.cons (o := ⟨some 141, _, _, _, _, _⟩) rfl (fun K hK => ?_) (AllReadyH.cons (o := ⟨some 18, _, _, _, _, _⟩) rfl (fun K hK => ?_) AllReadyH.nil))
          · rw [if_pos (by kernel_rfl)]
            go_simp
            refine (xor_two _ _ x t _ hk140).mono ?_
            rintro e v1 ⟨rfl, hq1⟩
            have hk140 := hk140.below hq1
            have hqz1 := hq1.size
            refine hK.out _ _ (hS.trans (hq1.mono (by first | exact hS.size | (have := hS.size; simp at this ⊢; omega)))) (fun hS => ?_)
            clear hK K
            refine wpAnyH_ready (rs := [8, 15]) (by kernel_rfl) (by simp) ?_
            refine (AllReadyH.cons (o := ⟨some 142, _, _, _, _, _⟩) rfl (fun K hK => ?_) (AllReadyH.cons (o := ⟨some 18, _, _, _, _, _⟩) rfl (fun K hK => ?_) AllReadyH.nil))
            · rw [if_pos (by kernel_rfl)]
              go_simp
              refine (HF.out _ (hC8.below hS)).mono ?_
              rintro e v2 ⟨rfl, hq2⟩
              have hk140 := hk140.below hq2
              have hqz2 := hq2.size
              refine hK.out _ _ (hS.trans (hq2.mono (by first | exact hS.size | (have := hS.size; simp at this ⊢; omega)))) (fun hS => ?_)
              clear hK K
              refine wpAnyH_ready (rs := [13, 15]) (by kernel_rfl) (by simp) ?_
              refine (AllReadyH.cons (o := ⟨some 147, _, _, _, _, _⟩) rfl (fun K hK => ?_) (AllReadyH.cons (o := ⟨some 18, _, _, _, _, _⟩) rfl (fun K hK => ?_) AllReadyH.nil))
              · rw [if_pos (by kernel_rfl)]
                refine wp_two (.tmp 142) (.tmp 146) rfl (byt (y)) (byt (t)) rfl rfl ?_
                have hk140 := hk140.alloc (.cells (bv (byt (y)) ++ bv (byt (t))) 36)
                have hk147 : Blocks (v2.alloc (.cells (bv (byt (y)) ++ bv (byt (t))) 36)) (some ⟨v2.heap.size, 0, none⟩) 2 [y, t] := blocks_two _ _ _ _ (by first | rfl | simp | simp [World.setRow]) hyl htl
                refine hK.out _ _ (hS.alloc hS.size _) (fun hS => ?_)
                clear hK K
                simp only [Act.put, List.setIfInBounds_toArray, List.set_cons_zero, List.set_cons_succ]
                refine wpAnyH_ready (rs := [14, 15]) (by kernel_rfl) (by simp) ?_
                refine (AllReadyH.cons (o := ⟨some 148, _, _, _, _, _⟩) rfl (fun K hK => ?_) (AllReadyH.cons (o := ⟨some 18, _, _, _, _, _⟩) rfl (fun K hK => ?_) AllReadyH.nil))
                · rw [if_pos (by kernel_rfl)]
                  go_simp
                  refine (xor_two _ _ y t _ hk147).mono ?_
                  rintro e v3 ⟨rfl, hq3⟩
                  have hk140 := hk140.below hq3
                  have hk147 := hk147.below hq3
                  have hqz3 := hq3.size
                  refine hK.out _ _ (hS.trans (hq3.mono (by first | exact hS.size | (have := hS.size; simp at this ⊢; omega)))) (fun hS => ?_)
                  clear hK K
                  refine wpAnyH_ready (rs := [15]) (by kernel_rfl) (by simp) ?_
                  refine (AllReadyH.cons (o := ⟨some 18, _, _, _, _, _⟩) rfl (fun K hK => ?_) AllReadyH.nil)
                  rw [if_pos (by kernel_rfl)]
                  go_simp
                  have hk140 := hk140.alloc (.cells #[.int .u8 0, .int .u8 0, .int .u8 0, .int .u8 0, .int .u8 0, .int .u8 0, .int .u8 0, .int .u8 0, .int .u8 0, .int .u8 0, .int .u8 0, .int .u8 0, .int .u8 0, .int .u8 0, .int .u8 0, .int .u8 0] 36)
                  have hk147 := hk147.alloc (.cells #[.int .u8 0, .int .u8 0, .int .u8 0, .int .u8 0, .int .u8 0, .int .u8 0, .int .u8 0, .int .u8 0, .int .u8 0, .int .u8 0, .int .u8 0, .int .u8 0, .int .u8 0, .int .u8 0, .int .u8 0, .int .u8 0] 36)
                  have hg18 := hS.size
                  have ha18 : Arr (v3.alloc (.cells #[.int .u8 0, .int .u8 0, .int .u8 0, .int .u8 0, .int .u8 0, .int .u8 0, .int .u8 0, .int .u8 0, .int .u8 0, .int .u8 0, .int .u8 0, .int .u8 0, .int .u8 0, .int .u8 0, .int .u8 0, .int .u8 0] 36)) (v3.heap.size) (fun _ => 0) := Arr.zero _ _ (by first | rfl | simp | simp [World.setRow])
                  refine hK.out _ _ (hS.alloc hS.size _) (fun hS => ?_)
                  clear hK K
                  refine wpAnyH_ready (rs := [16]) (by kernel_rfl) (by simp) ?_
                  refine (AllReadyH.cons (o := ⟨none, _, _, _, _, _⟩) rfl (fun K hK => ?_) AllReadyH.nil)
                  rw [if_pos (by kernel_rfl)]
                  refine wpo_store_arr (.tmp 18) (.tmp 148) rfl (v3.heap.size) (fun _ => 0) (byt (y ^^^ t)) rfl rfl ha18 ?_
                  have ha18 := ha18.setRow (h := byt (y ^^^ t))
                  refine hK.out _ _ (below_setRow hS (by have := hS.size; first | omega | (simp at *; omega) | (simp [setRow_size] at *; omega)) _) (fun hS => ?_)
                  clear hK K
                  simp only [Act.put]
                  refine wpAnyH_done (by kernel_rfl) ?_ _
                  go_wp2_with fail
                  go_meet
                  case rel => exact ⟨_, rfl, (by first | exact hg18 | omega | (simp; done) | (simp at *; omega)), ha18, hS⟩
                · rw [if_pos (by kernel_rfl)]
                  go_simp
                  have hk140 := hk140.alloc (.cells #[.int .u8 0, .int .u8 0, .int .u8 0, .int .u8 0, .int .u8 0, .int .u8 0, .int .u8 0, .int .u8 0, .int .u8 0, .int .u8 0, .int .u8 0, .int .u8 0, .int .u8 0, .int .u8 0, .int .u8 0, .int .u8 0] 36)
                  have hk147 := hk147.alloc (.cells #[.int .u8 0, .int .u8 0, .int .u8 0, .int .u8 0, .int .u8 0, .int .u8 0, .int .u8 0, .int .u8 0, .int .u8 0, .int .u8 0, .int .u8 0, .int .u8 0, .int .u8 0, .int .u8 0, .int .u8 0, .int .u8 0] 36)
                  have hg18 := hS.size
                  have ha18 : Arr ((v2.alloc (.cells (bv (byt (y)) ++ bv (byt (t))) 36)).alloc (.cells #[.int .u8 0, .int .u8 0, .int .u8 0, .int .u8 0, .int .u8 0, .int .u8 0, .int .u8 0, .int .u8 0, .int .u8 0, .int .u8 0, .int .u8 0, .int .u8 0, .int .u8 0, .int .u8 0, .int .u8 0, .int .u8 0] 36)) (v2.heap.size + 1) (fun _ => 0) := Arr.zero _ _ (by first | rfl | simp | simp [World.setRow])
                  refine hK.out _ _ (hS.alloc hS.size _) (fun hS => ?_)
                  clear hK K
                  refine wpAnyH_ready (rs := [14]) (by kernel_rfl) (by simp) ?_
                  refine (AllReadyH.cons (o := ⟨some 148, _, _, _, _, _⟩) rfl (fun K hK => ?_) AllReadyH.nil)
                  rw [if_pos (by kernel_rfl)]
                  go_simp
                  refine (xor_two _ _ y t _ hk147).mono ?_
                  rintro e v3 ⟨rfl, hq3⟩
                  have ha18 := ha18.below hq3 ha18.lt
                  have hk140 := hk140.below hq3
                  have hk147 := hk147.below hq3
                  have hqz3 := hq3.size
                  refine hK.out _ _ (hS.trans (hq3.mono (by first | exact hS.size | (have := hS.size; simp at this ⊢; omega)))) (fun hS => ?_)
                  clear hK K
                  refine wpAnyH_ready (rs := [16]) (by kernel_rfl) (by simp) ?_
                  refine (AllReadyH.cons (o := ⟨none, _, _, _, _, _⟩) rfl (fun K hK => ?_) AllReadyH.nil)
                  rw [if_pos (by kernel_rfl)]
                  refine wpo_store_arr (.tmp 18) (.tmp 148) rfl (v2.heap.size + 1) (fun _ => 0) (byt (y ^^^ t)) rfl rfl ha18 ?_
                  have ha18 := ha18.setRow (h := byt (y ^^^ t))
                  refine hK.out _ _ (below_setRow hS (by have := hS.size; first | omega | (simp at *; omega) | (simp [setRow_size] at *; omega)) _) (fun hS => ?_)
                  clear hK K
                  simp only [Act.put]
                  refine wpAnyH_done (by kernel_rfl) ?_ _
                  go_wp2_with fail
                  go_meet
                  case rel => exact ⟨_, rfl, (by first | exact hg18 | omega | (simp; done) | (simp at *; omega)), ha18, hS⟩
              · rw [if_pos (by kernel_rfl)]
                go_simp
                have hk140 := hk140.alloc (.cells #[.int .u8 0, .int .u8 0, .int .u8 0, .int .u8 0, .int .u8 0, .int .u8 0, .int .u8 0, .int .u8 0, .int .u8 0, .int .u8 0, .int .u8 0, .int .u8 0, .int .u8 0, .int .u8 0, .int .u8 0, .int .u8 0] 36)
                have hg18 := hS.size
                have ha18 : Arr (v2.alloc (.cells #[.int .u8 0, .int .u8 0, .int .u8 0, .int .u8 0, .int .u8 0, .int .u8 0, .int .u8 0, .int .u8 0, .int .u8 0, .int .u8 0, .int .u8 0, .int .u8 0, .int .u8 0, .int .u8 0, .int .u8 0, .int .u8 0] 36)) (v2.heap.size) (fun _ => 0) := Arr.zero _ _ (by first | rfl | simp | simp [World.setRow])
                refine hK.out _ _ (hS.alloc hS.size _) (fun hS => ?_)
                clear hK K
                refine wpAnyH_ready (rs := [13]) (by kernel_rfl) (by simp) ?_
                refine (AllReadyH.cons (o := ⟨some 147, _, _, _, _, _⟩) rfl (fun K hK => ?_) AllReadyH.nil)
                rw [if_pos (by kernel_rfl)]
                refine wp_two (.tmp 142) (.tmp 146) rfl (byt (y)) (byt (t)) rfl rfl ?_
                have ha18 := ha18.alloc (.cells (bv (byt (y)) ++ bv (byt (t))) 36)
                have hk140 := hk140.alloc (.cells (bv (byt (y)) ++ bv (byt (t))) 36)
                have hk147 : Blocks ((v2.alloc (.cells #[.int .u8 0, .int .u8 0, .int .u8 0, .int .u8 0, .int .u8 0, .int .u8 0, .int .u8 0, .int .u8 0, .int .u8 0, .int .u8 0, .int .u8 0, .int .u8 0, .int .u8 0, .int .u8 0, .int .u8 0, .int .u8 0] 36)).alloc (.cells (bv (byt (y)) ++ bv (byt (t))) 36)) (some ⟨v2.heap.size + 1, 0, none⟩) 2 [y, t] := blocks_two _ _ _ _ (by first | rfl | simp | simp [World.setRow]) hyl htl
                refine hK.out _ _ (hS.alloc hS.size _) (fun hS => ?_)
                clear hK K
                simp only [Act.put, List.setIfInBounds_toArray, List.set_cons_zero, List.set_cons_succ]
                refine wpAnyH_ready (rs := [14]) (by kernel_rfl) (by simp) ?_
                refine (AllReadyH.cons (o := ⟨some 148, _, _, _, _, _⟩) rfl (fun K hK => ?_) AllReadyH.nil)
                rw [if_pos (by kernel_rfl)]
                go_simp
                refine (xor_two _ _ y t _ hk147).mono ?_
                rintro e v3 ⟨rfl, hq3⟩
                have ha18 := ha18.below hq3 ha18.lt
                have hk140 := hk140.below hq3
                have hk147 := hk147.below hq3
                have hqz3 := hq3.size
                refine hK.out _ _ (hS.trans (hq3.mono (by first | exact hS.size | (have := hS.size; simp at this ⊢; omega)))) (fun hS => ?_)
                clear hK K
                refine wpAnyH_ready (rs := [16]) (by kernel_rfl) (by simp) ?_
                refine (AllReadyH.cons (o := ⟨none, _, _, _, _, _⟩) rfl (fun K hK => ?_) AllReadyH.nil)
                rw [if_pos (by kernel_rfl)]
                refine wpo_store_arr (.tmp 18) (.tmp 148) rfl (v2.heap.size) (fun _ => 0) (byt (y ^^^ t)) rfl rfl ha18 ?_
                have ha18 := ha18.setRow (h := byt (y ^^^ t))
                refine hK.out _ _ (below_setRow hS (by have := hS.size; first | omega | (simp at *; omega) | (simp [setRow_size] at *; omega)) _) (fun hS => ?_)
                clear hK K
                simp only [Act.put]
                refine wpAnyH_done (by kernel_rfl) ?_ _
                go_wp2_with fail
                go_meet
                case rel => exact ⟨_, rfl, (by first | exact hg18 | omega | (simp; done) | (simp at *; omega)), ha18, hS⟩
            · rw [if_pos (by kernel_rfl)]
              go_simp
              have hk140 := hk140.alloc (.cells #[.int .u8 0, .int .u8 0, .int .u8 0, .int .u8 0, .int .u8 0, .int .u8 0, .int .u8 0, .int .u8 0, .int .u8 0, .int .u8 0, .int .u8 0, .int .u8 0, .int .u8 0, .int .u8 0, .int .u8 0, .int .u8 0] 36)
              have hg18 := hS.size
              have ha18 : Arr (v1.alloc (.cells #[.int .u8 0, .int .u8 0, .int .u8 0, .int .u8 0, .int .u8 0, .int .u8 0, .int .u8 0, .int .u8 0, .int .u8 0, .int .u8 0, .int .u8 0, .int .u8 0, .int .u8 0, .int .u8 0, .int .u8 0, .int .u8 0] 36)) (v1.heap.size) (fun _ => 0) := Arr.zero _ _ (by first | rfl | simp | simp [World.setRow])
              refine hK.out _ _ (hS.alloc hS.size _) (fun hS => ?_)
              clear hK K
              refine wpAnyH_ready (rs := [8]) (by kernel_rfl) (by simp) ?_
              refine (AllReadyH.cons (o := ⟨some 142, _, _, _, _, _⟩) rfl (fun K hK => ?_) AllReadyH.nil)
              rw [if_pos (by kernel_rfl)]
              go_simp
              refine (HF.out _ (hC8.below hS)).mono ?_
              rintro e v2 ⟨rfl, hq2⟩
              have ha18 := ha18.below hq2 ha18.lt
              have hk140 := hk140.below hq2
              have hqz2 := hq2.size
              refine hK.out _ _ (hS.trans (hq2.mono (by first | exact hS.size | (have := hS.size; simp at this ⊢; omega)))) (fun hS => ?_)
              clear hK K
              refine wpAnyH_ready (rs := [13]) (by kernel_rfl) (by simp) ?_
              refine (AllReadyH.cons (o := ⟨some 147, _, _, _, _, _⟩) rfl (fun K hK => ?_) AllReadyH.nil)
              rw [if_pos (by kernel_rfl)]
              refine wp_two (.tmp 142) (.tmp 146) rfl (byt (y)) (byt (t)) rfl rfl ?_
              have ha18 := ha18.alloc (.cells (bv (byt (y)) ++ bv (byt (t))) 36)
              have hk140 := hk140.alloc (.cells (bv (byt (y)) ++ bv (byt (t))) 36)
              have hk147 : Blocks (v2.alloc (.cells (bv (byt (y)) ++ bv (byt (t))) 36)) (some ⟨v2.heap.size, 0, none⟩) 2 [y, t] := blocks_two _ _ _ _ (by first | rfl | simp | simp [World.setRow]) hyl htl
              refine hK.out _ _ (hS.alloc hS.size _) (fun hS => ?_)
              clear hK K
              simp only [Act.put, List.setIfInBounds_toArray, List.set_cons_zero, List.set_cons_succ]
              refine wpAnyH_ready (rs := [14]) (by kernel_rfl) (by simp) ?_
              refine (AllReadyH.cons (o := ⟨some 148, _, _, _, _, _⟩) rfl (fun K hK => ?_) AllReadyH.nil)
              rw [if_pos (by kernel_rfl)]
              go_simp
              refine (xor_two _ _ y t _ hk147).mono ?_
              rintro e v3 ⟨rfl, hq3⟩
              have ha18 := ha18.below hq3 ha18.lt
              have hk140 := hk140.below hq3
              have hk147 := hk147.below hq3
              have hqz3 := hq3.size
              refine hK.out _ _ (hS.trans (hq3.mono (by first | exact hS.size | (have := hS.size; simp at this ⊢; omega)))) (fun hS => ?_)
              clear hK K
              refine wpAnyH_ready (rs := [16]) (by kernel_rfl) (by simp) ?_
              refine (AllReadyH.cons (o := ⟨none, _, _, _, _, _⟩) rfl (fun K hK => ?_) AllReadyH.nil)
              rw [if_pos (by kernel_rfl)]
              refine wpo_store_arr (.tmp 18) (.tmp 148) rfl (v1.heap.size) (fun _ => 0) (byt (y ^^^ t)) rfl rfl ha18 ?_
              have ha18 := ha18.setRow (h := byt (y ^^^ t))
              refine hK.out _ _ (below_setRow hS (by have := hS.size; first | omega | (simp at *; omega) | (simp [setRow_size] at *; omega)) _) (fun hS => ?_)
              clear hK K
              simp only [Act.put]
              refine wpAnyH_done (by kernel_rfl) ?_ _
              go_wp2_with fail
              go_meet
              case rel => exact ⟨_, rfl, (by first | exact hg18 | omega | (simp; done) | (simp at *; omega)), ha18, hS⟩
          · rw [if_pos (by kernel_rfl)]
            go_simp
            have hk140 := hk140.alloc (.cells #[.int .u8 0, .int .u8 0, .int .u8 0, .int .u8 0, .int .u8 0, .int .u8 0, .int .u8 0, .int .u8 0, .int .u8 0, .int .u8 0, .int .u8 0, .int .u8 0, .int .u8 0, .int .u8 0, .int .u8 0, .int .u8 0] 36)
            have hg18 := hS.size
            have ha18 : Arr ((w8.drew.alloc (.cells (bv (byt (x)) ++ bv (byt (t))) 36)).alloc (.cells #[.int .u8 0, .int .u8 0, .int .u8 0, .int .u8 0, .int .u8 0, .int .u8 0, .int .u8 0, .int .u8 0, .int .u8 0, .int .u8 0, .int .u8 0, .int .u8 0, .int .u8 0, .int .u8 0, .int .u8 0, .int .u8 0] 36)) (w8.heap.size + 1) (fun _ => 0) := Arr.zero _ _ (by first | rfl | simp | simp [World.setRow])
            refine hK.out _ _ (hS.alloc hS.size _) (fun hS => ?_)
            clear hK K
            refine wpAnyH_ready (rs := [7]) (by kernel_rfl) (by simp) ?_
            refine (AllReadyH.cons (o := ⟨some 141, _, _, _, _, _⟩) rfl (fun K hK => ?_) AllReadyH.nil)
            rw [if_pos (by kernel_rfl)]
            go_simp
            refine (xor_two _ _ x t _ hk140).mono ?_
            rintro e v1 ⟨rfl, hq1⟩
            have ha18 := ha18.below hq1 ha18.lt
            have hk140 := hk140.below hq1
            have hqz1 := hq1.size
            refine hK.out _ _ (hS.trans (hq1.mono (by first | exact hS.size | (have := hS.size; simp at this ⊢; omega)))) (fun hS => ?_)
            clear hK K
            refine wpAnyH_ready (rs := [8]) (by kernel_rfl) (by simp) ?_
            refine (AllReadyH.cons (o := ⟨some 142, _, _, _, _, _⟩) rfl (fun K hK => ?_) AllReadyH.nil)
            rw [if_pos (by kernel_rfl)]
            go_simp
            refine (HF.out _ (hC8.below hS)).mono ?_
            rintro e v2 ⟨rfl, hq2⟩
            have ha18 := ha18.below hq2 ha18.lt
            have hk140 := hk140.below hq2
            have hqz2 := hq2.size
            refine hK.out _ _ (hS.trans (hq2.mono (by first | exact hS.size | (have := hS.size; simp at this ⊢; omega)))) (fun hS => ?_)
            clear hK K
            refine wpAnyH_ready (rs := [13]) (by kernel_rfl) (by simp) ?_
            refine (AllReadyH.cons (o := ⟨some 147, _, _, _, _, _⟩) rfl (fun K hK => ?_) AllReadyH.nil)
            rw [if_pos (by kernel_rfl)]
            refine wp_two (.tmp 142) (.tmp 146) rfl (byt (y)) (byt (t)) rfl rfl ?_
            have ha18 := ha18.alloc (.cells (bv (byt (y)) ++ bv (byt (t))) 36)
            have hk140 := hk140.alloc (.cells (bv (byt (y)) ++ bv (byt (t))) 36)
            have hk147 : Blocks (v2.alloc (.cells (bv (byt (y)) ++ bv (byt (t))) 36)) (some ⟨v2.heap.size, 0, none⟩) 2 [y, t] := blocks_two _ _ _ _ (by first | rfl | simp | simp [World.setRow]) hyl htl
            refine hK.out _ _ (hS.alloc hS.size _) (fun hS => ?_)
            clear hK K
            simp only [Act.put, List.setIfInBounds_toArray, List.set_cons_zero, List.set_cons_succ]
            refine wpAnyH_ready (rs := [14]) (by kernel_rfl) (by simp) ?_
            refine (AllReadyH.cons (o := ⟨some 148, _, _, _, _, _⟩) rfl (fun K hK => ?_) AllReadyH.nil)
            rw [if_pos (by kernel_rfl)]
            go_simp
            refine (xor_two _ _ y t _ hk147).mono ?_
            rintro e v3 ⟨rfl, hq3⟩
            have ha18 := ha18.below hq3 ha18.lt
            have hk140 := hk140.below hq3
            have hk147 := hk147.below hq3
            have hqz3 := hq3.size
            refine hK.out _ _ (hS.trans (hq3.mono (by first | exact hS.size | (have := hS.size; simp at this ⊢; omega)))) (fun hS => ?_)
            clear hK K
            refine wpAnyH_ready (rs := [16]) (by kernel_rfl) (by simp) ?_
            refine (AllReadyH.cons (o := ⟨none, _, _, _, _, _⟩) rfl (fun K hK => ?_) AllReadyH.nil)
            rw [if_pos (by kernel_rfl)]
            refine wpo_store_arr (.tmp 18) (.tmp 148) rfl (w8.heap.size + 1) (fun _ => 0) (byt (y ^^^ t)) rfl rfl ha18 ?_
            have ha18 := ha18.setRow (h := byt (y ^^^ t))
            refine hK.out _ _ (below_setRow hS (by have := hS.size; first | omega | (simp at *; omega) | (simp [setRow_size] at *; omega)) _) (fun hS => ?_)
            clear hK K
            simp only [Act.put]
            refine wpAnyH_done (by kernel_rfl) ?_ _
            go_wp2_with fail
            go_meet
            case rel => exact ⟨_, rfl, (by first | exact hg18 | omega | (simp; done) | (simp at *; omega)), ha18, hS⟩
        · rw [if_pos (by kernel_rfl)]
          go_simp
          have hg18 := hS.size
          have ha18 : Arr (w8.drew.alloc (.cells #[.int .u8 0, .int .u8 0, .int .u8 0, .int .u8 0, .int .u8 0, .int .u8 0, .int .u8 0, .int .u8 0, .int .u8 0, .int .u8 0, .int .u8 0, .int .u8 0, .int .u8 0, .int .u8 0, .int .u8 0, .int .u8 0] 36)) (w8.heap.size) (fun _ => 0) := Arr.zero _ _ (by first | rfl | simp | simp [World.setRow])
          refine hK.out _ _ (hS.alloc hS.size _) (fun hS => ?_)
          clear hK K
          refine wpAnyH_ready (rs := [6]) (by kernel_rfl) (by simp) ?_
          refine (AllReadyH.cons (o := ⟨some 140, _, _, _, _, _⟩) rfl (fun K hK => ?_) AllReadyH.nil)
          rw [if_pos (by kernel_rfl)]
          refine wp_two (.tmp 135) (.tmp 139) rfl (byt (x)) (byt (t)) rfl rfl ?_
          have ha18 := ha18.alloc (.cells (bv (byt (x)) ++ bv (byt (t))) 36)
          have hk140 : Blocks ((w8.drew.alloc (.cells #[.int .u8 0, .int .u8 0, .int .u8 0, .int .u8 0, .int .u8 0, .int .u8 0, .int .u8 0, .int .u8 0, .int .u8 0, .int .u8 0, .int .u8 0, .int .u8 0, .int .u8 0, .int .u8 0, .int .u8 0, .int .u8 0] 36)).alloc (.cells (bv (byt (x)) ++ bv (byt (t))) 36)) (some ⟨w8.heap.size + 1, 0, none⟩) 2 [x, t] := blocks_two _ _ _ _ (by first | rfl | simp | simp [World.setRow]) hxl htl
          refine hK.out _ _ (hS.alloc hS.size _) (fun hS => ?_)
          clear hK K
          simp only [Act.put, List.setIfInBounds_toArray, List.set_cons_zero, List.set_cons_succ]
          refine wpAnyH_ready (rs := [7]) (by kernel_rfl) (by simp) ?_
          refine (AllReadyH.cons (o := ⟨some 141, _, _, _, _, _⟩) rfl (fun K hK => ?_) AllReadyH.nil)
          rw [if_pos (by kernel_rfl)]
          go_simp
          refine (xor_two _ _ x t _ hk140).mono ?_
          rintro e v1 ⟨rfl, hq1⟩
          have ha18 := ha18.below hq1 ha18.lt
          have hk140 := hk140.below hq1
          have hqz1 := hq1.size
          refine hK.out _ _ (hS.trans (hq1.mono (by first | exact hS.size | (have := hS.size; simp at this ⊢; omega)))) (fun hS => ?_)
          clear hK K
          refine wpAnyH_ready (rs := [8]) (by kernel_rfl) (by simp) ?_
          refine (AllReadyH.cons (o := ⟨some 142, _, _, _, _, _⟩) rfl (fun K hK => ?_) AllReadyH.nil)
          rw [if_pos (by kernel_rfl)]
          go_simp
          refine (HF.out _ (hC8.below hS)).mono ?_
          rintro e v2 ⟨rfl, hq2⟩
          have ha18 := ha18.below hq2 ha18.lt
          have hk140 := hk140.below hq2
          have hqz2 := hq2.size
          refine hK.out _ _ (hS.trans (hq2.mono (by first | exact hS.size | (have := hS.size; simp at this ⊢; omega)))) (fun hS => ?_)
          clear hK K
          refine wpAnyH_ready (rs := [13]) (by kernel_rfl) (by simp) ?_
          refine (AllReadyH.cons (o := ⟨some 147, _, _, _, _, _⟩) rfl (fun K hK => ?_) AllReadyH.nil)
          rw [if_pos (by kernel_rfl)]
          refine wp_two (.tmp 142) (.tmp 146) rfl (byt (y)) (byt (t)) rfl rfl ?_
          have ha18 := ha18.alloc (.cells (bv (byt (y)) ++ bv (byt (t))) 36)
          have hk140 := hk140.alloc (.cells (bv (byt (y)) ++ bv (byt (t))) 36)
          have hk147 : Blocks (v2.alloc (.cells (bv (byt (y)) ++ bv (byt (t))) 36)) (some ⟨v2.heap.size, 0, none⟩) 2 [y, t] := blocks_two _ _ _ _ (by first | rfl | simp | simp [World.setRow]) hyl htl
          refine hK.out _ _ (hS.alloc hS.size _) (fun hS => ?_)
          clear hK K
          simp only [Act.put, List.setIfInBounds_toArray, List.set_cons_zero, List.set_cons_succ]
          refine wpAnyH_ready (rs := [14]) (by kernel_rfl) (by simp) ?_
          refine (AllReadyH.cons (o := ⟨some 148, _, _, _, _, _⟩) rfl (fun K hK => ?_) AllReadyH.nil)
          rw [if_pos (by kernel_rfl)]
          go_simp
          refine (xor_two _ _ y t _ hk147).mono ?_
          rintro e v3 ⟨rfl, hq3⟩
          have ha18 := ha18.below hq3 ha18.lt
          have hk140 := hk140.below hq3
          have hk147 := hk147.below hq3
          have hqz3 := hq3.size
          refine hK.out _ _ (hS.trans (hq3.mono (by first | exact hS.size | (have := hS.size; simp at this ⊢; omega)))) (fun hS => ?_)
          clear hK K
          refine wpAnyH_ready (rs := [16]) (by kernel_rfl) (by simp) ?_
          refine (AllReadyH.cons (o := ⟨none, _, _, _, _, _⟩) rfl (fun K hK => ?_) AllReadyH.nil)
          rw [if_pos (by kernel_rfl)]
          refine wpo_store_arr (.tmp 18) (.tmp 148) rfl (w8.heap.size) (fun _ => 0) (byt (y ^^^ t)) rfl rfl ha18 ?_
          have ha18 := ha18.setRow (h := byt (y ^^^ t))
          refine hK.out _ _ (below_setRow hS (by have := hS.size; first | omega | (simp at *; omega) | (simp [setRow_size] at *; omega)) _) (fun hS => ?_)
          clear hK K
          simp only [Act.put]
          refine wpAnyH_done (by kernel_rfl) ?_ _
          go_wp2_with fail
          go_meet
          case rel => exact ⟨_, rfl, (by first | exact hg18 | omega | (simp; done) | (simp at *; omega)), ha18, hS⟩
      case rest =>
        obtain ⟨g18, rfl, hg18, hA18, hb9⟩ := hcut
        have hB9 := hB.trans ((hB8.trans (hb9.mono hB8.size)).mono hB.size)
        have hTb9 := hTb8.below hb9
        have hA15w := hA15.below hB9 hA15.lt
        have HP : Box (∀ w', Below wc.heap.size wc w' → Bytes w' (some (ad1.add q)) 16 (listB (byt (y ^^^ t)))) := ⟨fun w' h => by
          have h2 := ((hO1.rd.below hB9).below h).part (q := q) (by omega)
          rwa [HQ.out, xtL_part false k1 k2 u d hi2, HXB.out, ← HQ.out] at h2⟩
        clear hB8 hb9 hTb8 hC8 hA17 HF
        go_wp2_with fail
        refine wp_region_held_drew (S := fun w' => Below wc.heap.size wc w') (by kernel_rfl) (Below.refl _ _).drew (fun hS => ?_)
        refine wpAnyH_take (i := 0) (oi := ⟨some 149, _, _, _, _, _⟩) (v := .slice (some ⟨tb, ot, none⟩) nb ct) rfl (by kernel_rfl) (by kernel_rfl) (by kernel_rfl) (fun _ _ _ h => h) (Or.inl ⟨by kernel_rfl, fun w' hSw => ?_⟩) hS ?_
        · go_simp
        simp only [Act.put, List.setIfInBounds_toArray, List.set_cons_zero, List.set_cons_succ]
        refine wpAnyH_take (i := 1) (oi := ⟨some 150, _, _, _, _, _⟩) (v := .int .i64 (i : Int)) rfl (by kernel_rfl) (by kernel_rfl) (by kernel_rfl) (fun _ _ _ h => h) (Or.inl ⟨by kernel_rfl, fun w' hSw => ?_⟩) hS ?_
        · go_simp
        simp only [Act.put, List.setIfInBounds_toArray, List.set_cons_zero, List.set_cons_succ]
        refine wpAnyH_take (i := 2) (oi := ⟨some 151, _, _, _, _, _⟩) (v := .pointer (some ⟨tb, ot + i * 16, none⟩)) rfl (by kernel_rfl) (by kernel_rfl) (by kernel_rfl) (fun _ _ _ h => h) (Or.inl ⟨by kernel_rfl, fun w' hSw => ?_⟩) hS ?_
        · go_simp
        simp only [Act.put, List.setIfInBounds_toArray, List.set_cons_zero, List.set_cons_succ]
        refine wpAnyH_take (i := 3) (oi := ⟨some 152, _, _, _, _, _⟩) (v := .agg (bv (byt (t)))) rfl (by kernel_rfl) (by kernel_rfl) (by kernel_rfl) (fun _ _ _ h => h) (yields_arr_at (by kernel_rfl) (.tmp 151) rfl (⟨tb, ot + i * 16, none⟩) (byt (t)) rfl (fun w' h j hj => (hTb9.below h).cellAt hi2 HTD.out hj)) hS ?_
        simp only [Act.put, List.setIfInBounds_toArray, List.set_cons_zero, List.set_cons_succ]
        refine wpAnyH_take (i := 4) (oi := ⟨some 153, _, _, _, _, _⟩) (v := .agg (bv (byt t0))) rfl (by kernel_rfl) (by kernel_rfl) (by kernel_rfl) (fun _ _ _ h => h) (yields_arr (by kernel_rfl) (.tmp 15) rfl (g15) (byt t0) rfl fun w' h => hA15w.below h hA15w.lt) hS ?_
        simp only [Act.put, List.setIfInBounds_toArray, List.set_cons_zero, List.set_cons_succ]
        refine wpAnyH_take (i := 5) (oi := ⟨some 154, _, _, _, _, _⟩) (v := .int .i64 (i : Int)) rfl (by kernel_rfl) (by kernel_rfl) (by kernel_rfl) (fun _ _ _ h => h) (Or.inl ⟨by kernel_rfl, fun w' hSw => ?_⟩) hS ?_
        · go_simp
        simp only [Act.put, List.setIfInBounds_toArray, List.set_cons_zero, List.set_cons_succ]
        refine wpAnyH_ready (rs := [6]) (by kernel_rfl) (by simp) ?_
        refine (AllReadyH.cons (o := ⟨some 155, _, _, _, _, _⟩) rfl (fun K hK => ?_) AllReadyH.nil)
        rw [if_pos (by kernel_rfl)]
        go_simp
        refine (HTM.out _).mono ?_
        rintro e v1 ⟨rfl, hq1⟩
        have hqz1 := hq1.size
        refine hK.out _ _ (hS.trans (hq1.mono (by first | exact hS.size | (have := hS.size; simp at this ⊢; omega)))) (fun hS => ?_)
        clear hK K
        refine wpAnyH_take (i := 7) (oi := ⟨some 156, _, _, _, _, _⟩) (v := .bool false) rfl (by kernel_rfl) (by kernel_rfl) (by kernel_rfl) (fun _ _ _ h => h) (yields_neB (by kernel_rfl) (.tmp 152) (.tmp 155) rfl (byt t) (byt t) _ (eqB_self _) rfl rfl) hS ?_
        simp only [Act.put, List.setIfInBounds_toArray, List.set_cons_zero, List.set_cons_succ]
        refine wpAnyH_take (i := 8) (oi := ⟨some 157, _, _, _, _, _⟩) (v := .bool false) rfl (by kernel_rfl) (by kernel_rfl) (by kernel_rfl) (fun _ _ _ h => h) (Or.inl ⟨by kernel_rfl, fun w' hSw => ?_⟩) hS ?_
        · go_simp
        simp only [Act.put, List.setIfInBounds_toArray, List.set_cons_zero, List.set_cons_succ]
        refine wpAnyH_take (i := 9) (oi := ⟨some 158, _, _, _, _, _⟩) (v := .slice (some ⟨g18, 0, none⟩) 16 16) rfl (by kernel_rfl) (by kernel_rfl) (by kernel_rfl) (fun _ _ _ h => h) (Or.inl ⟨by kernel_rfl, fun w' hSw => ?_⟩) hS ?_
        · go_simp
        simp only [Act.put, List.setIfInBounds_toArray, List.set_cons_zero, List.set_cons_succ]
        refine wpAnyH_take (i := 10) (oi := ⟨some 159, _, _, _, _, _⟩) (v := .string (strL (listB (byt (y ^^^ t))))) rfl (by kernel_rfl) (by kernel_rfl) (by kernel_rfl) (fun _ _ _ h => h) (yields_str (by kernel_rfl) (.tmp 158) rfl (some ⟨g18, 0, none⟩) (16) (16) (listB (byt (y ^^^ t))) rfl (fun w' h => (hA18.below h hA18.lt).bytes (Twk.byt_lt _))) hS ?_
        simp only [Act.put, List.setIfInBounds_toArray, List.set_cons_zero, List.set_cons_succ]
        refine wpAnyH_take (i := 11) (oi := ⟨some 160, _, _, _, _, _⟩) (v := .slice (some ad1) m d1) rfl (by kernel_rfl) (by kernel_rfl) (by kernel_rfl) (fun _ _ _ h => h) (Or.inl ⟨by kernel_rfl, fun w' hSw => ?_⟩) hS ?_
        · go_simp
        simp only [Act.put, List.setIfInBounds_toArray, List.set_cons_zero, List.set_cons_succ]
        refine wpAnyH_take (i := 12) (oi := ⟨some 161, _, _, _, _, _⟩) (v := .int .i64 (i : Int)) rfl (by kernel_rfl) (by kernel_rfl) (by kernel_rfl) (fun _ _ _ h => h) (Or.inl ⟨by kernel_rfl, fun w' hSw => ?_⟩) hS ?_
        · go_simp
        simp only [Act.put, List.setIfInBounds_toArray, List.set_cons_zero, List.set_cons_succ]
        refine wpAnyH_take (i := 13) (oi := ⟨some 162, _, _, _, _, _⟩) (v := .int .i64 (q : Int)) rfl (by kernel_rfl) (by kernel_rfl) (by kernel_rfl) (fun _ _ _ h => h) (Or.inl ⟨by kernel_rfl, fun w' hSw => ?_⟩) hS ?_
        · (go_simp; rw [show 16 * (i : Int) = (q : Int) by have := HQ.out; omega]; exact IntWalk.i64_in _ (by omega))
        simp only [Act.put, List.setIfInBounds_toArray, List.set_cons_zero, List.set_cons_succ]
        refine wpAnyH_take (i := 14) (oi := ⟨some 163, _, _, _, _, _⟩) (v := .int .i64 (i : Int)) rfl (by kernel_rfl) (by kernel_rfl) (by kernel_rfl) (fun _ _ _ h => h) (Or.inl ⟨by kernel_rfl, fun w' hSw => ?_⟩) hS ?_
        · go_simp
        simp only [Act.put, List.setIfInBounds_toArray, List.set_cons_zero, List.set_cons_succ]
        refine wpAnyH_take (i := 15) (oi := ⟨some 164, _, _, _, _, _⟩) (v := .int .i64 (q : Int)) rfl (by kernel_rfl) (by kernel_rfl) (by kernel_rfl) (fun _ _ _ h => h) (Or.inl ⟨by kernel_rfl, fun w' hSw => ?_⟩) hS ?_
        · (go_simp; rw [show 16 * (i : Int) = (q : Int) by have := HQ.out; omega]; exact IntWalk.i64_in _ (by omega))
        simp only [Act.put, List.setIfInBounds_toArray, List.set_cons_zero, List.set_cons_succ]
        refine wpAnyH_take (i := 16) (oi := ⟨some 165, _, _, _, _, _⟩) (v := .int .i64 (q2 : Int)) rfl (by kernel_rfl) (by kernel_rfl) (by kernel_rfl) (fun _ _ _ h => h) (Or.inl ⟨by kernel_rfl, fun w' hSw => ?_⟩) hS ?_
        · (go_simp; rw [show (q : Int) + 16 = (q2 : Int) by have := HQ2.out; omega]; exact IntWalk.i64_in _ (by omega))
        simp only [Act.put, List.setIfInBounds_toArray, List.set_cons_zero, List.set_cons_succ]
        refine wpAnyH_take (i := 17) (oi := ⟨some 166, _, _, _, _, _⟩) (v := .slice (some (ad1.add q)) 16 (d1 - q)) rfl (by kernel_rfl) (by kernel_rfl) (by kernel_rfl) (fun _ _ _ h => h) (Or.inl ⟨by kernel_rfl, fun w' hSw => ?_⟩) hS ?_
        · go_simp
        simp only [Act.put, List.setIfInBounds_toArray, List.set_cons_zero, List.set_cons_succ]
        refine wpAnyH_take (i := 18) (oi := ⟨some 167, _, _, _, _, _⟩) (v := .string (strL (listB (byt (y ^^^ t))))) rfl (by kernel_rfl) (by kernel_rfl) (by kernel_rfl) (fun _ _ _ h => h) (yields_str (by kernel_rfl) (.tmp 166) rfl (some (ad1.add q)) (16) (d1 - q) (listB (byt (y ^^^ t))) rfl (fun w' h => HP.out w' h)) hS ?_
        simp only [Act.put, List.setIfInBounds_toArray, List.set_cons_zero, List.set_cons_succ]
        refine wpAnyH_take (i := 19) (oi := ⟨some 168, _, _, _, _, _⟩) (v := .bool false) rfl (by kernel_rfl) (by kernel_rfl) (by kernel_rfl) (fun _ _ _ h => h) (yields_strNe (by kernel_rfl) (.tmp 159) (.tmp 167) rfl (strL (listB (byt (y ^^^ t)))) (strL (listB (byt (y ^^^ t)))) _ (decide_eq_true rfl) rfl rfl) hS ?_
        simp only [Act.put, List.setIfInBounds_toArray, List.set_cons_zero, List.set_cons_succ]
        refine wpAnyH_take (i := 20) (oi := ⟨some 169, _, _, _, _, _⟩) (v := .bool false) rfl (by kernel_rfl) (by kernel_rfl) (by kernel_rfl) (fun _ _ _ h => h) (Or.inl ⟨by kernel_rfl, fun w' hSw => ?_⟩) hS ?_
        · go_simp
        simp only [Act.put, List.setIfInBounds_toArray, List.set_cons_zero, List.set_cons_succ]
        refine wpAnyH_done (by kernel_rfl) ?_ _
        go_wp2_with fail
        go_roundw
        case rel => exact ⟨i + 1, by go_num, by omega, hB9.trans (hS.mono hB9.size)⟩
        case measure => simp [intOf]; omega
set_option maxRecDepth 100000 in
set_option maxHeartbeats 8000000 in
theorem xpar_in64 (ad0 : Addr) (c : Nat) (l : List Nat) (u : Nat) (B : Option Addr) (m c1 : Nat) (d : List Nat) (w : World) (hl : Bytes w (some ad0) 64 l) (hc : 64 ≤ c) (hd : Bytes w B m d) (hc1 : m ≤ c1) (p2 : (u : Int) ≤ 1099511627776) (p4 : ((m : Int) % 16 != 0) = false) (p5 : m ≤ 400) (hM : MayX 64 (u : Int)) (hm16 : m % 16 = 0) :
    Calls Try.prog 29 #[.slice (some ad0) 64 c, .int .i64 (u : Int), .slice B m c1] w fun e w' => e = .returned (.bool true) ∧ Below w.heap.size w w' := by
  obtain ⟨nb, hnb⟩ : ∃ nb, m / 16 = nb := ⟨_, rfl⟩
  have HNB : Box (m = 16 * nb) := ⟨by omega⟩
  have hni : (m : Int) / 16 = (nb : Int) := by omega
  have hnbl : nb ≤ 25 := by omega
  have hu : u < 9223372036854775808 := by omega
  have hl16 : MayK (half1 l).length := half1_may (by rw [hl.1]; exact hM.1)
  have hl16b : MayK (half2 l).length := half2_may (by rw [hl.1]; exact hM.1)
  have HXE : Box (∀ (w : World), Bytes w (some ad0) 64 l → Bytes w B m d → Calls Try.prog 69 #[.slice (some ad0) 64 c, .int .i64 (u : Int), .slice B m c1] w (RetRow (xtL false (half1 l) (half2 l) u d nb) m w)) := ⟨fun w h1 h2 => by
    have h6 := (xenc_yes (some ad0) 64 c l u B m c1 d w h1 hc h2 hc1 ⟨hM, hm16, by omega⟩).mono fun e w' hq => hq.ret (m := m) (by omega)
    rwa [hnb] at h6⟩
  have HXT : Box (∀ (w : World), Bytes w (some ad0) 64 l → Calls Try.prog 72 #[.slice (some ad0) 64 c, .int .i64 (u : Int), .int .i64 (nb : Int)] w (RetBlk (twL (half2 l) u nb) nb w)) := ⟨fun w h => (tweaks_yes (some ad0) 64 c l u nb w h hc hM (by omega)).mono fun e w' hq => hq.ret⟩
  have HN1 : Box (∀ (w : World), Bytes w (some ad0) 64 l → Calls Try.prog 59 #[.slice (some ad0) 32 c] w fun e w' => NewQ (half1 l) w e w') := ⟨fun w h => by
    have e1 : half1 l = l.take 32 := by unfold half1; rw [hl.1]
    rw [e1]
    exact new_any _ 32 c (l.take 32) _ (h.take (by decide)) (by omega) (by decide)⟩
  have HN2 : Box (∀ (w : World), Bytes w (some ad0) 64 l → Calls Try.prog 59 #[.slice (some ⟨ad0.block, ad0.off + 32, none⟩) 32 (c - 32)] w fun e w' => NewQ (half2 l) w e w') := ⟨fun w h => by
    have e1 : half2 l = l.drop 32 := by unfold half2; rw [hl.1]
    rw [e1]
    have h2 := h.drop (h := 32) (by decide)
    rw [add_lit _ _ (by decide)] at h2
    exact new_any _ 32 (c - 32) (l.drop 32) _ h2 (by omega) (by decide)⟩
  have HNU : Box (∀ w, Calls Try.prog 45 #[.int .i64 (u : Int)] w fun e w' => e = .returned (.agg (bv (byt u))) ∧ Below w.heap.size w w') := ⟨fun w => number_nat u hu w⟩
  have hne : (c = 32) = False := by simp; omega
  generalize half1 l = k1 at HXE HN1 hl16
  generalize half2 l = k2 at HXE HXT HN2 hl16b
  have HF0 : Box (∀ (C x : Nat) (w : World), Ciph w C (words k1) → Calls Try.prog 61 #[.pointer (some ⟨C, 0, none⟩), .agg (bv (byt x))] w fun e w' => e = .returned (.agg (bv (byt (encN k1 x)))) ∧ Below w.heap.size w w') := ⟨fun C x w h => encN_any C k1 x hl16 w h⟩
  have HG : Box (∀ (D : Nat) (w : World), Ciph w D (words k2) → Calls Try.prog 61 #[.pointer (some ⟨D, 0, none⟩), .agg (bv (byt u))] w fun e w' => e = .returned (.agg (bv (byt (encN k2 u)))) ∧ Below w.heap.size w w') := ⟨fun D w h => encN_any D k2 u hl16b w h⟩
  have HT0 : Box (∀ i, twN k2 u i = up (encN k2 u) i) := ⟨fun i => rfl⟩
  have ht0 : encN k2 u < 2 ^ 128 := encN_lt _ _
  obtain ⟨t0, ht0e⟩ : ∃ t0, encN k2 u = t0 := ⟨_, rfl⟩
  rw [ht0e] at HG HT0 ht0
  clear hnb hl16 hl16b hM hu ht0e
  go_enter Try.func29, Try.ntmps29
  go_wp2_with fail
  refine (HN1.out _ hl).mono ?_
  rintro e w1 ⟨C, rfl, hC, hb1, _⟩
  go_wp2_with fail
  refine (HN2.out _ (hl.below hb1)).mono ?_
  rintro e w2 ⟨D, rfl, hD, hb2, _⟩
  have hC := hC.below hb2
  have hw2 := hb1.trans (hb2.mono hb1.size)
  clear hb1 hb2 HN1 HN2
  go_wp2_with fail
  refine (HXE.out _ (hl.below hw2) (hd.below hw2)).mono ?_
  rintro e w3 ⟨A1, d1, rfl, hO1, hC1, hb3⟩
  have hC := hC.below hb3
  have hD := hD.below hb3
  have hw3 := hw2.trans (hb3.mono hw2.size)
  clear hb3 hw2 HXE
  go_wp2_with fail
  refine (HXT.out _ (hl.below hw3)).mono ?_
  rintro e w4 ⟨At, ct, rfl, hT, hb4⟩
  have hO1 := hO1.below hb4 (Nat.le_refl _)
  have hC := hC.below hb4
  have hD := hD.below hb4
  have hw4 := hw3.trans (hb4.mono hw3.size)
  clear hb4 hw3 HXT hl
  go_wp2_with fail
  refine (HNU.out _).mono ?_
  rintro e w5 ⟨rfl, hb5⟩
  go_wp2_with fail
  refine (HG.out D _ (hD.below hb5)).mono ?_
  rintro e w6 ⟨rfl, hb6⟩
  have hb6 := hb5.trans (hb6.mono hb5.size)
  have hO1 := hO1.below hb6 (Nat.le_refl _)
  have hC := hC.below hb6
  have hT := hT.below hb6 (Nat.le_refl _)
  have hw6 := hw4.trans (hb6.mono hw4.size)
  clear hb5 hb6 hw4 hD HNU HG
  go_wp2_with (first
      | ((with_reducible show wpList _ _ _ (⟨_, Op.store 36 (.tmp 15) (.tmp 119), _, _, _, _⟩ :: _) _ _); refine wp_store_arr rfl (.tmp 15) (.tmp 119) rfl (w6.heap.size) (fun _ => 0) (byt t0) rfl rfl (Arr.zero _ _ rfl) ?_))
  have hA15 : Arr ((w6.alloc (.cells #[.int .u8 0, .int .u8 0, .int .u8 0, .int .u8 0, .int .u8 0, .int .u8 0, .int .u8 0, .int .u8 0, .int .u8 0, .int .u8 0, .int .u8 0, .int .u8 0, .int .u8 0, .int .u8 0, .int .u8 0, .int .u8 0] 36)).setRow w6.heap.size (bv (byt t0))) w6.heap.size (byt t0) := (Arr.zero _ _ rfl).setRow
  have hbW : Below w6.heap.size w6 ((w6.alloc (.cells #[.int .u8 0, .int .u8 0, .int .u8 0, .int .u8 0, .int .u8 0, .int .u8 0, .int .u8 0, .int .u8 0, .int .u8 0, .int .u8 0, .int .u8 0, .int .u8 0, .int .u8 0, .int .u8 0, .int .u8 0, .int .u8 0] 36)).setRow w6.heap.size (bv (byt t0))) := below_setRow ((Below.refl _ _).alloc (Nat.le_refl _) _) (Nat.le_refl _) _
  revert hA15 hbW
  generalize ((w6.alloc (.cells #[.int .u8 0, .int .u8 0, .int .u8 0, .int .u8 0, .int .u8 0, .int .u8 0, .int .u8 0, .int .u8 0, .int .u8 0, .int .u8 0, .int .u8 0, .int .u8 0, .int .u8 0, .int .u8 0, .int .u8 0, .int .u8 0] 36)).setRow w6.heap.size (bv (byt t0))) = w5
  intro hA15 hbW
  have hO1 := hO1.below hbW (Nat.le_refl _)
  have hC := hC.below hbW
  have hT := hT.below hbW (Nat.le_refl _)
  have hw5 := hw6.trans (hbW.mono hw6.size)
  obtain ⟨g15, hg15⟩ : ∃ g, g = w6.heap.size := ⟨_, rfl⟩
  rw [← hg15] at hA15 ⊢
  clear hbW hw6 hg15
  obtain ⟨At', ct', hvt, hTb⟩ := hT.blocks
  rw [twL_len] at hvt hTb
  injection hvt with hv1 hv2 hv3
  subst hv1
  clear hv2 hv3 hT
  have hd5 := hd.below hw5
  clear hd
  go_wp2_with fail
  go_loopw [16, 17, 18] (fun i _a _b wr => ∃ (i' : Nat), i = .int .i64 (i' : Int) ∧ i' ≤ nb ∧ Below w5.heap.size w5 wr) (fun i _ _ _ => nb - (intOf i).toNat)
  case atStart => exact ⟨0, rfl, by omega, Below.refl _ _⟩
  case round =>
    obtain ⟨i, rfl, hi, hB⟩ := hrel
    by_cases hin : i = nb
    · subst hin
      go_wp2_with fail
      refine (awake8 _).mono ?_
      rintro e w' ⟨rfl, hbel⟩
      go_wp2_with fail
      go_ret
      exact ⟨rfl, (hw5.trans (hB.mono hw5.size)).trans (hbel.mono (by have := hw5.size; have := hB.size; omega))⟩
    · have hi2 : i < nb := by omega
      clear hin
      have hm0 : 0 < m := by have := HNB.out; omega
      obtain ⟨ad, hBe, _⟩ := hd5.2.2.2 hm0
      subst hBe
      obtain ⟨ad1, hA1, _⟩ := hO1.rd.2.2.2 hm0
      subst hA1
      obtain ⟨tb, ot, t, hAt, htd, htl, _, hr⟩ := (hTb.below hB).at_ hi2
      subst hAt
      rw [twL_get _ _ hi2] at htd
      obtain ⟨q, hq⟩ : ∃ q, q = 16 * i := ⟨_, rfl⟩
      obtain ⟨q2, hq2⟩ : ∃ q2, q2 = q + 16 := ⟨_, rfl⟩
      have HQ := Box.mk hq
      have HQ2 := Box.mk hq2
      have hqm : q2 ≤ m := by have := HNB.out; omega
      have hqd : q2 - q = 16 := by omega
      have q0 : (0 : Int) ≤ (q : Int) := by omega
      have q1 : (q : Int) ≤ (q2 : Int) := by omega
      have q3 : (q2 : Int) ≤ (d1 : Int) := by omega
      have q4 : (q2 : Int) ≤ (c1 : Int) := by omega
      have ne1 : (d1 = q) = False := by simp; omega
      have ne7 : (c1 = q) = False := by simp; omega
      have hdl := hd5.2.2.1
      obtain ⟨x, hx⟩ : ∃ x, datN d i = x := ⟨_, rfl⟩
      have hxl : x < 2 ^ 128 := by rw [← hx]; exact datN_lt hdl i
      obtain ⟨y, hy⟩ : ∃ y, encN k1 (x ^^^ t) = y := ⟨_, rfl⟩
      have hyl : y < 2 ^ 128 := by rw [← hy]; exact encN_lt _ _
      have HBK : Box (∀ cc w, Bytes w (some (ad.add q)) 16 ((d.drop q).take 16) → Calls Try.prog 38 #[.slice (some (ad.add q)) 16 cc] w fun e w' => e = .returned (.agg (bv (byt x))) ∧ Below w.heap.size w w') := ⟨fun cc w h => by
        have h1 := block_walk (some (ad.add q)) 16 cc _ w h
        rwa [hq, part_dat hdl i, hx, ← hq] at h1⟩
      have HF : Box (∀ (w : World), Ciph w C (words k1) → Calls Try.prog 61 #[.pointer (some ⟨C, 0, none⟩), .agg (bv (byt (x ^^^ t)))] w fun e w' => e = .returned (.agg (bv (byt y))) ∧ Below w.heap.size w w') := ⟨fun w h => by
        have h1 := HF0.out C (x ^^^ t) w h
        rwa [hy] at h1⟩
      have HTM : Box (∀ w, Calls Try.prog 43 #[.agg (bv (byt t0)), .int .i64 (i : Int)] w fun e w' => e = .returned (.agg (bv (byt t))) ∧ Below w.heap.size w w') := ⟨fun w => by
        have h1 := timesB_up t0 (i := i) ht0 (by omega) w
        rwa [← HT0.out i, htd] at h1⟩
      have HXB : Box (xtB false k1 k2 u d i = y ^^^ t) := ⟨by rw [xtB_forth, hx, htd, hy]⟩
      have hdw := (hd5.below hB).part (q := q) (by omega)
      have hq400 : q ≤ 400 := by omega
      have hq416 : q2 ≤ 416 := by omega
      have hi400 : i ≤ 400 := by omega
      have HTD : Box ((twL k2 u nb).getD i 0 = t) := ⟨by rw [twL_get _ _ hi2]; exact htd⟩
      have hTbw := hTb.below hB
      clear hq hq2 hx hy htd hr
      go_wp2_with fail
      rw [← HQ.out]
      refine (HBK.out _ _ hdw).mono ?_
      rintro e w7 ⟨rfl, hb7⟩
      go_upto_region 16 with (first
          | ((with_reducible show wpList _ _ _ (⟨_, Op.store 36 (.tmp 17) (.tmp 133), _, _, _, _⟩ :: _) _ _); refine wp_store_arr rfl (.tmp 17) (.tmp 133) rfl (w7.heap.size) (fun _ => 0) (byt x) rfl rfl (Arr.zero _ _ rfl) ?_))
      have hA17 : Arr ((w7.alloc (.cells #[.int .u8 0, .int .u8 0, .int .u8 0, .int .u8 0, .int .u8 0, .int .u8 0, .int .u8 0, .int .u8 0, .int .u8 0, .int .u8 0, .int .u8 0, .int .u8 0, .int .u8 0, .int .u8 0, .int .u8 0, .int .u8 0] 36)).setRow w7.heap.size (bv (byt x))) w7.heap.size (byt x) := (Arr.zero _ _ rfl).setRow
      have hbX : Below w7.heap.size w7 ((w7.alloc (.cells #[.int .u8 0, .int .u8 0, .int .u8 0, .int .u8 0, .int .u8 0, .int .u8 0, .int .u8 0, .int .u8 0, .int .u8 0, .int .u8 0, .int .u8 0, .int .u8 0, .int .u8 0, .int .u8 0, .int .u8 0, .int .u8 0] 36)).setRow w7.heap.size (bv (byt x))) := below_setRow ((Below.refl _ _).alloc (Nat.le_refl _) _) (Nat.le_refl _) _
      revert hA17 hbX
      generalize ((w7.alloc (.cells #[.int .u8 0, .int .u8 0, .int .u8 0, .int .u8 0, .int .u8 0, .int .u8 0, .int .u8 0, .int .u8 0, .int .u8 0, .int .u8 0, .int .u8 0, .int .u8 0, .int .u8 0, .int .u8 0, .int .u8 0, .int .u8 0] 36)).setRow w7.heap.size (bv (byt x))) = w8
      intro hA17 hbX
      have hB8 := hb7.trans (hbX.mono hb7.size)
      have hC8 := (hC.below hB).below hB8
      have hTb8 := hTbw.below hB8
      clear hbX hb7 hTbw HBK hdw
      simp only [Act.put]
      go_cut [18] from 134 to 148 (fun p wx => NewArr w8 w8.heap.size (byt (y ^^^ t)) p wx)
      case first =>
        refine wp_region_held_drew (S := fun w' => Below w8.heap.size w8 w') (by kernel_rfl) (Below.refl _ _).drew (fun hS => ?_)
        refine wpAnyH_take (i := 0) (oi := ⟨some 134, _, _, _, _, _⟩) (v := .pointer (some ⟨C, 0, none⟩)) rfl (by kernel_rfl) (by kernel_rfl) (by kernel_rfl) (fun _ _ _ h => h) (Or.inl ⟨by kernel_rfl, fun w' hSw => ?_⟩) hS ?_
        · go_simp
        simp only [Act.put, List.setIfInBounds_toArray, List.set_cons_zero, List.set_cons_succ]
        refine wpAnyH_take (i := 1) (oi := ⟨some 135, _, _, _, _, _⟩) (v := .agg (bv (byt x))) rfl (by kernel_rfl) (by kernel_rfl) (by kernel_rfl) (fun _ _ _ h => h) (yields_arr (by kernel_rfl) (.tmp 17) rfl (w7.heap.size) (byt x) rfl fun w' h => hA17.below h hA17.lt) hS ?_
        simp only [Act.put, List.setIfInBounds_toArray, List.set_cons_zero, List.set_cons_succ]
        refine wpAnyH_take (i := 2) (oi := ⟨some 136, _, _, _, _, _⟩) (v := .slice (some ⟨tb, ot, none⟩) nb ct) rfl (by kernel_rfl) (by kernel_rfl) (by kernel_rfl) (fun _ _ _ h => h) (Or.inl ⟨by kernel_rfl, fun w' hSw => ?_⟩) hS ?_
        · go_simp
        simp only [Act.put, List.setIfInBounds_toArray, List.set_cons_zero, List.set_cons_succ]
        refine wpAnyH_take (i := 3) (oi := ⟨some 137, _, _, _, _, _⟩) (v := .int .i64 (i : Int)) rfl (by kernel_rfl) (by kernel_rfl) (by kernel_rfl) (fun _ _ _ h => h) (Or.inl ⟨by kernel_rfl, fun w' hSw => ?_⟩) hS ?_
        · go_simp
        simp only [Act.put, List.setIfInBounds_toArray, List.set_cons_zero, List.set_cons_succ]
        refine wpAnyH_take (i := 4) (oi := ⟨some 138, _, _, _, _, _⟩) (v := .pointer (some ⟨tb, ot + i * 16, none⟩)) rfl (by kernel_rfl) (by kernel_rfl) (by kernel_rfl) (fun _ _ _ h => h) (Or.inl ⟨by kernel_rfl, fun w' hSw => ?_⟩) hS ?_
        · go_simp
        simp only [Act.put, List.setIfInBounds_toArray, List.set_cons_zero, List.set_cons_succ]
        refine wpAnyH_take (i := 5) (oi := ⟨some 139, _, _, _, _, _⟩) (v := .agg (bv (byt (t)))) rfl (by kernel_rfl) (by kernel_rfl) (by kernel_rfl) (fun _ _ _ h => h) (yields_arr_at (by kernel_rfl) (.tmp 138) rfl (⟨tb, ot + i * 16, none⟩) (byt (t)) rfl (fun w' h j hj => (hTb8.below h).cellAt hi2 HTD.out hj)) hS ?_
        simp only [Act.put, List.setIfInBounds_toArray, List.set_cons_zero, List.set_cons_succ]
        refine wpAnyH_take (i := 9) (oi := ⟨some 143, _, _, _, _, _⟩) (v := .slice (some ⟨tb, ot, none⟩) nb ct) rfl (by kernel_rfl) (by kernel_rfl) (by kernel_rfl) (fun _ _ _ h => h) (Or.inl ⟨by kernel_rfl, fun w' hSw => ?_⟩) hS ?_
        · go_simp
        simp only [Act.put, List.setIfInBounds_toArray, List.set_cons_zero, List.set_cons_succ]
        refine wpAnyH_take (i := 10) (oi := ⟨some 144, _, _, _, _, _⟩) (v := .int .i64 (i : Int)) rfl (by kernel_rfl) (by kernel_rfl) (by kernel_rfl) (fun _ _ _ h => h) (Or.inl ⟨by kernel_rfl, fun w' hSw => ?_⟩) hS ?_
        · go_simp
        simp only [Act.put, List.setIfInBounds_toArray, List.set_cons_zero, List.set_cons_succ]
        refine wpAnyH_take (i := 11) (oi := ⟨some 145, _, _, _, _, _⟩) (v := .pointer (some ⟨tb, ot + i * 16, none⟩)) rfl (by kernel_rfl) (by kernel_rfl) (by kernel_rfl) (fun _ _ _ h => h) (Or.inl ⟨by kernel_rfl, fun w' hSw => ?_⟩) hS ?_
        · go_simp
        simp only [Act.put, List.setIfInBounds_toArray, List.set_cons_zero, List.set_cons_succ]
        refine wpAnyH_take (i := 12) (oi := ⟨some 146, _, _, _, _, _⟩) (v := .agg (bv (byt (t)))) rfl (by kernel_rfl) (by kernel_rfl) (by kernel_rfl) (fun _ _ _ h => h) (yields_arr_at (by kernel_rfl) (.tmp 145) rfl (⟨tb, ot + i * 16, none⟩) (byt (t)) rfl (fun w' h j hj => (hTb8.below h).cellAt hi2 HTD.out hj)) hS ?_
        simp only [Act.put, List.setIfInBounds_toArray, List.set_cons_zero, List.set_cons_succ]
        refine wpAnyH_ready (rs := [6, 15]) (by kernel_rfl) (by simp) ?_
        refine (AllReadyH.cons (o := ⟨some 140, _, _, _, _, _⟩) rfl (fun K hK => ?_) (AllReadyH.cons (o := ⟨some 18, _, _, _, _, _⟩) rfl (fun K hK => ?_) AllReadyH.nil))
        · rw [if_pos (by kernel_rfl)]
          refine wp_two (.tmp 135) (.tmp 139) rfl (byt (x)) (byt (t)) rfl rfl ?_
          have hk140 : Blocks (w8.drew.alloc (.cells (bv (byt (x)) ++ bv (byt (t))) 36)) (some ⟨w8.heap.size, 0, none⟩) 2 [x, t] := blocks_two _ _ _ _ (by first | rfl | simp | simp [World.setRow]) hxl htl
          refine hK.out _ _ (hS.alloc hS.size _) (fun hS => ?_)
          clear hK K
          simp only [Act.put, List.setIfInBounds_toArray, List.set_cons_zero, List.set_cons_succ]
          refine wpAnyH_ready (rs := [7, 15]) (by kernel_rfl) (by simp) ?_
          refine (AllReadyH.cons (o := ⟨some 141, _, _, _, _, _⟩) rfl (fun K hK => ?_) (AllReadyH.cons (o := ⟨some 18, _, _, _, _, _⟩) rfl (fun K hK => ?_) AllReadyH.nil))
          · rw [if_pos (by kernel_rfl)]
            go_simp
            refine (xor_two _ _ x t _ hk140).mono ?_
            rintro e v1 ⟨rfl, hq1⟩
            have hk140 := hk140.below hq1
            have hqz1 := hq1.size
            refine hK.out _ _ (hS.trans (hq1.mono (by first | exact hS.size | (have := hS.size; simp at this ⊢; omega)))) (fun hS => ?_)
            clear hK K
            refine wpAnyH_ready (rs := [8, 15]) (by kernel_rfl) (by simp) ?_
            refine (AllReadyH.cons (o := ⟨some 142, _, _, _, _, _⟩) rfl (fun K hK => ?_) (AllReadyH.cons (o := ⟨some 18, _, _, _, _, _⟩) rfl (fun K hK => ?_) AllReadyH.nil))
            · rw [if_pos (by kernel_rfl)]
              go_simp
              refine (HF.out _ (hC8.below hS)).mono ?_
              rintro e v2 ⟨rfl, hq2⟩
              have hk140 := hk140.below hq2
              have hqz2 := hq2.size
              refine hK.out _ _ (hS.trans (hq2.mono (by first | exact hS.size | (have := hS.size; simp at this ⊢; omega)))) (fun hS => ?_)
              clear hK K
              refine wpAnyH_ready (rs := [13, 15]) (by kernel_rfl) (by simp) ?_
              refine (AllReadyH.cons (o := ⟨some 147, _, _, _, _, _⟩) rfl (fun K hK => ?_) (AllReadyH.cons (o := ⟨some 18, _, _, _, _, _⟩) rfl (fun K hK => ?_) AllReadyH.nil))
              · rw [if_pos (by kernel_rfl)]
                refine wp_two (.tmp 142) (.tmp 146) rfl (byt (y)) (byt (t)) rfl rfl ?_
                have hk140 := hk140.alloc (.cells (bv (byt (y)) ++ bv (byt (t))) 36)
                have hk147 : Blocks (v2.alloc (.cells (bv (byt (y)) ++ bv (byt (t))) 36)) (some ⟨v2.heap.size, 0, none⟩) 2 [y, t] := blocks_two _ _ _ _ (by first | rfl | simp | simp [World.setRow]) hyl htl
                refine hK.out _ _ (hS.alloc hS.size _) (fun hS => ?_)
                clear hK K
                simp only [Act.put, List.setIfInBounds_toArray, List.set_cons_zero, List.set_cons_succ]
                refine wpAnyH_ready (rs := [14, 15]) (by kernel_rfl) (by simp) ?_
                refine (AllReadyH.cons (o := ⟨some 148, _, _, _, _, _⟩) rfl (fun K hK => ?_) (AllReadyH.cons (o := ⟨some 18, _, _, _, _, _⟩) rfl (fun K hK => ?_) AllReadyH.nil))
                · rw [if_pos (by kernel_rfl)]
                  go_simp
                  refine (xor_two _ _ y t _ hk147).mono ?_
                  rintro e v3 ⟨rfl, hq3⟩
                  have hk140 := hk140.below hq3
                  have hk147 := hk147.below hq3
                  have hqz3 := hq3.size
                  refine hK.out _ _ (hS.trans (hq3.mono (by first | exact hS.size | (have := hS.size; simp at this ⊢; omega)))) (fun hS => ?_)
                  clear hK K
                  refine wpAnyH_ready (rs := [15]) (by kernel_rfl) (by simp) ?_
                  refine (AllReadyH.cons (o := ⟨some 18, _, _, _, _, _⟩) rfl (fun K hK => ?_) AllReadyH.nil)
                  rw [if_pos (by kernel_rfl)]
                  go_simp
                  have hk140 := hk140.alloc (.cells #[.int .u8 0, .int .u8 0, .int .u8 0, .int .u8 0, .int .u8 0, .int .u8 0, .int .u8 0, .int .u8 0, .int .u8 0, .int .u8 0, .int .u8 0, .int .u8 0, .int .u8 0, .int .u8 0, .int .u8 0, .int .u8 0] 36)
                  have hk147 := hk147.alloc (.cells #[.int .u8 0, .int .u8 0, .int .u8 0, .int .u8 0, .int .u8 0, .int .u8 0, .int .u8 0, .int .u8 0, .int .u8 0, .int .u8 0, .int .u8 0, .int .u8 0, .int .u8 0, .int .u8 0, .int .u8 0, .int .u8 0] 36)
                  have hg18 := hS.size
                  have ha18 : Arr (v3.alloc (.cells #[.int .u8 0, .int .u8 0, .int .u8 0, .int .u8 0, .int .u8 0, .int .u8 0, .int .u8 0, .int .u8 0, .int .u8 0, .int .u8 0, .int .u8 0, .int .u8 0, .int .u8 0, .int .u8 0, .int .u8 0, .int .u8 0] 36)) (v3.heap.size) (fun _ => 0) := Arr.zero _ _ (by first | rfl | simp | simp [World.setRow])
                  refine hK.out _ _ (hS.alloc hS.size _) (fun hS => ?_)
                  clear hK K
                  refine wpAnyH_ready (rs := [16]) (by kernel_rfl) (by simp) ?_
                  refine (AllReadyH.cons (o := ⟨none, _, _, _, _, _⟩) rfl (fun K hK => ?_) AllReadyH.nil)
                  rw [if_pos (by kernel_rfl)]
                  refine wpo_store_arr (.tmp 18) (.tmp 148) rfl (v3.heap.size) (fun _ => 0) (byt (y ^^^ t)) rfl rfl ha18 ?_
                  have ha18 := ha18.setRow (h := byt (y ^^^ t))
                  refine hK.out _ _ (below_setRow hS (by have := hS.size; first | omega | (simp at *; omega) | (simp [setRow_size] at *; omega)) _) (fun hS => ?_)
                  clear hK K
                  simp only [Act.put]
                  refine wpAnyH_done (by kernel_rfl) ?_ _
                  go_wp2_with fail
                  go_meet
                  case rel => exact ⟨_, rfl, (by first | exact hg18 | omega | (simp; done) | (simp at *; omega)), ha18, hS⟩
                · rw [if_pos (by kernel_rfl)]
                  go_simp
                  have hk140 := hk140.alloc (.cells #[.int .u8 0, .int .u8 0, .int .u8 0, .int .u8 0, .int .u8 0, .int .u8 0, .int .u8 0, .int .u8 0, .int .u8 0, .int .u8 0, .int .u8 0, .int .u8 0, .int .u8 0, .int .u8 0, .int .u8 0, .int .u8 0] 36)
                  have hk147 := hk147.alloc (.cells #[.int .u8 0, .int .u8 0, .int .u8 0, .int .u8 0, .int .u8 0, .int .u8 0, .int .u8 0, .int .u8 0, .int .u8 0, .int .u8 0, .int .u8 0, .int .u8 0, .int .u8 0, .int .u8 0, .int .u8 0, .int .u8 0] 36)
                  have hg18 := hS.size
                  have ha18 : Arr ((v2.alloc (.cells (bv (byt (y)) ++ bv (byt (t))) 36)).alloc (.cells #[.int .u8 0, .int .u8 0, .int .u8 0, .int .u8 0, .int .u8 0, .int .u8 0, .int .u8 0, .int .u8 0, .int .u8 0, .int .u8 0, .int .u8 0, .int .u8 0, .int .u8 0, .int .u8 0, .int .u8 0, .int .u8 0] 36)) (v2.heap.size + 1) (fun _ => 0) := Arr.zero _ _ (by first | rfl | simp | simp [World.setRow])
                  refine hK.out _ _ (hS.alloc hS.size _) (fun hS => ?_)
                  clear hK K
                  refine wpAnyH_ready (rs := [14]) (by kernel_rfl) (by simp) ?_
                  refine (AllReadyH.cons (o := ⟨some 148, _, _, _, _, _⟩) rfl (fun K hK => ?_) AllReadyH.nil)
                  rw [if_pos (by kernel_rfl)]
                  go_simp
                  refine (xor_two _ _ y t _ hk147).mono ?_
                  rintro e v3 ⟨rfl, hq3⟩
                  have ha18 := ha18.below hq3 ha18.lt
                  have hk140 := hk140.below hq3
                  have hk147 := hk147.below hq3
                  have hqz3 := hq3.size
                  refine hK.out _ _ (hS.trans (hq3.mono (by first | exact hS.size | (have := hS.size; simp at this ⊢; omega)))) (fun hS => ?_)
                  clear hK K
                  refine wpAnyH_ready (rs := [16]) (by kernel_rfl) (by simp) ?_
                  refine (AllReadyH.cons (o := ⟨none, _, _, _, _, _⟩) rfl (fun K hK => ?_) AllReadyH.nil)
                  rw [if_pos (by kernel_rfl)]
                  refine wpo_store_arr (.tmp 18) (.tmp 148) rfl (v2.heap.size + 1) (fun _ => 0) (byt (y ^^^ t)) rfl rfl ha18 ?_
                  have ha18 := ha18.setRow (h := byt (y ^^^ t))
                  refine hK.out _ _ (below_setRow hS (by have := hS.size; first | omega | (simp at *; omega) | (simp [setRow_size] at *; omega)) _) (fun hS => ?_)
                  clear hK K
                  simp only [Act.put]
                  refine wpAnyH_done (by kernel_rfl) ?_ _
                  go_wp2_with fail
                  go_meet
                  case rel => exact ⟨_, rfl, (by first | exact hg18 | omega | (simp; done) | (simp at *; omega)), ha18, hS⟩
              · rw [if_pos (by kernel_rfl)]
                go_simp
                have hk140 := hk140.alloc (.cells #[.int .u8 0, .int .u8 0, .int .u8 0, .int .u8 0, .int .u8 0, .int .u8 0, .int .u8 0, .int .u8 0, .int .u8 0, .int .u8 0, .int .u8 0, .int .u8 0, .int .u8 0, .int .u8 0, .int .u8 0, .int .u8 0] 36)
                have hg18 := hS.size
                have ha18 : Arr (v2.alloc (.cells #[.int .u8 0, .int .u8 0, .int .u8 0, .int .u8 0, .int .u8 0, .int .u8 0, .int .u8 0, .int .u8 0, .int .u8 0, .int .u8 0, .int .u8 0, .int .u8 0, .int .u8 0, .int .u8 0, .int .u8 0, .int .u8 0] 36)) (v2.heap.size) (fun _ => 0) := Arr.zero _ _ (by first | rfl | simp | simp [World.setRow])
                refine hK.out _ _ (hS.alloc hS.size _) (fun hS => ?_)
                clear hK K
                refine wpAnyH_ready (rs := [13]) (by kernel_rfl) (by simp) ?_
                refine (AllReadyH.cons (o := ⟨some 147, _, _, _, _, _⟩) rfl (fun K hK => ?_) AllReadyH.nil)
                rw [if_pos (by kernel_rfl)]
                refine wp_two (.tmp 142) (.tmp 146) rfl (byt (y)) (byt (t)) rfl rfl ?_
                have ha18 := ha18.alloc (.cells (bv (byt (y)) ++ bv (byt (t))) 36)
                have hk140 := hk140.alloc (.cells (bv (byt (y)) ++ bv (byt (t))) 36)
                have hk147 : Blocks ((v2.alloc (.cells #[.int .u8 0, .int .u8 0, .int .u8 0, .int .u8 0, .int .u8 0, .int .u8 0, .int .u8 0, .int .u8 0, .int .u8 0, .int .u8 0, .int .u8 0, .int .u8 0, .int .u8 0, .int .u8 0, .int .u8 0, .int .u8 0] 36)).alloc (.cells (bv (byt (y)) ++ bv (byt (t))) 36)) (some ⟨v2.heap.size + 1, 0, none⟩) 2 [y, t] := blocks_two _ _ _ _ (by first | rfl | simp | simp [World.setRow]) hyl htl
                refine hK.out _ _ (hS.alloc hS.size _) (fun hS => ?_)
                clear hK K
                simp only [Act.put, List.setIfInBounds_toArray, List.set_cons_zero, List.set_cons_succ]
                refine wpAnyH_ready (rs := [14]) (by kernel_rfl) (by simp) ?_
                refine (AllReadyH.cons (o := ⟨some 148, _, _, _, _, _⟩) rfl (fun K hK => ?_) AllReadyH.nil)
                rw [if_pos (by kernel_rfl)]
                go_simp
                refine (xor_two _ _ y t _ hk147).mono ?_
                rintro e v3 ⟨rfl, hq3⟩
                have ha18 := ha18.below hq3 ha18.lt
                have hk140 := hk140.below hq3
                have hk147 := hk147.below hq3
                have hqz3 := hq3.size
                refine hK.out _ _ (hS.trans (hq3.mono (by first | exact hS.size | (have := hS.size; simp at this ⊢; omega)))) (fun hS => ?_)
                clear hK K
                refine wpAnyH_ready (rs := [16]) (by kernel_rfl) (by simp) ?_
                refine (AllReadyH.cons (o := ⟨none, _, _, _, _, _⟩) rfl (fun K hK => ?_) AllReadyH.nil)
                rw [if_pos (by kernel_rfl)]
                refine wpo_store_arr (.tmp 18) (.tmp 148) rfl (v2.heap.size) (fun _ => 0) (byt (y ^^^ t)) rfl rfl ha18 ?_
                have ha18 := ha18.setRow (h := byt (y ^^^ t))
                refine hK.out _ _ (below_setRow hS (by have := hS.size; first | omega | (simp at *; omega) | (simp [setRow_size] at *; omega)) _) (fun hS => ?_)
                clear hK K
                simp only [Act.put]
                refine wpAnyH_done (by kernel_rfl) ?_ _
                go_wp2_with fail
                go_meet
                case rel => exact ⟨_, rfl, (by first | exact hg18 | omega | (simp; done) | (simp at *; omega)), ha18, hS⟩
            · rw [if_pos (by kernel_rfl)]
              go_simp
              have hk140 := hk140.alloc (.cells #[.int .u8 0, .int .u8 0, .int .u8 0, .int .u8 0, .int .u8 0, .int .u8 0, .int .u8 0, .int .u8 0, .int .u8 0, .int .u8 0, .int .u8 0, .int .u8 0, .int .u8 0, .int .u8 0, .int .u8 0, .int .u8 0] 36)
              have hg18 := hS.size
              have ha18 : Arr (v1.alloc (.cells #[.int .u8 0, .int .u8 0, .int .u8 0, .int .u8 0, .int .u8 0, .int .u8 0, .int .u8 0, .int .u8 0, .int .u8 0, .int .u8 0, .int .u8 0, .int .u8 0, .int .u8 0, .int .u8 0, .int .u8 0, .int .u8 0] 36)) (v1.heap.size) (fun _ => 0) := Arr.zero _ _ (by first | rfl | simp | simp [World.setRow])
              refine hK.out _ _ (hS.alloc hS.size _) (fun hS => ?_)
              clear hK K
              refine wpAnyH_ready (rs := [8]) (by kernel_rfl) (by simp) ?_
              refine (AllReadyH.cons (o := ⟨some 142, _, _, _, _, _⟩) rfl (fun K hK => ?_) AllReadyH.nil)
              rw [if_pos (by kernel_rfl)]
              go_simp
              refine (HF.out _ (hC8.below hS)).mono ?_
              rintro e v2 ⟨rfl, hq2⟩
              have ha18 := ha18.below hq2 ha18.lt
              have hk140 := hk140.below hq2
              have hqz2 := hq2.size
              refine hK.out _ _ (hS.trans (hq2.mono (by first | exact hS.size | (have := hS.size; simp at this ⊢; omega)))) (fun hS => ?_)
              clear hK K
              refine wpAnyH_ready (rs := [13]) (by kernel_rfl) (by simp) ?_
              refine (AllReadyH.cons (o := ⟨some 147, _, _, _, _, _⟩) rfl (fun K hK => ?_) AllReadyH.nil)
              rw [if_pos (by kernel_rfl)]
              refine wp_two (.tmp 142) (.tmp 146) rfl (byt (y)) (byt (t)) rfl rfl ?_
              have ha18 := ha18.alloc (.cells (bv (byt (y)) ++ bv (byt (t))) 36)
              have hk140 := hk140.alloc (.cells (bv (byt (y)) ++ bv (byt (t))) 36)
              have hk147 : Blocks (v2.alloc (.cells (bv (byt (y)) ++ bv (byt (t))) 36)) (some ⟨v2.heap.size, 0, none⟩) 2 [y, t] := blocks_two _ _ _ _ (by first | rfl | simp | simp [World.setRow]) hyl htl
              refine hK.out _ _ (hS.alloc hS.size _) (fun hS => ?_)
              clear hK K
              simp only [Act.put, List.setIfInBounds_toArray, List.set_cons_zero, List.set_cons_succ]
              refine wpAnyH_ready (rs := [14]) (by kernel_rfl) (by simp) ?_
              refine (AllReadyH.cons (o := ⟨some 148, _, _, _, _, _⟩) rfl (fun K hK => ?_) AllReadyH.nil)
              rw [if_pos (by kernel_rfl)]
              go_simp
              refine (xor_two _ _ y t _ hk147).mono ?_
              rintro e v3 ⟨rfl, hq3⟩
              have ha18 := ha18.below hq3 ha18.lt
              have hk140 := hk140.below hq3
              have hk147 := hk147.below hq3
              have hqz3 := hq3.size
              refine hK.out _ _ (hS.trans (hq3.mono (by first | exact hS.size | (have := hS.size; simp at this ⊢; omega)))) (fun hS => ?_)
              clear hK K
              refine wpAnyH_ready (rs := [16]) (by kernel_rfl) (by simp) ?_
              refine (AllReadyH.cons (o := ⟨none, _, _, _, _, _⟩) rfl (fun K hK => ?_) AllReadyH.nil)
              rw [if_pos (by kernel_rfl)]
              refine wpo_store_arr (.tmp 18) (.tmp 148) rfl (v1.heap.size) (fun _ => 0) (byt (y ^^^ t)) rfl rfl ha18 ?_
              have ha18 := ha18.setRow (h := byt (y ^^^ t))
              refine hK.out _ _ (below_setRow hS (by have := hS.size; first | omega | (simp at *; omega) | (simp [setRow_size] at *; omega)) _) (fun hS => ?_)
              clear hK K
              simp only [Act.put]
              refine wpAnyH_done (by kernel_rfl) ?_ _
              go_wp2_with fail
              go_meet
              case rel => exact ⟨_, rfl, (by first | exact hg18 | omega | (simp; done) | (simp at *; omega)), ha18, hS⟩
          · rw [if_pos (by kernel_rfl)]
            go_simp
            have hk140 := hk140.alloc (.cells #[.int .u8 0, .int .u8 0, .int .u8 0, .int .u8 0, .int .u8 0, .int .u8 0, .int .u8 0, .int .u8 0, .int .u8 0, .int .u8 0, .int .u8 0, .int .u8 0, .int .u8 0, .int .u8 0, .int .u8 0, .int .u8 0] 36)
            have hg18 := hS.size
            have ha18 : Arr ((w8.drew.alloc (.cells (bv (byt (x)) ++ bv (byt (t))) 36)).alloc (.cells #[.int .u8 0, .int .u8 0, .int .u8 0, .int .u8 0, .int .u8 0, .int .u8 0, .int .u8 0, .int .u8 0, .int .u8 0, .int .u8 0, .int .u8 0, .int .u8 0, .int .u8 0, .int .u8 0, .int .u8 0, .int .u8 0] 36)) (w8.heap.size + 1) (fun _ => 0) := Arr.zero _ _ (by first | rfl | simp | simp [World.setRow])
            refine hK.out _ _ (hS.alloc hS.size _) (fun hS => ?_)
            clear hK K
            refine wpAnyH_ready (rs := [7]) (by kernel_rfl) (by simp) ?_
            refine (AllReadyH.cons (o := ⟨some 141, _, _, _, _, _⟩) rfl (fun K hK => ?_) AllReadyH.nil)
            rw [if_pos (by kernel_rfl)]
            go_simp
            refine (xor_two _ _ x t _ hk140).mono ?_
            rintro e v1 ⟨rfl, hq1⟩
            have ha18 := ha18.below hq1 ha18.lt
            have hk140 := hk140.below hq1
            have hqz1 := hq1.size
            refine hK.out _ _ (hS.trans (hq1.mono (by first | exact hS.size | (have := hS.size; simp at this ⊢; omega)))) (fun hS => ?_)
            clear hK K
            refine wpAnyH_ready (rs := [8]) (by kernel_rfl) (by simp) ?_
            refine (AllReadyH.cons (o := ⟨some 142, _, _, _, _, _⟩) rfl (fun K hK => ?_) AllReadyH.nil)
            rw [if_pos (by kernel_rfl)]
            go_simp
            refine (HF.out _ (hC8.below hS)).mono ?_
            rintro e v2 ⟨rfl, hq2⟩
            have ha18 := ha18.below hq2 ha18.lt
            have hk140 := hk140.below hq2
            have hqz2 := hq2.size
            refine hK.out _ _ (hS.trans (hq2.mono (by first | exact hS.size | (have := hS.size; simp at this ⊢; omega)))) (fun hS => ?_)
            clear hK K
            refine wpAnyH_ready (rs := [13]) (by kernel_rfl) (by simp) ?_
            refine (AllReadyH.cons (o := ⟨some 147, _, _, _, _, _⟩) rfl (fun K hK => ?_) AllReadyH.nil)
            rw [if_pos (by kernel_rfl)]
            refine wp_two (.tmp 142) (.tmp 146) rfl (byt (y)) (byt (t)) rfl rfl ?_
            have ha18 := ha18.alloc (.cells (bv (byt (y)) ++ bv (byt (t))) 36)
            have hk140 := hk140.alloc (.cells (bv (byt (y)) ++ bv (byt (t))) 36)
            have hk147 : Blocks (v2.alloc (.cells (bv (byt (y)) ++ bv (byt (t))) 36)) (some ⟨v2.heap.size, 0, none⟩) 2 [y, t] := blocks_two _ _ _ _ (by first | rfl | simp | simp [World.setRow]) hyl htl
            refine hK.out _ _ (hS.alloc hS.size _) (fun hS => ?_)
            clear hK K
            simp only [Act.put, List.setIfInBounds_toArray, List.set_cons_zero, List.set_cons_succ]
            refine wpAnyH_ready (rs := [14]) (by kernel_rfl) (by simp) ?_
            refine (AllReadyH.cons (o := ⟨some 148, _, _, _, _, _⟩) rfl (fun K hK => ?_) AllReadyH.nil)
            rw [if_pos (by kernel_rfl)]
            go_simp
            refine (xor_two _ _ y t _ hk147).mono ?_
            rintro e v3 ⟨rfl, hq3⟩
            have ha18 := ha18.below hq3 ha18.lt
            have hk140 := hk140.below hq3
            have hk147 := hk147.below hq3
            have hqz3 := hq3.size
            refine hK.out _ _ (hS.trans (hq3.mono (by first | exact hS.size | (have := hS.size; simp at this ⊢; omega)))) (fun hS => ?_)
            clear hK K
            refine wpAnyH_ready (rs := [16]) (by kernel_rfl) (by simp) ?_
            refine (AllReadyH.cons (o := ⟨none, _, _, _, _, _⟩) rfl (fun K hK => ?_) AllReadyH.nil)
            rw [if_pos (by kernel_rfl)]
            refine wpo_store_arr (.tmp 18) (.tmp 148) rfl (w8.heap.size + 1) (fun _ => 0) (byt (y ^^^ t)) rfl rfl ha18 ?_
            have ha18 := ha18.setRow (h := byt (y ^^^ t))
            refine hK.out _ _ (below_setRow hS (by have := hS.size; first | omega | (simp at *; omega) | (simp [setRow_size] at *; omega)) _) (fun hS => ?_)
            clear hK K
            simp only [Act.put]
            refine wpAnyH_done (by kernel_rfl) ?_ _
            go_wp2_with fail
            go_meet
            case rel => exact ⟨_, rfl, (by first | exact hg18 | omega | (simp; done) | (simp at *; omega)), ha18, hS⟩
        · rw [if_pos (by kernel_rfl)]
          go_simp
          have hg18 := hS.size
          have ha18 : Arr (w8.drew.alloc (.cells #[.int .u8 0, .int .u8 0, .int .u8 0, .int .u8 0, .int .u8 0, .int .u8 0, .int .u8 0, .int .u8 0, .int .u8 0, .int .u8 0, .int .u8 0, .int .u8 0, .int .u8 0, .int .u8 0, .int .u8 0, .int .u8 0] 36)) (w8.heap.size) (fun _ => 0) := Arr.zero _ _ (by first | rfl | simp | simp [World.setRow])
          refine hK.out _ _ (hS.alloc hS.size _) (fun hS => ?_)
          clear hK K
          refine wpAnyH_ready (rs := [6]) (by kernel_rfl) (by simp) ?_
          refine (AllReadyH.cons (o := ⟨some 140, _, _, _, _, _⟩) rfl (fun K hK => ?_) AllReadyH.nil)
          rw [if_pos (by kernel_rfl)]
          refine wp_two (.tmp 135) (.tmp 139) rfl (byt (x)) (byt (t)) rfl rfl ?_
          have ha18 := ha18.alloc (.cells (bv (byt (x)) ++ bv (byt (t))) 36)
          have hk140 : Blocks ((w8.drew.alloc (.cells #[.int .u8 0, .int .u8 0, .int .u8 0, .int .u8 0, .int .u8 0, .int .u8 0, .int .u8 0, .int .u8 0, .int .u8 0, .int .u8 0, .int .u8 0, .int .u8 0, .int .u8 0, .int .u8 0, .int .u8 0, .int .u8 0] 36)).alloc (.cells (bv (byt (x)) ++ bv (byt (t))) 36)) (some ⟨w8.heap.size + 1, 0, none⟩) 2 [x, t] := blocks_two _ _ _ _ (by first | rfl | simp | simp [World.setRow]) hxl htl
          refine hK.out _ _ (hS.alloc hS.size _) (fun hS => ?_)
          clear hK K
          simp only [Act.put, List.setIfInBounds_toArray, List.set_cons_zero, List.set_cons_succ]
          refine wpAnyH_ready (rs := [7]) (by kernel_rfl) (by simp) ?_
          refine (AllReadyH.cons (o := ⟨some 141, _, _, _, _, _⟩) rfl (fun K hK => ?_) AllReadyH.nil)
          rw [if_pos (by kernel_rfl)]
          go_simp
          refine (xor_two _ _ x t _ hk140).mono ?_
          rintro e v1 ⟨rfl, hq1⟩
          have ha18 := ha18.below hq1 ha18.lt
          have hk140 := hk140.below hq1
          have hqz1 := hq1.size
          refine hK.out _ _ (hS.trans (hq1.mono (by first | exact hS.size | (have := hS.size; simp at this ⊢; omega)))) (fun hS => ?_)
          clear hK K
          refine wpAnyH_ready (rs := [8]) (by kernel_rfl) (by simp) ?_
          refine (AllReadyH.cons (o := ⟨some 142, _, _, _, _, _⟩) rfl (fun K hK => ?_) AllReadyH.nil)
          rw [if_pos (by kernel_rfl)]
          go_simp
          refine (HF.out _ (hC8.below hS)).mono ?_
          rintro e v2 ⟨rfl, hq2⟩
          have ha18 := ha18.below hq2 ha18.lt
          have hk140 := hk140.below hq2
          have hqz2 := hq2.size
          refine hK.out _ _ (hS.trans (hq2.mono (by first | exact hS.size | (have := hS.size; simp at this ⊢; omega)))) (fun hS => ?_)
          clear hK K
          refine wpAnyH_ready (rs := [13]) (by kernel_rfl) (by simp) ?_
          refine (AllReadyH.cons (o := ⟨some 147, _, _, _, _, _⟩) rfl (fun K hK => ?_) AllReadyH.nil)
          rw [if_pos (by kernel_rfl)]
          refine wp_two (.tmp 142) (.tmp 146) rfl (byt (y)) (byt (t)) rfl rfl ?_
          have ha18 := ha18.alloc (.cells (bv (byt (y)) ++ bv (byt (t))) 36)
          have hk140 := hk140.alloc (.cells (bv (byt (y)) ++ bv (byt (t))) 36)
          have hk147 : Blocks (v2.alloc (.cells (bv (byt (y)) ++ bv (byt (t))) 36)) (some ⟨v2.heap.size, 0, none⟩) 2 [y, t] := blocks_two _ _ _ _ (by first | rfl | simp | simp [World.setRow]) hyl htl
          refine hK.out _ _ (hS.alloc hS.size _) (fun hS => ?_)
          clear hK K
          simp only [Act.put, List.setIfInBounds_toArray, List.set_cons_zero, List.set_cons_succ]
          refine wpAnyH_ready (rs := [14]) (by kernel_rfl) (by simp) ?_
          refine (AllReadyH.cons (o := ⟨some 148, _, _, _, _, _⟩) rfl (fun K hK => ?_) AllReadyH.nil)
          rw [if_pos (by kernel_rfl)]
          go_simp
          refine (xor_two _ _ y t _ hk147).mono ?_
          rintro e v3 ⟨rfl, hq3⟩
          have ha18 := ha18.below hq3 ha18.lt
          have hk140 := hk140.below hq3
          have hk147 := hk147.below hq3
          have hqz3 := hq3.size
          refine hK.out _ _ (hS.trans (hq3.mono (by first | exact hS.size | (have := hS.size; simp at this ⊢; omega)))) (fun hS => ?_)
          clear hK K
          refine wpAnyH_ready (rs := [16]) (by kernel_rfl) (by simp) ?_
          refine (AllReadyH.cons (o := ⟨none, _, _, _, _, _⟩) rfl (fun K hK => ?_) AllReadyH.nil)
          rw [if_pos (by kernel_rfl)]
          refine wpo_store_arr (.tmp 18) (.tmp 148) rfl (w8.heap.size) (fun _ => 0) (byt (y ^^^ t)) rfl rfl ha18 ?_
          have ha18 := ha18.setRow (h := byt (y ^^^ t))
          refine hK.out _ _ (below_setRow hS (by have := hS.size; first | omega | (simp at *; omega) | (simp [setRow_size] at *; omega)) _) (fun hS => ?_)
          clear hK K
          simp only [Act.put]
          refine wpAnyH_done (by kernel_rfl) ?_ _
          go_wp2_with fail
          go_meet
          case rel => exact ⟨_, rfl, (by first | exact hg18 | omega | (simp; done) | (simp at *; omega)), ha18, hS⟩
      case rest =>
        obtain ⟨g18, rfl, hg18, hA18, hb9⟩ := hcut
        have hB9 := hB.trans ((hB8.trans (hb9.mono hB8.size)).mono hB.size)
        have hTb9 := hTb8.below hb9
        have hA15w := hA15.below hB9 hA15.lt
        have HP : Box (∀ w', Below wc.heap.size wc w' → Bytes w' (some (ad1.add q)) 16 (listB (byt (y ^^^ t)))) := ⟨fun w' h => by
          have h2 := ((hO1.rd.below hB9).below h).part (q := q) (by omega)
          rwa [HQ.out, xtL_part false k1 k2 u d hi2, HXB.out, ← HQ.out] at h2⟩
        clear hB8 hb9 hTb8 hC8 hA17 HF
        go_wp2_with fail
        refine wp_region_held_drew (S := fun w' => Below wc.heap.size wc w') (by kernel_rfl) (Below.refl _ _).drew (fun hS => ?_)
        refine wpAnyH_take (i := 0) (oi := ⟨some 149, _, _, _, _, _⟩) (v := .slice (some ⟨tb, ot, none⟩) nb ct) rfl (by kernel_rfl) (by kernel_rfl) (by kernel_rfl) (fun _ _ _ h => h) (Or.inl ⟨by kernel_rfl, fun w' hSw => ?_⟩) hS ?_
        · go_simp
        simp only [Act.put, List.setIfInBounds_toArray, List.set_cons_zero, List.set_cons_succ]
        refine wpAnyH_take (i := 1) (oi := ⟨some 150, _, _, _, _, _⟩) (v := .int .i64 (i : Int)) rfl (by kernel_rfl) (by kernel_rfl) (by kernel_rfl) (fun _ _ _ h => h) (Or.inl ⟨by kernel_rfl, fun w' hSw => ?_⟩) hS ?_
        · go_simp
        simp only [Act.put, List.setIfInBounds_toArray, List.set_cons_zero, List.set_cons_succ]
        refine wpAnyH_take (i := 2) (oi := ⟨some 151, _, _, _, _, _⟩) (v := .pointer (some ⟨tb, ot + i * 16, none⟩)) rfl (by kernel_rfl) (by kernel_rfl) (by kernel_rfl) (fun _ _ _ h => h) (Or.inl ⟨by kernel_rfl, fun w' hSw => ?_⟩) hS ?_
        · go_simp
        simp only [Act.put, List.setIfInBounds_toArray, List.set_cons_zero, List.set_cons_succ]
        refine wpAnyH_take (i := 3) (oi := ⟨some 152, _, _, _, _, _⟩) (v := .agg (bv (byt (t)))) rfl (by kernel_rfl) (by kernel_rfl) (by kernel_rfl) (fun _ _ _ h => h) (yields_arr_at (by kernel_rfl) (.tmp 151) rfl (⟨tb, ot + i * 16, none⟩) (byt (t)) rfl (fun w' h j hj => (hTb9.below h).cellAt hi2 HTD.out hj)) hS ?_
        simp only [Act.put, List.setIfInBounds_toArray, List.set_cons_zero, List.set_cons_succ]
        refine wpAnyH_take (i := 4) (oi := ⟨some 153, _, _, _, _, _⟩) (v := .agg (bv (byt t0))) rfl (by kernel_rfl) (by kernel_rfl) (by kernel_rfl) (fun _ _ _ h => h) (yields_arr (by kernel_rfl) (.tmp 15) rfl (g15) (byt t0) rfl fun w' h => hA15w.below h hA15w.lt) hS ?_
        simp only [Act.put, List.setIfInBounds_toArray, List.set_cons_zero, List.set_cons_succ]
        refine wpAnyH_take (i := 5) (oi := ⟨some 154, _, _, _, _, _⟩) (v := .int .i64 (i : Int)) rfl (by kernel_rfl) (by kernel_rfl) (by kernel_rfl) (fun _ _ _ h => h) (Or.inl ⟨by kernel_rfl, fun w' hSw => ?_⟩) hS ?_
        · go_simp
        simp only [Act.put, List.setIfInBounds_toArray, List.set_cons_zero, List.set_cons_succ]
        refine wpAnyH_ready (rs := [6]) (by kernel_rfl) (by simp) ?_
        refine (AllReadyH.cons (o := ⟨some 155, _, _, _, _, _⟩) rfl (fun K hK => ?_) AllReadyH.nil)
        rw [if_pos (by kernel_rfl)]
        go_simp
        refine (HTM.out _).mono ?_
        rintro e v1 ⟨rfl, hq1⟩
        have hqz1 := hq1.size
        refine hK.out _ _ (hS.trans (hq1.mono (by first | exact hS.size | (have := hS.size; simp at this ⊢; omega)))) (fun hS => ?_)
        clear hK K
        refine wpAnyH_take (i := 7) (oi := ⟨some 156, _, _, _, _, _⟩) (v := .bool false) rfl (by kernel_rfl) (by kernel_rfl) (by kernel_rfl) (fun _ _ _ h => h) (yields_neB (by kernel_rfl) (.tmp 152) (.tmp 155) rfl (byt t) (byt t) _ (eqB_self _) rfl rfl) hS ?_
        simp only [Act.put, List.setIfInBounds_toArray, List.set_cons_zero, List.set_cons_succ]
        refine wpAnyH_take (i := 8) (oi := ⟨some 157, _, _, _, _, _⟩) (v := .bool false) rfl (by kernel_rfl) (by kernel_rfl) (by kernel_rfl) (fun _ _ _ h => h) (Or.inl ⟨by kernel_rfl, fun w' hSw => ?_⟩) hS ?_
        · go_simp
        simp only [Act.put, List.setIfInBounds_toArray, List.set_cons_zero, List.set_cons_succ]
        refine wpAnyH_take (i := 9) (oi := ⟨some 158, _, _, _, _, _⟩) (v := .slice (some ⟨g18, 0, none⟩) 16 16) rfl (by kernel_rfl) (by kernel_rfl) (by kernel_rfl) (fun _ _ _ h => h) (Or.inl ⟨by kernel_rfl, fun w' hSw => ?_⟩) hS ?_
        · go_simp
        simp only [Act.put, List.setIfInBounds_toArray, List.set_cons_zero, List.set_cons_succ]
        refine wpAnyH_take (i := 10) (oi := ⟨some 159, _, _, _, _, _⟩) (v := .string (strL (listB (byt (y ^^^ t))))) rfl (by kernel_rfl) (by kernel_rfl) (by kernel_rfl) (fun _ _ _ h => h) (yields_str (by kernel_rfl) (.tmp 158) rfl (some ⟨g18, 0, none⟩) (16) (16) (listB (byt (y ^^^ t))) rfl (fun w' h => (hA18.below h hA18.lt).bytes (Twk.byt_lt _))) hS ?_
        simp only [Act.put, List.setIfInBounds_toArray, List.set_cons_zero, List.set_cons_succ]
        refine wpAnyH_take (i := 11) (oi := ⟨some 160, _, _, _, _, _⟩) (v := .slice (some ad1) m d1) rfl (by kernel_rfl) (by kernel_rfl) (by kernel_rfl) (fun _ _ _ h => h) (Or.inl ⟨by kernel_rfl, fun w' hSw => ?_⟩) hS ?_
        · go_simp
        simp only [Act.put, List.setIfInBounds_toArray, List.set_cons_zero, List.set_cons_succ]
        refine wpAnyH_take (i := 12) (oi := ⟨some 161, _, _, _, _, _⟩) (v := .int .i64 (i : Int)) rfl (by kernel_rfl) (by kernel_rfl) (by kernel_rfl) (fun _ _ _ h => h) (Or.inl ⟨by kernel_rfl, fun w' hSw => ?_⟩) hS ?_
        · go_simp
        simp only [Act.put, List.setIfInBounds_toArray, List.set_cons_zero, List.set_cons_succ]
        refine wpAnyH_take (i := 13) (oi := ⟨some 162, _, _, _, _, _⟩) (v := .int .i64 (q : Int)) rfl (by kernel_rfl) (by kernel_rfl) (by kernel_rfl) (fun _ _ _ h => h) (Or.inl ⟨by kernel_rfl, fun w' hSw => ?_⟩) hS ?_
        · (go_simp; rw [show 16 * (i : Int) = (q : Int) by have := HQ.out; omega]; exact IntWalk.i64_in _ (by omega))
        simp only [Act.put, List.setIfInBounds_toArray, List.set_cons_zero, List.set_cons_succ]
        refine wpAnyH_take (i := 14) (oi := ⟨some 163, _, _, _, _, _⟩) (v := .int .i64 (i : Int)) rfl (by kernel_rfl) (by kernel_rfl) (by kernel_rfl) (fun _ _ _ h => h) (Or.inl ⟨by kernel_rfl, fun w' hSw => ?_⟩) hS ?_
        · go_simp
        simp only [Act.put, List.setIfInBounds_toArray, List.set_cons_zero, List.set_cons_succ]
        refine wpAnyH_take (i := 15) (oi := ⟨some 164, _, _, _, _, _⟩) (v := .int .i64 (q : Int)) rfl (by kernel_rfl) (by kernel_rfl) (by kernel_rfl) (fun _ _ _ h => h) (Or.inl ⟨by kernel_rfl, fun w' hSw => ?_⟩) hS ?_
        · (go_simp; rw [show 16 * (i : Int) = (q : Int) by have := HQ.out; omega]; exact IntWalk.i64_in _ (by omega))
        simp only [Act.put, List.setIfInBounds_toArray, List.set_cons_zero, List.set_cons_succ]
        refine wpAnyH_take (i := 16) (oi := ⟨some 165, _, _, _, _, _⟩) (v := .int .i64 (q2 : Int)) rfl (by kernel_rfl) (by kernel_rfl) (by kernel_rfl) (fun _ _ _ h => h) (Or.inl ⟨by kernel_rfl, fun w' hSw => ?_⟩) hS ?_
        · (go_simp; rw [show (q : Int) + 16 = (q2 : Int) by have := HQ2.out; omega]; exact IntWalk.i64_in _ (by omega))
        simp only [Act.put, List.setIfInBounds_toArray, List.set_cons_zero, List.set_cons_succ]
        refine wpAnyH_take (i := 17) (oi := ⟨some 166, _, _, _, _, _⟩) (v := .slice (some (ad1.add q)) 16 (d1 - q)) rfl (by kernel_rfl) (by kernel_rfl) (by kernel_rfl) (fun _ _ _ h => h) (Or.inl ⟨by kernel_rfl, fun w' hSw => ?_⟩) hS ?_
        · go_simp
        simp only [Act.put, List.setIfInBounds_toArray, List.set_cons_zero, List.set_cons_succ]
        refine wpAnyH_take (i := 18) (oi := ⟨some 167, _, _, _, _, _⟩) (v := .string (strL (listB (byt (y ^^^ t))))) rfl (by kernel_rfl) (by kernel_rfl) (by kernel_rfl) (fun _ _ _ h => h) (yields_str (by kernel_rfl) (.tmp 166) rfl (some (ad1.add q)) (16) (d1 - q) (listB (byt (y ^^^ t))) rfl (fun w' h => HP.out w' h)) hS ?_
        simp only [Act.put, List.setIfInBounds_toArray, List.set_cons_zero, List.set_cons_succ]
        refine wpAnyH_take (i := 19) (oi := ⟨some 168, _, _, _, _, _⟩) (v := .bool false) rfl (by kernel_rfl) (by kernel_rfl) (by kernel_rfl) (fun _ _ _ h => h) (yields_strNe (by kernel_rfl) (.tmp 159) (.tmp 167) rfl (strL (listB (byt (y ^^^ t)))) (strL (listB (byt (y ^^^ t)))) _ (decide_eq_true rfl) rfl rfl) hS ?_
        simp only [Act.put, List.setIfInBounds_toArray, List.set_cons_zero, List.set_cons_succ]
        refine wpAnyH_take (i := 20) (oi := ⟨some 169, _, _, _, _, _⟩) (v := .bool false) rfl (by kernel_rfl) (by kernel_rfl) (by kernel_rfl) (fun _ _ _ h => h) (Or.inl ⟨by kernel_rfl, fun w' hSw => ?_⟩) hS ?_
        · go_simp
        simp only [Act.put, List.setIfInBounds_toArray, List.set_cons_zero, List.set_cons_succ]
        refine wpAnyH_done (by kernel_rfl) ?_ _
        go_wp2_with fail
        go_roundw
        case rel => exact ⟨i + 1, by go_num, by omega, hB9.trans (hS.mono hB9.size)⟩
        case measure => simp [intOf]; omega
theorem xtsParts_walk {w : World} (A : Option Addr) (n c : Nat) (l : List Nat) (hc : n ≤ c) (hl : Bytes w A n l) (u : Int) (_u0 : -9223372036854775808 ≤ u) (_u1 : u ≤ 9223372036854775807) (B : Option Addr) (m c1 : Nat) (d : List Nat) (hc1 : m ≤ c1) (hd : Bytes w B m d) :
    Calls Try.prog 29 #[.slice A n c, .int .i64 u, .slice B m c1] w fun e w' => e = .returned (.bool true) ∧ Below w.heap.size w w' := by
  by_cases h32 : n = 32
  · have a1 : ((n : Int) != 32) = false := by simp; omega
    by_cases u0 : u < 0
    · exact xpar_out32A A n c u B m c1 w a1 u0
    · by_cases u1 : 1099511627776 < u
      · exact xpar_out32B A n c u B m c1 w a1 (by omega) u1
      · by_cases m1 : m % 16 = 0
        · by_cases m2 : m ≤ 400
          · obtain ⟨v, rfl⟩ := Int.eq_ofNat_of_zero_le (show 0 ≤ u by omega)
            subst h32
            obtain ⟨ad0, hA, _⟩ := hl.2.2.2 (by decide)
            subst hA
            exact xpar_in32 ad0 c l v B m c1 d w hl hc hd hc1 (by omega) (by simp; omega) m2 ⟨.inl rfl, by omega, by omega⟩ m1
          · exact xpar_out32D A n c u B m c1 w a1 (by omega) (by omega) (by simp; omega) (by omega)
        · exact xpar_out32C A n c u B m c1 w a1 (by omega) (by omega) (by simp; omega)
  · have a1 : ((n : Int) != 32) = true := by simp; omega
    by_cases h64 : n = 64
    · have a2 : ((n : Int) != 64) = false := by simp; omega
      by_cases u0 : u < 0
      · exact xpar_out64A A n c u B m c1 w a1 a2 u0
      · by_cases u1 : 1099511627776 < u
        · exact xpar_out64B A n c u B m c1 w a1 a2 (by omega) u1
        · by_cases m1 : m % 16 = 0
          · by_cases m2 : m ≤ 400
            · obtain ⟨v, rfl⟩ := Int.eq_ofNat_of_zero_le (show 0 ≤ u by omega)
              subst h64
              obtain ⟨ad0, hA, _⟩ := hl.2.2.2 (by decide)
              subst hA
              exact xpar_in64 ad0 c l v B m c1 d w hl hc hd hc1 (by omega) (by simp; omega) m2 ⟨.inr rfl, by omega, by omega⟩ m1
            · exact xpar_out64D A n c u B m c1 w a1 a2 (by omega) (by omega) (by simp; omega) (by omega)
          · exact xpar_out64C A n c u B m c1 w a1 a2 (by omega) (by omega) (by simp; omega)
    · exact xpar_outN A n c u B m c1 w a1 (by simp; omega)
end Go.Proofs.Ytibfihjcjohadaa
