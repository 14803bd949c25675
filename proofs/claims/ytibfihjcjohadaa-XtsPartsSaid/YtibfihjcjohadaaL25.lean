/-
  The walk of the law on a sector's first blocks: it returns true, whatever the input, and writes nothing that was there.
-/
import Derived.Test.YtibfihjcjohadaaXL
namespace Go.Proofs.Ytibfihjcjohadaa
open Go.RowKit Go.Op
open Twk (byt)
theorem yields_strNe {ops : Array Oper} {S : World → Prop} {op : Oper} {a : Act} (hw : Region.wanted op (yielded ops a.tmps) = true) (x y : Operand) (ho : op.op = .binOp .neq 9 x y 9)
    (s t : ByteArray) (b : Bool) (hb : decide (s = t) = !b) (hx : a.eval x = .string s) (hy : a.eval y = .string t) : YieldsIf Try.prog ops S op (.bool b) a :=
  .inl ⟨hw, fun w _ => by rw [exec_strNe x y ho s t (!b) hb hx hy w, Bool.not_not]⟩
theorem datN_take {d : List Nat} {i n : Nat} (hi : i < n) : datN (d.take (16 * n)) i = datN d i := by
  unfold datN
  have h : ∀ k, k ≤ 16 → numF (datF (d.take (16 * n)) i) k = numF (datF d i) k := by
    intro k
    induction k with
    | zero => intro _; rfl
    | succ k ih =>
      intro hk
      rw [numF, numF, ih (by omega)]
      have e : datF (d.take (16 * n)) i k = datF d i k := by
        unfold datF
        rw [List.getD_eq_getElem?_getD, List.getD_eq_getElem?_getD, List.getElem?_take, if_pos (by omega)]
      rw [e]
  exact h 16 (Nat.le_refl _)
theorem xtL_take (b : Bool) (k1 k2 : List Nat) (u : Nat) (d : List Nat) {n m : Nat} (h : n ≤ m) : xtL b k1 k2 u (d.take (16 * n)) n = (xtL b k1 k2 u d m).take (16 * n) := by
  refine ext16 (n := n) (by rw [xtL_len]) (by rw [List.length_take, xtL_len]; omega) fun i j hi hj => ?_
  rw [xtL_get _ _ _ _ _ n i j hi hj, List.getD_eq_getElem?_getD, List.getElem?_take, if_pos (by omega), ← List.getD_eq_getElem?_getD, xtL_get _ _ _ _ _ m i j (by omega) hj]
  unfold xtB
  rw [datN_take hi]
set_option maxRecDepth 100000 in
set_option maxHeartbeats 1000000 in
theorem xpre_outN (A : Option Addr) (n c : Nat) (u : Int) (B : Option Addr) (m c1 : Nat) (r : Int) (w : World) (a1 : ((n : Int) != 32) = true) (a2 : ((n : Int) != 64) = true) :
    Calls Try.prog 25 #[.slice A n c, .int .i64 u, .slice B m c1, .int .i64 r] w fun e w' => e = .returned (.bool true) ∧ Below w.heap.size w w' := by
  go_enter Try.func25, Try.ntmps25
  go_wp2_with fail
  refine (awake8 _).mono ?_
  rintro e w' ⟨rfl, hbel⟩
  go_wp2_with fail
  go_ret
  exact ⟨rfl, hbel⟩
set_option maxRecDepth 100000 in
set_option maxHeartbeats 1000000 in
theorem xpre_out32A (A : Option Addr) (n c : Nat) (u : Int) (B : Option Addr) (m c1 : Nat) (r : Int) (w : World) (a1 : ((n : Int) != 32) = false) (h : u < 0) :
    Calls Try.prog 25 #[.slice A n c, .int .i64 u, .slice B m c1, .int .i64 r] w fun e w' => e = .returned (.bool true) ∧ Below w.heap.size w w' := by
  go_enter Try.func25, Try.ntmps25
  go_wp2_with fail
  refine (awake8 _).mono ?_
  rintro e w' ⟨rfl, hbel⟩
  go_wp2_with fail
  go_ret
  exact ⟨rfl, hbel⟩
set_option maxRecDepth 100000 in
set_option maxHeartbeats 1000000 in
theorem xpre_out32B (A : Option Addr) (n c : Nat) (u : Int) (B : Option Addr) (m c1 : Nat) (r : Int) (w : World) (a1 : ((n : Int) != 32) = false) (p1 : 0 ≤ u) (h : 549755813888 < u) :
    Calls Try.prog 25 #[.slice A n c, .int .i64 u, .slice B m c1, .int .i64 r] w fun e w' => e = .returned (.bool true) ∧ Below w.heap.size w w' := by
  go_enter Try.func25, Try.ntmps25
  go_wp2_with fail
  refine (awake8 _).mono ?_
  rintro e w' ⟨rfl, hbel⟩
  go_wp2_with fail
  go_ret
  exact ⟨rfl, hbel⟩
set_option maxRecDepth 100000 in
set_option maxHeartbeats 1000000 in
theorem xpre_out32C (A : Option Addr) (n c : Nat) (u : Int) (B : Option Addr) (m c1 : Nat) (r : Int) (w : World) (a1 : ((n : Int) != 32) = false) (p1 : 0 ≤ u) (p2 : u ≤ 549755813888) (h : ((m : Int) % 16 != 0) = true) :
    Calls Try.prog 25 #[.slice A n c, .int .i64 u, .slice B m c1, .int .i64 r] w fun e w' => e = .returned (.bool true) ∧ Below w.heap.size w w' := by
  go_enter Try.func25, Try.ntmps25
  go_wp2_with fail
  refine (awake8 _).mono ?_
  rintro e w' ⟨rfl, hbel⟩
  go_wp2_with fail
  go_ret
  exact ⟨rfl, hbel⟩
set_option maxRecDepth 100000 in
set_option maxHeartbeats 1000000 in
theorem xpre_out32D (A : Option Addr) (n c : Nat) (u : Int) (B : Option Addr) (m c1 : Nat) (r : Int) (w : World) (a1 : ((n : Int) != 32) = false) (p1 : 0 ≤ u) (p2 : u ≤ 549755813888) (p4 : ((m : Int) % 16 != 0) = false) (h : 400 < m) :
    Calls Try.prog 25 #[.slice A n c, .int .i64 u, .slice B m c1, .int .i64 r] w fun e w' => e = .returned (.bool true) ∧ Below w.heap.size w w' := by
  go_enter Try.func25, Try.ntmps25
  go_wp2_with fail
  refine (awake8 _).mono ?_
  rintro e w' ⟨rfl, hbel⟩
  go_wp2_with fail
  go_ret
  exact ⟨rfl, hbel⟩
set_option maxRecDepth 100000 in
set_option maxHeartbeats 1000000 in
theorem xpre_out64A (A : Option Addr) (n c : Nat) (u : Int) (B : Option Addr) (m c1 : Nat) (r : Int) (w : World) (a1 : ((n : Int) != 32) = true) (a2 : ((n : Int) != 64) = false) (h : u < 0) :
    Calls Try.prog 25 #[.slice A n c, .int .i64 u, .slice B m c1, .int .i64 r] w fun e w' => e = .returned (.bool true) ∧ Below w.heap.size w w' := by
  go_enter Try.func25, Try.ntmps25
  go_wp2_with fail
  refine (awake8 _).mono ?_
  rintro e w' ⟨rfl, hbel⟩
  go_wp2_with fail
  go_ret
  exact ⟨rfl, hbel⟩
set_option maxRecDepth 100000 in
set_option maxHeartbeats 1000000 in
theorem xpre_out64B (A : Option Addr) (n c : Nat) (u : Int) (B : Option Addr) (m c1 : Nat) (r : Int) (w : World) (a1 : ((n : Int) != 32) = true) (a2 : ((n : Int) != 64) = false) (p1 : 0 ≤ u) (h : 549755813888 < u) :
    Calls Try.prog 25 #[.slice A n c, .int .i64 u, .slice B m c1, .int .i64 r] w fun e w' => e = .returned (.bool true) ∧ Below w.heap.size w w' := by
  go_enter Try.func25, Try.ntmps25
  go_wp2_with fail
  refine (awake8 _).mono ?_
  rintro e w' ⟨rfl, hbel⟩
  go_wp2_with fail
  go_ret
  exact ⟨rfl, hbel⟩
set_option maxRecDepth 100000 in
set_option maxHeartbeats 1000000 in
theorem xpre_out64C (A : Option Addr) (n c : Nat) (u : Int) (B : Option Addr) (m c1 : Nat) (r : Int) (w : World) (a1 : ((n : Int) != 32) = true) (a2 : ((n : Int) != 64) = false) (p1 : 0 ≤ u) (p2 : u ≤ 549755813888) (h : ((m : Int) % 16 != 0) = true) :
    Calls Try.prog 25 #[.slice A n c, .int .i64 u, .slice B m c1, .int .i64 r] w fun e w' => e = .returned (.bool true) ∧ Below w.heap.size w w' := by
  go_enter Try.func25, Try.ntmps25
  go_wp2_with fail
  refine (awake8 _).mono ?_
  rintro e w' ⟨rfl, hbel⟩
  go_wp2_with fail
  go_ret
  exact ⟨rfl, hbel⟩
set_option maxRecDepth 100000 in
set_option maxHeartbeats 1000000 in
theorem xpre_out64D (A : Option Addr) (n c : Nat) (u : Int) (B : Option Addr) (m c1 : Nat) (r : Int) (w : World) (a1 : ((n : Int) != 32) = true) (a2 : ((n : Int) != 64) = false) (p1 : 0 ≤ u) (p2 : u ≤ 549755813888) (p4 : ((m : Int) % 16 != 0) = false) (h : 400 < m) :
    Calls Try.prog 25 #[.slice A n c, .int .i64 u, .slice B m c1, .int .i64 r] w fun e w' => e = .returned (.bool true) ∧ Below w.heap.size w w' := by
  go_enter Try.func25, Try.ntmps25
  go_wp2_with fail
  refine (awake8 _).mono ?_
  rintro e w' ⟨rfl, hbel⟩
  go_wp2_with fail
  go_ret
  exact ⟨rfl, hbel⟩
set_option maxRecDepth 100000 in
set_option maxHeartbeats 8000000 in
theorem xpre_in32 (A : Option Addr) (n c : Nat) (l : List Nat) (u : Nat) (B : Option Addr) (m c1 : Nat) (d : List Nat) (r : Int) (w : World) (hl : Bytes w A n l) (hc : n ≤ c) (hd : Bytes w B m d) (hc1 : m ≤ c1) (a1 : ((n : Int) != 32) = false) (p1 : 0 ≤ (u : Int)) (p2 : (u : Int) ≤ 549755813888) (p4 : ((m : Int) % 16 != 0) = false) (p5 : m ≤ 400) (hM : MayX n (u : Int)) (hm16 : m % 16 = 0) :
    Calls Try.prog 25 #[.slice A n c, .int .i64 (u : Int), .slice B m c1, .int .i64 r] w fun e w' => e = .returned (.bool true) ∧ Below w.heap.size w w' := by
  have hM1 : MayX n ((u + 1 : Nat) : Int) := ⟨hM.1, by omega, by omega⟩
  have hue : ((u + 1 : Nat) : Int) = (u : Int) + 1 := by omega
  have HE0 : Box (∀ (w : World) (dd : List Nat) (B1 : Option Addr) (m2 n2 cc : Nat), Bytes w A n l → Bytes w B1 m2 dd → m2 ≤ cc → m2 = 16 * n2 → m2 ≤ 4096 → Calls Try.prog 69 #[.slice A n c, .int .i64 (u : Int), .slice B1 m2 cc] w (RetRow (xtL false (half1 l) (half2 l) u dd n2) m2 w)) := ⟨fun w dd B1 m2 n2 cc h1 h2 h3 h4 h5 => by
    have h6 := (xenc_yes A n c l u B1 m2 cc dd w h1 hc h2 h3 ⟨hM, by omega, h5⟩).mono fun e w' hq => hq.ret (m := m2) (by omega)
    rwa [show m2 / 16 = n2 by omega] at h6⟩
  have HE1 : Box (∀ (w : World) (dd : List Nat) (B1 : Option Addr) (m2 n2 cc : Nat), Bytes w A n l → Bytes w B1 m2 dd → m2 ≤ cc → m2 = 16 * n2 → m2 ≤ 4096 → Calls Try.prog 69 #[.slice A n c, .int .i64 ((u : Int) + 1), .slice B1 m2 cc] w (RetRow (xtL false (half1 l) (half2 l) (u + 1) dd n2) m2 w)) := ⟨fun w dd B1 m2 n2 cc h1 h2 h3 h4 h5 => by
    have h6 := (xenc_yes A n c l (u + 1) B1 m2 cc dd w h1 hc h2 h3 ⟨hM1, by omega, h5⟩).mono fun e w' hq => hq.ret (m := m2) (by omega)
    rw [hue] at h6
    rwa [show m2 / 16 = n2 by omega] at h6⟩
  have HD1 : Box (∀ (w : World) (dd : List Nat) (B1 : Option Addr) (m2 n2 cc : Nat), Bytes w A n l → Bytes w B1 m2 dd → m2 ≤ cc → m2 = 16 * n2 → m2 ≤ 4096 → Calls Try.prog 70 #[.slice A n c, .int .i64 ((u : Int) + 1), .slice B1 m2 cc] w (RetRow (xtL true (half1 l) (half2 l) (u + 1) dd n2) m2 w)) := ⟨fun w dd B1 m2 n2 cc h1 h2 h3 h4 h5 => by
    have h6 := (xdec_yes A n c l (u + 1) B1 m2 cc dd w h1 hc h2 h3 ⟨hM1, by omega, h5⟩).mono fun e w' hq => hq.ret (m := m2) (by omega)
    rw [hue] at h6
    rwa [show m2 / 16 = n2 by omega] at h6⟩
  obtain ⟨nb, hnb⟩ : ∃ nb, m / 16 = nb := ⟨_, rfl⟩
  have HNB : Box (m = 16 * nb) := ⟨by omega⟩
  have hni : (m : Int) / 16 = (nb : Int) := by omega
  have hnbl : nb ≤ 25 := by omega
  generalize half1 l = k1 at HE0 HE1 HD1
  generalize half2 l = k2 at HE0 HE1 HD1
  have hdl := hd.2.2.1
  have hbk : xtL true k1 k2 (u + 1) (xtL false k1 k2 (u + 1) d nb) nb = d := xt_back false k1 k2 (u + 1) d nb hdl (by rw [hd.1, HNB.out])
  have HR : Box (∀ w, Calls Try.prog 36 #[.int .i64 r, .int .i64 ((nb : Int) + 1)] w fun e w' => e = .returned (.int .i64 (r % ((nb : Int) + 1))) ∧ w = w') := ⟨fun w => round_any r ((nb : Int) + 1) (by omega) (by omega) w⟩
  obtain ⟨kq, hkq⟩ : ∃ kq : Nat, r % ((nb : Int) + 1) = (kq : Int) := ⟨(r % ((nb : Int) + 1)).toNat, (Int.toNat_of_nonneg (Int.emod_nonneg _ (by omega))).symm⟩
  have hkn : kq ≤ nb := by have := Int.emod_lt_of_pos r (show (0 : Int) < (nb : Int) + 1 by omega); omega
  rw [hkq] at HR
  obtain ⟨k, hk⟩ : ∃ k : Nat, k = 16 * kq := ⟨_, rfl⟩
  have HK16 := Box.mk hk
  have hkm : k ≤ m := by have := HNB.out; omega
  have hki : 16 * (kq : Int) = (k : Int) := by omega
  have hkc : (k : Int) ≤ (c1 : Int) := by omega
  have hk0 : (0 : Int) ≤ (k : Int) := by omega
  obtain ⟨xk, hxk⟩ : ∃ x, (xtL false k1 k2 u d nb).take k = x := ⟨_, rfl⟩
  have HXK : Box (xtL false k1 k2 u (d.take k) kq = xk) := ⟨by rw [← hxk, hk]; exact xtL_take _ _ _ _ _ hkn⟩
  have HXT := Box.mk hxk
  clear hk hkq hxk hdl hM hM1 hue hnb
  go_enter Try.func25, Try.ntmps25
  go_wp2_with fail
  refine (HR.out _).mono ?_
  rintro e w' ⟨rfl, rfl⟩
  go_wp2_with fail
  refine (HE0.out _ d _ m nb c1 hl hd hc1 HNB.out (by omega)).mono ?_
  rintro e w1 ⟨A1, d1, rfl, hO1, hC1, hb1⟩
  go_wp2_with fail
  refine (HE0.out _ _ _ k kq c1 (hl.below hb1) ((hd.below hb1).take hkm) (by omega) HK16.out (by omega)).mono ?_
  rintro e w2 ⟨A3, d3, rfl, hO3, hC3, hb2⟩
  rw [HXK.out] at hO3
  have hO1 := hO1.below hb2 (Nat.le_refl _)
  have hw2 := hb1.trans (hb2.mono hb1.size)
  clear hb1 hb2
  go_wp2_with fail
  refine (HE1.out _ d _ m nb c1 (hl.below hw2) (hd.below hw2) hc1 HNB.out (by omega)).mono ?_
  rintro e w4 ⟨A5, d5, rfl, hO5, hC5, hb4⟩
  have hO1 := hO1.below hb4 (Nat.le_refl _)
  have hO3 := hO3.below hb4 (Nat.le_refl _)
  have hw4 := hw2.trans (hb4.mono hw2.size)
  clear hb4 hw2
  have HP1 : Box (∀ w', Below w4.heap.size w4 w' → Bytes w' A1 k xk) := ⟨fun w' h => by
    have h2 := (hO1.rd.below h).take hkm
    rwa [HXT.out] at h2⟩
  have HP3 : Box (∀ w', Below w4.heap.size w4 w' → Bytes w' A3 k xk) := ⟨fun w' h => hO3.rd.below h⟩
  have hkd : (k : Int) ≤ (d1 : Int) := by omega
  clear HXK HXT hO1 hO3
  go_wp2_with fail
  refine wp_region_held_drew (S := fun w' => Below w4.heap.size w4 w') (by kernel_rfl) (Below.refl _ _).drew (fun hS => ?_)
  refine wpAnyH_take (i := 0) (oi := ⟨some 77, _, _, _, _, _⟩) (v := .int .i64 0) rfl (by kernel_rfl) (by kernel_rfl) (by kernel_rfl) (fun _ _ _ h => h) (Or.inl ⟨by kernel_rfl, fun w' hSw => ?_⟩) hS ?_
  · go_simp
  simp only [Act.put, List.setIfInBounds_toArray, List.set_cons_zero, List.set_cons_succ]
  refine wpAnyH_take (i := 1) (oi := ⟨some 78, _, _, _, _, _⟩) (v := .bool false) rfl (by kernel_rfl) (by kernel_rfl) (by kernel_rfl) (fun _ _ _ h => h) (Or.inl ⟨by kernel_rfl, fun w' hSw => ?_⟩) hS ?_
  · go_simp
  simp only [Act.put, List.setIfInBounds_toArray, List.set_cons_zero, List.set_cons_succ]
  refine wpAnyH_take (i := 2) (oi := ⟨some 79, _, _, _, _, _⟩) (v := .bool false) rfl (by kernel_rfl) (by kernel_rfl) (by kernel_rfl) (fun _ _ _ h => h) (Or.inl ⟨by kernel_rfl, fun w' hSw => ?_⟩) hS ?_
  · go_simp
  simp only [Act.put, List.setIfInBounds_toArray, List.set_cons_zero, List.set_cons_succ]
  refine wpAnyH_take (i := 3) (oi := ⟨some 80, _, _, _, _, _⟩) (v := .int .i64 0) rfl (by kernel_rfl) (by kernel_rfl) (by kernel_rfl) (fun _ _ _ h => h) (Or.inl ⟨by kernel_rfl, fun w' hSw => ?_⟩) hS ?_
  · go_simp
  simp only [Act.put, List.setIfInBounds_toArray, List.set_cons_zero, List.set_cons_succ]
  refine wpAnyH_take (i := 4) (oi := ⟨some 81, _, _, _, _, _⟩) (v := .bool false) rfl (by kernel_rfl) (by kernel_rfl) (by kernel_rfl) (fun _ _ _ h => h) (Or.inl ⟨by kernel_rfl, fun w' hSw => ?_⟩) hS ?_
  · go_simp
  simp only [Act.put, List.setIfInBounds_toArray, List.set_cons_zero, List.set_cons_succ]
  refine wpAnyH_take (i := 5) (oi := ⟨some 82, _, _, _, _, _⟩) (v := .bool false) rfl (by kernel_rfl) (by kernel_rfl) (by kernel_rfl) (fun _ _ _ h => h) (Or.inl ⟨by kernel_rfl, fun w' hSw => ?_⟩) hS ?_
  · go_simp
  simp only [Act.put, List.setIfInBounds_toArray, List.set_cons_zero, List.set_cons_succ]
  refine wpAnyH_take (i := 6) (oi := ⟨some 83, _, _, _, _, _⟩) (v := .bool false) rfl (by kernel_rfl) (by kernel_rfl) (by kernel_rfl) (fun _ _ _ h => h) (Or.inl ⟨by kernel_rfl, fun w' hSw => ?_⟩) hS ?_
  · go_simp
  simp only [Act.put, List.setIfInBounds_toArray, List.set_cons_zero, List.set_cons_succ]
  refine wpAnyH_take (i := 7) (oi := ⟨some 84, _, _, _, _, _⟩) (v := .int .i64 0) rfl (by kernel_rfl) (by kernel_rfl) (by kernel_rfl) (fun _ _ _ h => h) (Or.inl ⟨by kernel_rfl, fun w' hSw => ?_⟩) hS ?_
  · go_simp
  simp only [Act.put, List.setIfInBounds_toArray, List.set_cons_zero, List.set_cons_succ]
  refine wpAnyH_take (i := 8) (oi := ⟨some 85, _, _, _, _, _⟩) (v := .bool false) rfl (by kernel_rfl) (by kernel_rfl) (by kernel_rfl) (fun _ _ _ h => h) (Or.inl ⟨by kernel_rfl, fun w' hSw => ?_⟩) hS ?_
  · go_simp
  simp only [Act.put, List.setIfInBounds_toArray, List.set_cons_zero, List.set_cons_succ]
  refine wpAnyH_take (i := 9) (oi := ⟨some 86, _, _, _, _, _⟩) (v := .bool false) rfl (by kernel_rfl) (by kernel_rfl) (by kernel_rfl) (fun _ _ _ h => h) (Or.inl ⟨by kernel_rfl, fun w' hSw => ?_⟩) hS ?_
  · go_simp
  simp only [Act.put, List.setIfInBounds_toArray, List.set_cons_zero, List.set_cons_succ]
  refine wpAnyH_take (i := 10) (oi := ⟨some 87, _, _, _, _, _⟩) (v := .bool false) rfl (by kernel_rfl) (by kernel_rfl) (by kernel_rfl) (fun _ _ _ h => h) (Or.inl ⟨by kernel_rfl, fun w' hSw => ?_⟩) hS ?_
  · go_simp
  simp only [Act.put, List.setIfInBounds_toArray, List.set_cons_zero, List.set_cons_succ]
  refine wpAnyH_take (i := 11) (oi := ⟨some 88, _, _, _, _, _⟩) (v := .slice A1 m d1) rfl (by kernel_rfl) (by kernel_rfl) (by kernel_rfl) (fun _ _ _ h => h) (Or.inl ⟨by kernel_rfl, fun w' hSw => ?_⟩) hS ?_
  · go_simp
  simp only [Act.put, List.setIfInBounds_toArray, List.set_cons_zero, List.set_cons_succ]
  refine wpAnyH_take (i := 12) (oi := ⟨some 89, _, _, _, _, _⟩) (v := .int .i64 (m : Int)) rfl (by kernel_rfl) (by kernel_rfl) (by kernel_rfl) (fun _ _ _ h => h) (Or.inl ⟨by kernel_rfl, fun w' hSw => ?_⟩) hS ?_
  · go_simp
  simp only [Act.put, List.setIfInBounds_toArray, List.set_cons_zero, List.set_cons_succ]
  refine wpAnyH_take (i := 13) (oi := ⟨some 90, _, _, _, _, _⟩) (v := .slice B m c1) rfl (by kernel_rfl) (by kernel_rfl) (by kernel_rfl) (fun _ _ _ h => h) (Or.inl ⟨by kernel_rfl, fun w' hSw => ?_⟩) hS ?_
  · go_simp
  simp only [Act.put, List.setIfInBounds_toArray, List.set_cons_zero, List.set_cons_succ]
  refine wpAnyH_take (i := 14) (oi := ⟨some 91, _, _, _, _, _⟩) (v := .int .i64 (m : Int)) rfl (by kernel_rfl) (by kernel_rfl) (by kernel_rfl) (fun _ _ _ h => h) (Or.inl ⟨by kernel_rfl, fun w' hSw => ?_⟩) hS ?_
  · go_simp
  simp only [Act.put, List.setIfInBounds_toArray, List.set_cons_zero, List.set_cons_succ]
  refine wpAnyH_take (i := 15) (oi := ⟨some 92, _, _, _, _, _⟩) (v := .bool false) rfl (by kernel_rfl) (by kernel_rfl) (by kernel_rfl) (fun _ _ _ h => h) (Or.inl ⟨by kernel_rfl, fun w' hSw => ?_⟩) hS ?_
  · go_simp
  simp only [Act.put, List.setIfInBounds_toArray, List.set_cons_zero, List.set_cons_succ]
  refine wpAnyH_take (i := 16) (oi := ⟨some 93, _, _, _, _, _⟩) (v := .bool false) rfl (by kernel_rfl) (by kernel_rfl) (by kernel_rfl) (fun _ _ _ h => h) (Or.inl ⟨by kernel_rfl, fun w' hSw => ?_⟩) hS ?_
  · go_simp
  simp only [Act.put, List.setIfInBounds_toArray, List.set_cons_zero, List.set_cons_succ]
  refine wpAnyH_take (i := 17) (oi := ⟨some 94, _, _, _, _, _⟩) (v := .bool false) rfl (by kernel_rfl) (by kernel_rfl) (by kernel_rfl) (fun _ _ _ h => h) (Or.inl ⟨by kernel_rfl, fun w' hSw => ?_⟩) hS ?_
  · go_simp
  simp only [Act.put, List.setIfInBounds_toArray, List.set_cons_zero, List.set_cons_succ]
  refine wpAnyH_take (i := 18) (oi := ⟨some 95, _, _, _, _, _⟩) (v := .slice A5 m d5) rfl (by kernel_rfl) (by kernel_rfl) (by kernel_rfl) (fun _ _ _ h => h) (Or.inl ⟨by kernel_rfl, fun w' hSw => ?_⟩) hS ?_
  · go_simp
  simp only [Act.put, List.setIfInBounds_toArray, List.set_cons_zero, List.set_cons_succ]
  refine wpAnyH_take (i := 19) (oi := ⟨some 96, _, _, _, _, _⟩) (v := .int .i64 (m : Int)) rfl (by kernel_rfl) (by kernel_rfl) (by kernel_rfl) (fun _ _ _ h => h) (Or.inl ⟨by kernel_rfl, fun w' hSw => ?_⟩) hS ?_
  · go_simp
  simp only [Act.put, List.setIfInBounds_toArray, List.set_cons_zero, List.set_cons_succ]
  refine wpAnyH_take (i := 20) (oi := ⟨some 97, _, _, _, _, _⟩) (v := .slice B m c1) rfl (by kernel_rfl) (by kernel_rfl) (by kernel_rfl) (fun _ _ _ h => h) (Or.inl ⟨by kernel_rfl, fun w' hSw => ?_⟩) hS ?_
  · go_simp
  simp only [Act.put, List.setIfInBounds_toArray, List.set_cons_zero, List.set_cons_succ]
  refine wpAnyH_take (i := 21) (oi := ⟨some 98, _, _, _, _, _⟩) (v := .int .i64 (m : Int)) rfl (by kernel_rfl) (by kernel_rfl) (by kernel_rfl) (fun _ _ _ h => h) (Or.inl ⟨by kernel_rfl, fun w' hSw => ?_⟩) hS ?_
  · go_simp
  simp only [Act.put, List.setIfInBounds_toArray, List.set_cons_zero, List.set_cons_succ]
  refine wpAnyH_take (i := 22) (oi := ⟨some 99, _, _, _, _, _⟩) (v := .bool false) rfl (by kernel_rfl) (by kernel_rfl) (by kernel_rfl) (fun _ _ _ h => h) (Or.inl ⟨by kernel_rfl, fun w' hSw => ?_⟩) hS ?_
  · go_simp
  simp only [Act.put, List.setIfInBounds_toArray, List.set_cons_zero, List.set_cons_succ]
  refine wpAnyH_take (i := 23) (oi := ⟨some 100, _, _, _, _, _⟩) (v := .bool false) rfl (by kernel_rfl) (by kernel_rfl) (by kernel_rfl) (fun _ _ _ h => h) (Or.inl ⟨by kernel_rfl, fun w' hSw => ?_⟩) hS ?_
  · go_simp
  simp only [Act.put, List.setIfInBounds_toArray, List.set_cons_zero, List.set_cons_succ]
  refine wpAnyH_take (i := 24) (oi := ⟨some 101, _, _, _, _, _⟩) (v := .bool false) rfl (by kernel_rfl) (by kernel_rfl) (by kernel_rfl) (fun _ _ _ h => h) (Or.inl ⟨by kernel_rfl, fun w' hSw => ?_⟩) hS ?_
  · go_simp
  simp only [Act.put, List.setIfInBounds_toArray, List.set_cons_zero, List.set_cons_succ]
  refine wpAnyH_take (i := 25) (oi := ⟨some 102, _, _, _, _, _⟩) (v := .slice A1 m d1) rfl (by kernel_rfl) (by kernel_rfl) (by kernel_rfl) (fun _ _ _ h => h) (Or.inl ⟨by kernel_rfl, fun w' hSw => ?_⟩) hS ?_
  · go_simp
  simp only [Act.put, List.setIfInBounds_toArray, List.set_cons_zero, List.set_cons_succ]
  refine wpAnyH_take (i := 26) (oi := ⟨some 103, _, _, _, _, _⟩) (v := .int .i64 (k : Int)) rfl (by kernel_rfl) (by kernel_rfl) (by kernel_rfl) (fun _ _ _ h => h) (Or.inl ⟨by kernel_rfl, fun w' hSw => ?_⟩) hS ?_
  · go_simp
  simp only [Act.put, List.setIfInBounds_toArray, List.set_cons_zero, List.set_cons_succ]
  refine wpAnyH_take (i := 27) (oi := ⟨some 104, _, _, _, _, _⟩) (v := .slice A1 k d1) rfl (by kernel_rfl) (by kernel_rfl) (by kernel_rfl) (fun _ _ _ h => h) (Or.inl ⟨by kernel_rfl, fun w' hSw => ?_⟩) hS ?_
  · go_simp
  simp only [Act.put, List.setIfInBounds_toArray, List.set_cons_zero, List.set_cons_succ]
  refine wpAnyH_take (i := 28) (oi := ⟨some 105, _, _, _, _, _⟩) (v := .string (strL (xk))) rfl (by kernel_rfl) (by kernel_rfl) (by kernel_rfl) (fun _ _ _ h => h) (yields_str (by kernel_rfl) (.tmp 104) rfl (A1) (k) (d1) (xk) rfl (fun w' h => HP1.out w' h)) hS ?_
  simp only [Act.put, List.setIfInBounds_toArray, List.set_cons_zero, List.set_cons_succ]
  refine wpAnyH_take (i := 29) (oi := ⟨some 106, _, _, _, _, _⟩) (v := .slice A3 k d3) rfl (by kernel_rfl) (by kernel_rfl) (by kernel_rfl) (fun _ _ _ h => h) (Or.inl ⟨by kernel_rfl, fun w' hSw => ?_⟩) hS ?_
  · go_simp
  simp only [Act.put, List.setIfInBounds_toArray, List.set_cons_zero, List.set_cons_succ]
  refine wpAnyH_take (i := 30) (oi := ⟨some 107, _, _, _, _, _⟩) (v := .string (strL (xk))) rfl (by kernel_rfl) (by kernel_rfl) (by kernel_rfl) (fun _ _ _ h => h) (yields_str (by kernel_rfl) (.tmp 106) rfl (A3) (k) (d3) (xk) rfl (fun w' h => HP3.out w' h)) hS ?_
  simp only [Act.put, List.setIfInBounds_toArray, List.set_cons_zero, List.set_cons_succ]
  refine wpAnyH_take (i := 31) (oi := ⟨some 108, _, _, _, _, _⟩) (v := .bool false) rfl (by kernel_rfl) (by kernel_rfl) (by kernel_rfl) (fun _ _ _ h => h) (yields_strNe (by kernel_rfl) (.tmp 105) (.tmp 107) rfl (strL xk) (strL xk) _ (decide_eq_true rfl) rfl rfl) hS ?_
  simp only [Act.put, List.setIfInBounds_toArray, List.set_cons_zero, List.set_cons_succ]
  refine wpAnyH_take (i := 32) (oi := ⟨some 109, _, _, _, _, _⟩) (v := .bool false) rfl (by kernel_rfl) (by kernel_rfl) (by kernel_rfl) (fun _ _ _ h => h) (Or.inl ⟨by kernel_rfl, fun w' hSw => ?_⟩) hS ?_
  · go_simp
  simp only [Act.put, List.setIfInBounds_toArray, List.set_cons_zero, List.set_cons_succ]
  refine wpAnyH_done (by kernel_rfl) ?_ _
  go_wp2_with fail
  have hO5 := hO5.below hS (Nat.le_refl _)
  have hw5 := hw4.trans (hS.mono hw4.size)
  refine (HD1.out _ _ _ m nb d5 (hl.below hw5) hO5.rd hC5 HNB.out (by omega)).mono ?_
  rintro e w6 ⟨A7, d7, rfl, hO7, hC7, hb6⟩
  rw [hbk] at hO7
  have hw6 := hw5.trans (hb6.mono hw5.size)
  have hd6 := hd.below hw6
  clear hS hb6 hw5 hw4 hO5 hbk
  go_wp2_with (first
      | ((with_reducible show wpList _ _ _ (⟨some 122, Op.convert 29 9 (.tmp 121), _, _, _, _⟩ :: _) _ _); refine wpList_unguard (by kernel_rfl) ?_; refine wpList_str rfl (.tmp 121) rfl A7 m d7 d rfl hO7.rd ?_)
      | ((with_reducible show wpList _ _ _ (⟨some 124, Op.convert 29 9 (.tmp 123), _, _, _, _⟩ :: _) _ _); refine wpList_unguard (by kernel_rfl) ?_; refine wpList_str rfl (.tmp 123) rfl B m c1 d rfl hd6 ?_)
      | ((with_reducible show wpList _ _ _ (⟨some 125, Op.binOp BinOp.eql 9 (.tmp 122) (.tmp 124) 9, _, _, _, _⟩ :: _) _ _); refine wpList_unguard (by kernel_rfl) ?_; refine wpList_strEq rfl (.tmp 122) (.tmp 124) rfl (strL d) (strL d) true (decide_eq_true rfl) rfl rfl ?_))
  refine (awake8 _).mono ?_
  rintro e w' ⟨rfl, hbel⟩
  go_wp2_with fail
  go_ret
  exact ⟨rfl, hw6.trans (hbel.mono hw6.size)⟩
set_option maxRecDepth 100000 in
set_option maxHeartbeats 8000000 in
theorem xpre_in64 (A : Option Addr) (n c : Nat) (l : List Nat) (u : Nat) (B : Option Addr) (m c1 : Nat) (d : List Nat) (r : Int) (w : World) (hl : Bytes w A n l) (hc : n ≤ c) (hd : Bytes w B m d) (hc1 : m ≤ c1) (a1 : ((n : Int) != 32) = true) (a2 : ((n : Int) != 64) = false) (p1 : 0 ≤ (u : Int)) (p2 : (u : Int) ≤ 549755813888) (p4 : ((m : Int) % 16 != 0) = false) (p5 : m ≤ 400) (hM : MayX n (u : Int)) (hm16 : m % 16 = 0) :
    Calls Try.prog 25 #[.slice A n c, .int .i64 (u : Int), .slice B m c1, .int .i64 r] w fun e w' => e = .returned (.bool true) ∧ Below w.heap.size w w' := by
  have hM1 : MayX n ((u + 1 : Nat) : Int) := ⟨hM.1, by omega, by omega⟩
  have hue : ((u + 1 : Nat) : Int) = (u : Int) + 1 := by omega
  have HE0 : Box (∀ (w : World) (dd : List Nat) (B1 : Option Addr) (m2 n2 cc : Nat), Bytes w A n l → Bytes w B1 m2 dd → m2 ≤ cc → m2 = 16 * n2 → m2 ≤ 4096 → Calls Try.prog 69 #[.slice A n c, .int .i64 (u : Int), .slice B1 m2 cc] w (RetRow (xtL false (half1 l) (half2 l) u dd n2) m2 w)) := ⟨fun w dd B1 m2 n2 cc h1 h2 h3 h4 h5 => by
    have h6 := (xenc_yes A n c l u B1 m2 cc dd w h1 hc h2 h3 ⟨hM, by omega, h5⟩).mono fun e w' hq => hq.ret (m := m2) (by omega)
    rwa [show m2 / 16 = n2 by omega] at h6⟩
  have HE1 : Box (∀ (w : World) (dd : List Nat) (B1 : Option Addr) (m2 n2 cc : Nat), Bytes w A n l → Bytes w B1 m2 dd → m2 ≤ cc → m2 = 16 * n2 → m2 ≤ 4096 → Calls Try.prog 69 #[.slice A n c, .int .i64 ((u : Int) + 1), .slice B1 m2 cc] w (RetRow (xtL false (half1 l) (half2 l) (u + 1) dd n2) m2 w)) := ⟨fun w dd B1 m2 n2 cc h1 h2 h3 h4 h5 => by
    have h6 := (xenc_yes A n c l (u + 1) B1 m2 cc dd w h1 hc h2 h3 ⟨hM1, by omega, h5⟩).mono fun e w' hq => hq.ret (m := m2) (by omega)
    rw [hue] at h6
    rwa [show m2 / 16 = n2 by omega] at h6⟩
  have HD1 : Box (∀ (w : World) (dd : List Nat) (B1 : Option Addr) (m2 n2 cc : Nat), Bytes w A n l → Bytes w B1 m2 dd → m2 ≤ cc → m2 = 16 * n2 → m2 ≤ 4096 → Calls Try.prog 70 #[.slice A n c, .int .i64 ((u : Int) + 1), .slice B1 m2 cc] w (RetRow (xtL true (half1 l) (half2 l) (u + 1) dd n2) m2 w)) := ⟨fun w dd B1 m2 n2 cc h1 h2 h3 h4 h5 => by
    have h6 := (xdec_yes A n c l (u + 1) B1 m2 cc dd w h1 hc h2 h3 ⟨hM1, by omega, h5⟩).mono fun e w' hq => hq.ret (m := m2) (by omega)
    rw [hue] at h6
    rwa [show m2 / 16 = n2 by omega] at h6⟩
  obtain ⟨nb, hnb⟩ : ∃ nb, m / 16 = nb := ⟨_, rfl⟩
  have HNB : Box (m = 16 * nb) := ⟨by omega⟩
  have hni : (m : Int) / 16 = (nb : Int) := by omega
  have hnbl : nb ≤ 25 := by omega
  generalize half1 l = k1 at HE0 HE1 HD1
  generalize half2 l = k2 at HE0 HE1 HD1
  have hdl := hd.2.2.1
  have hbk : xtL true k1 k2 (u + 1) (xtL false k1 k2 (u + 1) d nb) nb = d := xt_back false k1 k2 (u + 1) d nb hdl (by rw [hd.1, HNB.out])
  have HR : Box (∀ w, Calls Try.prog 36 #[.int .i64 r, .int .i64 ((nb : Int) + 1)] w fun e w' => e = .returned (.int .i64 (r % ((nb : Int) + 1))) ∧ w = w') := ⟨fun w => round_any r ((nb : Int) + 1) (by omega) (by omega) w⟩
  obtain ⟨kq, hkq⟩ : ∃ kq : Nat, r % ((nb : Int) + 1) = (kq : Int) := ⟨(r % ((nb : Int) + 1)).toNat, (Int.toNat_of_nonneg (Int.emod_nonneg _ (by omega))).symm⟩
  have hkn : kq ≤ nb := by have := Int.emod_lt_of_pos r (show (0 : Int) < (nb : Int) + 1 by omega); omega
  rw [hkq] at HR
  obtain ⟨k, hk⟩ : ∃ k : Nat, k = 16 * kq := ⟨_, rfl⟩
  have HK16 := Box.mk hk
  have hkm : k ≤ m := by have := HNB.out; omega
  have hki : 16 * (kq : Int) = (k : Int) := by omega
  have hkc : (k : Int) ≤ (c1 : Int) := by omega
  have hk0 : (0 : Int) ≤ (k : Int) := by omega
  obtain ⟨xk, hxk⟩ : ∃ x, (xtL false k1 k2 u d nb).take k = x := ⟨_, rfl⟩
  have HXK : Box (xtL false k1 k2 u (d.take k) kq = xk) := ⟨by rw [← hxk, hk]; exact xtL_take _ _ _ _ _ hkn⟩
  have HXT := Box.mk hxk
  clear hk hkq hxk hdl hM hM1 hue hnb
  go_enter Try.func25, Try.ntmps25
  go_wp2_with fail
  refine (HR.out _).mono ?_
  rintro e w' ⟨rfl, rfl⟩
  go_wp2_with fail
  refine (HE0.out _ d _ m nb c1 hl hd hc1 HNB.out (by omega)).mono ?_
  rintro e w1 ⟨A1, d1, rfl, hO1, hC1, hb1⟩
  go_wp2_with fail
  refine (HE0.out _ _ _ k kq c1 (hl.below hb1) ((hd.below hb1).take hkm) (by omega) HK16.out (by omega)).mono ?_
  rintro e w2 ⟨A3, d3, rfl, hO3, hC3, hb2⟩
  rw [HXK.out] at hO3
  have hO1 := hO1.below hb2 (Nat.le_refl _)
  have hw2 := hb1.trans (hb2.mono hb1.size)
  clear hb1 hb2
  go_wp2_with fail
  refine (HE1.out _ d _ m nb c1 (hl.below hw2) (hd.below hw2) hc1 HNB.out (by omega)).mono ?_
  rintro e w4 ⟨A5, d5, rfl, hO5, hC5, hb4⟩
  have hO1 := hO1.below hb4 (Nat.le_refl _)
  have hO3 := hO3.below hb4 (Nat.le_refl _)
  have hw4 := hw2.trans (hb4.mono hw2.size)
  clear hb4 hw2
  have HP1 : Box (∀ w', Below w4.heap.size w4 w' → Bytes w' A1 k xk) := ⟨fun w' h => by
    have h2 := (hO1.rd.below h).take hkm
    rwa [HXT.out] at h2⟩
  have HP3 : Box (∀ w', Below w4.heap.size w4 w' → Bytes w' A3 k xk) := ⟨fun w' h => hO3.rd.below h⟩
  have hkd : (k : Int) ≤ (d1 : Int) := by omega
  clear HXK HXT hO1 hO3
  go_wp2_with fail
  refine wp_region_held_drew (S := fun w' => Below w4.heap.size w4 w') (by kernel_rfl) (Below.refl _ _).drew (fun hS => ?_)
  refine wpAnyH_take (i := 0) (oi := ⟨some 77, _, _, _, _, _⟩) (v := .int .i64 0) rfl (by kernel_rfl) (by kernel_rfl) (by kernel_rfl) (fun _ _ _ h => h) (Or.inl ⟨by kernel_rfl, fun w' hSw => ?_⟩) hS ?_
  · go_simp
  simp only [Act.put, List.setIfInBounds_toArray, List.set_cons_zero, List.set_cons_succ]
  refine wpAnyH_take (i := 1) (oi := ⟨some 78, _, _, _, _, _⟩) (v := .bool false) rfl (by kernel_rfl) (by kernel_rfl) (by kernel_rfl) (fun _ _ _ h => h) (Or.inl ⟨by kernel_rfl, fun w' hSw => ?_⟩) hS ?_
  · go_simp
  simp only [Act.put, List.setIfInBounds_toArray, List.set_cons_zero, List.set_cons_succ]
  refine wpAnyH_take (i := 2) (oi := ⟨some 79, _, _, _, _, _⟩) (v := .bool false) rfl (by kernel_rfl) (by kernel_rfl) (by kernel_rfl) (fun _ _ _ h => h) (Or.inl ⟨by kernel_rfl, fun w' hSw => ?_⟩) hS ?_
  · go_simp
  simp only [Act.put, List.setIfInBounds_toArray, List.set_cons_zero, List.set_cons_succ]
  refine wpAnyH_take (i := 3) (oi := ⟨some 80, _, _, _, _, _⟩) (v := .int .i64 0) rfl (by kernel_rfl) (by kernel_rfl) (by kernel_rfl) (fun _ _ _ h => h) (Or.inl ⟨by kernel_rfl, fun w' hSw => ?_⟩) hS ?_
  · go_simp
  simp only [Act.put, List.setIfInBounds_toArray, List.set_cons_zero, List.set_cons_succ]
  refine wpAnyH_take (i := 4) (oi := ⟨some 81, _, _, _, _, _⟩) (v := .bool false) rfl (by kernel_rfl) (by kernel_rfl) (by kernel_rfl) (fun _ _ _ h => h) (Or.inl ⟨by kernel_rfl, fun w' hSw => ?_⟩) hS ?_
  · go_simp
  simp only [Act.put, List.setIfInBounds_toArray, List.set_cons_zero, List.set_cons_succ]
  refine wpAnyH_take (i := 5) (oi := ⟨some 82, _, _, _, _, _⟩) (v := .bool false) rfl (by kernel_rfl) (by kernel_rfl) (by kernel_rfl) (fun _ _ _ h => h) (Or.inl ⟨by kernel_rfl, fun w' hSw => ?_⟩) hS ?_
  · go_simp
  simp only [Act.put, List.setIfInBounds_toArray, List.set_cons_zero, List.set_cons_succ]
  refine wpAnyH_take (i := 6) (oi := ⟨some 83, _, _, _, _, _⟩) (v := .bool false) rfl (by kernel_rfl) (by kernel_rfl) (by kernel_rfl) (fun _ _ _ h => h) (Or.inl ⟨by kernel_rfl, fun w' hSw => ?_⟩) hS ?_
  · go_simp
  simp only [Act.put, List.setIfInBounds_toArray, List.set_cons_zero, List.set_cons_succ]
  refine wpAnyH_take (i := 7) (oi := ⟨some 84, _, _, _, _, _⟩) (v := .int .i64 0) rfl (by kernel_rfl) (by kernel_rfl) (by kernel_rfl) (fun _ _ _ h => h) (Or.inl ⟨by kernel_rfl, fun w' hSw => ?_⟩) hS ?_
  · go_simp
  simp only [Act.put, List.setIfInBounds_toArray, List.set_cons_zero, List.set_cons_succ]
  refine wpAnyH_take (i := 8) (oi := ⟨some 85, _, _, _, _, _⟩) (v := .bool false) rfl (by kernel_rfl) (by kernel_rfl) (by kernel_rfl) (fun _ _ _ h => h) (Or.inl ⟨by kernel_rfl, fun w' hSw => ?_⟩) hS ?_
  · go_simp
  simp only [Act.put, List.setIfInBounds_toArray, List.set_cons_zero, List.set_cons_succ]
  refine wpAnyH_take (i := 9) (oi := ⟨some 86, _, _, _, _, _⟩) (v := .bool false) rfl (by kernel_rfl) (by kernel_rfl) (by kernel_rfl) (fun _ _ _ h => h) (Or.inl ⟨by kernel_rfl, fun w' hSw => ?_⟩) hS ?_
  · go_simp
  simp only [Act.put, List.setIfInBounds_toArray, List.set_cons_zero, List.set_cons_succ]
  refine wpAnyH_take (i := 10) (oi := ⟨some 87, _, _, _, _, _⟩) (v := .bool false) rfl (by kernel_rfl) (by kernel_rfl) (by kernel_rfl) (fun _ _ _ h => h) (Or.inl ⟨by kernel_rfl, fun w' hSw => ?_⟩) hS ?_
  · go_simp
  simp only [Act.put, List.setIfInBounds_toArray, List.set_cons_zero, List.set_cons_succ]
  refine wpAnyH_take (i := 11) (oi := ⟨some 88, _, _, _, _, _⟩) (v := .slice A1 m d1) rfl (by kernel_rfl) (by kernel_rfl) (by kernel_rfl) (fun _ _ _ h => h) (Or.inl ⟨by kernel_rfl, fun w' hSw => ?_⟩) hS ?_
  · go_simp
  simp only [Act.put, List.setIfInBounds_toArray, List.set_cons_zero, List.set_cons_succ]
  refine wpAnyH_take (i := 12) (oi := ⟨some 89, _, _, _, _, _⟩) (v := .int .i64 (m : Int)) rfl (by kernel_rfl) (by kernel_rfl) (by kernel_rfl) (fun _ _ _ h => h) (Or.inl ⟨by kernel_rfl, fun w' hSw => ?_⟩) hS ?_
  · go_simp
  simp only [Act.put, List.setIfInBounds_toArray, List.set_cons_zero, List.set_cons_succ]
  refine wpAnyH_take (i := 13) (oi := ⟨some 90, _, _, _, _, _⟩) (v := .slice B m c1) rfl (by kernel_rfl) (by kernel_rfl) (by kernel_rfl) (fun _ _ _ h => h) (Or.inl ⟨by kernel_rfl, fun w' hSw => ?_⟩) hS ?_
  · go_simp
  simp only [Act.put, List.setIfInBounds_toArray, List.set_cons_zero, List.set_cons_succ]
  refine wpAnyH_take (i := 14) (oi := ⟨some 91, _, _, _, _, _⟩) (v := .int .i64 (m : Int)) rfl (by kernel_rfl) (by kernel_rfl) (by kernel_rfl) (fun _ _ _ h => h) (Or.inl ⟨by kernel_rfl, fun w' hSw => ?_⟩) hS ?_
  · go_simp
  simp only [Act.put, List.setIfInBounds_toArray, List.set_cons_zero, List.set_cons_succ]
  refine wpAnyH_take (i := 15) (oi := ⟨some 92, _, _, _, _, _⟩) (v := .bool false) rfl (by kernel_rfl) (by kernel_rfl) (by kernel_rfl) (fun _ _ _ h => h) (Or.inl ⟨by kernel_rfl, fun w' hSw => ?_⟩) hS ?_
  · go_simp
  simp only [Act.put, List.setIfInBounds_toArray, List.set_cons_zero, List.set_cons_succ]
  refine wpAnyH_take (i := 16) (oi := ⟨some 93, _, _, _, _, _⟩) (v := .bool false) rfl (by kernel_rfl) (by kernel_rfl) (by kernel_rfl) (fun _ _ _ h => h) (Or.inl ⟨by kernel_rfl, fun w' hSw => ?_⟩) hS ?_
  · go_simp
  simp only [Act.put, List.setIfInBounds_toArray, List.set_cons_zero, List.set_cons_succ]
  refine wpAnyH_take (i := 17) (oi := ⟨some 94, _, _, _, _, _⟩) (v := .bool false) rfl (by kernel_rfl) (by kernel_rfl) (by kernel_rfl) (fun _ _ _ h => h) (Or.inl ⟨by kernel_rfl, fun w' hSw => ?_⟩) hS ?_
  · go_simp
  simp only [Act.put, List.setIfInBounds_toArray, List.set_cons_zero, List.set_cons_succ]
  refine wpAnyH_take (i := 18) (oi := ⟨some 95, _, _, _, _, _⟩) (v := .slice A5 m d5) rfl (by kernel_rfl) (by kernel_rfl) (by kernel_rfl) (fun _ _ _ h => h) (Or.inl ⟨by kernel_rfl, fun w' hSw => ?_⟩) hS ?_
  · go_simp
  simp only [Act.put, List.setIfInBounds_toArray, List.set_cons_zero, List.set_cons_succ]
  refine wpAnyH_take (i := 19) (oi := ⟨some 96, _, _, _, _, _⟩) (v := .int .i64 (m : Int)) rfl (by kernel_rfl) (by kernel_rfl) (by kernel_rfl) (fun _ _ _ h => h) (Or.inl ⟨by kernel_rfl, fun w' hSw => ?_⟩) hS ?_
  · go_simp
  simp only [Act.put, List.setIfInBounds_toArray, List.set_cons_zero, List.set_cons_succ]
  refine wpAnyH_take (i := 20) (oi := ⟨some 97, _, _, _, _, _⟩) (v := .slice B m c1) rfl (by kernel_rfl) (by kernel_rfl) (by kernel_rfl) (fun _ _ _ h => h) (Or.inl ⟨by kernel_rfl, fun w' hSw => ?_⟩) hS ?_
  · go_simp
  simp only [Act.put, List.setIfInBounds_toArray, List.set_cons_zero, List.set_cons_succ]
  refine wpAnyH_take (i := 21) (oi := ⟨some 98, _, _, _, _, _⟩) (v := .int .i64 (m : Int)) rfl (by kernel_rfl) (by kernel_rfl) (by kernel_rfl) (fun _ _ _ h => h) (Or.inl ⟨by kernel_rfl, fun w' hSw => ?_⟩) hS ?_
  · go_simp
  simp only [Act.put, List.setIfInBounds_toArray, List.set_cons_zero, List.set_cons_succ]
  refine wpAnyH_take (i := 22) (oi := ⟨some 99, _, _, _, _, _⟩) (v := .bool false) rfl (by kernel_rfl) (by kernel_rfl) (by kernel_rfl) (fun _ _ _ h => h) (Or.inl ⟨by kernel_rfl, fun w' hSw => ?_⟩) hS ?_
  · go_simp
  simp only [Act.put, List.setIfInBounds_toArray, List.set_cons_zero, List.set_cons_succ]
  refine wpAnyH_take (i := 23) (oi := ⟨some 100, _, _, _, _, _⟩) (v := .bool false) rfl (by kernel_rfl) (by kernel_rfl) (by kernel_rfl) (fun _ _ _ h => h) (Or.inl ⟨by kernel_rfl, fun w' hSw => ?_⟩) hS ?_
  · go_simp
  simp only [Act.put, List.setIfInBounds_toArray, List.set_cons_zero, List.set_cons_succ]
  refine wpAnyH_take (i := 24) (oi := ⟨some 101, _, _, _, _, _⟩) (v := .bool false) rfl (by kernel_rfl) (by kernel_rfl) (by kernel_rfl) (fun _ _ _ h => h) (Or.inl ⟨by kernel_rfl, fun w' hSw => ?_⟩) hS ?_
  · go_simp
  simp only [Act.put, List.setIfInBounds_toArray, List.set_cons_zero, List.set_cons_succ]
  refine wpAnyH_take (i := 25) (oi := ⟨some 102, _, _, _, _, _⟩) (v := .slice A1 m d1) rfl (by kernel_rfl) (by kernel_rfl) (by kernel_rfl) (fun _ _ _ h => h) (Or.inl ⟨by kernel_rfl, fun w' hSw => ?_⟩) hS ?_
  · go_simp
  simp only [Act.put, List.setIfInBounds_toArray, List.set_cons_zero, List.set_cons_succ]
  refine wpAnyH_take (i := 26) (oi := ⟨some 103, _, _, _, _, _⟩) (v := .int .i64 (k : Int)) rfl (by kernel_rfl) (by kernel_rfl) (by kernel_rfl) (fun _ _ _ h => h) (Or.inl ⟨by kernel_rfl, fun w' hSw => ?_⟩) hS ?_
  · go_simp
  simp only [Act.put, List.setIfInBounds_toArray, List.set_cons_zero, List.set_cons_succ]
  refine wpAnyH_take (i := 27) (oi := ⟨some 104, _, _, _, _, _⟩) (v := .slice A1 k d1) rfl (by kernel_rfl) (by kernel_rfl) (by kernel_rfl) (fun _ _ _ h => h) (Or.inl ⟨by kernel_rfl, fun w' hSw => ?_⟩) hS ?_
  · go_simp
  simp only [Act.put, List.setIfInBounds_toArray, List.set_cons_zero, List.set_cons_succ]
  refine wpAnyH_take (i := 28) (oi := ⟨some 105, _, _, _, _, _⟩) (v := .string (strL (xk))) rfl (by kernel_rfl) (by kernel_rfl) (by kernel_rfl) (fun _ _ _ h => h) (yields_str (by kernel_rfl) (.tmp 104) rfl (A1) (k) (d1) (xk) rfl (fun w' h => HP1.out w' h)) hS ?_
  simp only [Act.put, List.setIfInBounds_toArray, List.set_cons_zero, List.set_cons_succ]
  refine wpAnyH_take (i := 29) (oi := ⟨some 106, _, _, _, _, _⟩) (v := .slice A3 k d3) rfl (by kernel_rfl) (by kernel_rfl) (by kernel_rfl) (fun _ _ _ h => h) (Or.inl ⟨by kernel_rfl, fun w' hSw => ?_⟩) hS ?_
  · go_simp
  simp only [Act.put, List.setIfInBounds_toArray, List.set_cons_zero, List.set_cons_succ]
  refine wpAnyH_take (i := 30) (oi := ⟨some 107, _, _, _, _, _⟩) (v := .string (strL (xk))) rfl (by kernel_rfl) (by kernel_rfl) (by kernel_rfl) (fun _ _ _ h => h) (yields_str (by kernel_rfl) (.tmp 106) rfl (A3) (k) (d3) (xk) rfl (fun w' h => HP3.out w' h)) hS ?_
  simp only [Act.put, List.setIfInBounds_toArray, List.set_cons_zero, List.set_cons_succ]
  refine wpAnyH_take (i := 31) (oi := ⟨some 108, _, _, _, _, _⟩) (v := .bool false) rfl (by kernel_rfl) (by kernel_rfl) (by kernel_rfl) (fun _ _ _ h => h) (yields_strNe (by kernel_rfl) (.tmp 105) (.tmp 107) rfl (strL xk) (strL xk) _ (decide_eq_true rfl) rfl rfl) hS ?_
  simp only [Act.put, List.setIfInBounds_toArray, List.set_cons_zero, List.set_cons_succ]
  refine wpAnyH_take (i := 32) (oi := ⟨some 109, _, _, _, _, _⟩) (v := .bool false) rfl (by kernel_rfl) (by kernel_rfl) (by kernel_rfl) (fun _ _ _ h => h) (Or.inl ⟨by kernel_rfl, fun w' hSw => ?_⟩) hS ?_
  · go_simp
  simp only [Act.put, List.setIfInBounds_toArray, List.set_cons_zero, List.set_cons_succ]
  refine wpAnyH_done (by kernel_rfl) ?_ _
  go_wp2_with fail
  have hO5 := hO5.below hS (Nat.le_refl _)
  have hw5 := hw4.trans (hS.mono hw4.size)
  refine (HD1.out _ _ _ m nb d5 (hl.below hw5) hO5.rd hC5 HNB.out (by omega)).mono ?_
  rintro e w6 ⟨A7, d7, rfl, hO7, hC7, hb6⟩
  rw [hbk] at hO7
  have hw6 := hw5.trans (hb6.mono hw5.size)
  have hd6 := hd.below hw6
  clear hS hb6 hw5 hw4 hO5 hbk
  go_wp2_with (first
      | ((with_reducible show wpList _ _ _ (⟨some 122, Op.convert 29 9 (.tmp 121), _, _, _, _⟩ :: _) _ _); refine wpList_unguard (by kernel_rfl) ?_; refine wpList_str rfl (.tmp 121) rfl A7 m d7 d rfl hO7.rd ?_)
      | ((with_reducible show wpList _ _ _ (⟨some 124, Op.convert 29 9 (.tmp 123), _, _, _, _⟩ :: _) _ _); refine wpList_unguard (by kernel_rfl) ?_; refine wpList_str rfl (.tmp 123) rfl B m c1 d rfl hd6 ?_)
      | ((with_reducible show wpList _ _ _ (⟨some 125, Op.binOp BinOp.eql 9 (.tmp 122) (.tmp 124) 9, _, _, _, _⟩ :: _) _ _); refine wpList_unguard (by kernel_rfl) ?_; refine wpList_strEq rfl (.tmp 122) (.tmp 124) rfl (strL d) (strL d) true (decide_eq_true rfl) rfl rfl ?_))
  refine (awake8 _).mono ?_
  rintro e w' ⟨rfl, hbel⟩
  go_wp2_with fail
  go_ret
  exact ⟨rfl, hw6.trans (hbel.mono hw6.size)⟩
theorem xtsPrefix_walk {w : World} (A : Option Addr) (n c : Nat) (l : List Nat) (hc : n ≤ c) (hl : Bytes w A n l) (u : Int) (_u0 : -9223372036854775808 ≤ u) (_u1 : u ≤ 9223372036854775807) (B : Option Addr) (m c1 : Nat) (d : List Nat) (hc1 : m ≤ c1) (hd : Bytes w B m d)
    (r : Int) (_a0 : -9223372036854775808 ≤ r) (_a1 : r ≤ 9223372036854775807) :
    Calls Try.prog 25 #[.slice A n c, .int .i64 u, .slice B m c1, .int .i64 r] w fun e w' => e = .returned (.bool true) ∧ Below w.heap.size w w' := by
  by_cases h32 : n = 32
  · have a1 : ((n : Int) != 32) = false := by simp; omega
    by_cases u0 : u < 0
    · exact xpre_out32A A n c u B m c1 r w a1 u0
    · by_cases u1 : 549755813888 < u
      · exact xpre_out32B A n c u B m c1 r w a1 (by omega) u1
      · by_cases m1 : m % 16 = 0
        · by_cases m2 : m ≤ 400
          · obtain ⟨v, rfl⟩ := Int.eq_ofNat_of_zero_le (show 0 ≤ u by omega)
            exact xpre_in32 A n c l v B m c1 d r w hl hc hd hc1 a1 (by omega) (by omega) (by simp; omega) m2 ⟨.inl h32, by omega, by omega⟩ m1
          · exact xpre_out32D A n c u B m c1 r w a1 (by omega) (by omega) (by simp; omega) (by omega)
        · exact xpre_out32C A n c u B m c1 r w a1 (by omega) (by omega) (by simp; omega)
  · have a1 : ((n : Int) != 32) = true := by simp; omega
    by_cases h64 : n = 64
    · have a2 : ((n : Int) != 64) = false := by simp; omega
      by_cases u0 : u < 0
      · exact xpre_out64A A n c u B m c1 r w a1 a2 u0
      · by_cases u1 : 549755813888 < u
        · exact xpre_out64B A n c u B m c1 r w a1 a2 (by omega) u1
        · by_cases m1 : m % 16 = 0
          · by_cases m2 : m ≤ 400
            · obtain ⟨v, rfl⟩ := Int.eq_ofNat_of_zero_le (show 0 ≤ u by omega)
              exact xpre_in64 A n c l v B m c1 d r w hl hc hd hc1 a1 a2 (by omega) (by omega) (by simp; omega) m2 ⟨.inr h64, by omega, by omega⟩ m1
            · exact xpre_out64D A n c u B m c1 r w a1 a2 (by omega) (by omega) (by simp; omega) (by omega)
          · exact xpre_out64C A n c u B m c1 r w a1 a2 (by omega) (by omega) (by simp; omega)
    · exact xpre_outN A n c u B m c1 r w a1 (by simp; omega)
end Go.Proofs.Ytibfihjcjohadaa
