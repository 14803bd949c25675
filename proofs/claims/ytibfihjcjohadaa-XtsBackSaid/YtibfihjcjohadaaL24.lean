/-
  The walk of the law on sectors forth and back: it returns true, whatever the input, and writes nothing that was there.
-/
import Derived.Test.YtibfihjcjohadaaXL
namespace Go.Proofs.Ytibfihjcjohadaa
open Go.RowKit Go.Op
open Twk (byt)
set_option maxRecDepth 100000 in
set_option maxHeartbeats 1000000 in
theorem xback_outN (A : Option Addr) (n c : Nat) (u : Int) (B : Option Addr) (m c1 : Nat) (at_ by_ : Int) (w : World) (a1 : ((n : Int) != 32) = true) (a2 : ((n : Int) != 64) = true) :
    Calls Try.prog 24 #[.slice A n c, .int .i64 u, .slice B m c1, .int .i64 at_, .int .i64 by_] w fun e w' => e = .returned (.bool true) ∧ Below w.heap.size w w' := by
  go_enter Try.func24, Try.ntmps24
  go_wp2_with fail
  refine (awake8 _).mono ?_
  rintro e w' ⟨rfl, hbel⟩
  go_wp2_with fail
  go_ret
  exact ⟨rfl, hbel⟩
set_option maxRecDepth 100000 in
set_option maxHeartbeats 1000000 in
theorem xback_out32A (A : Option Addr) (n c : Nat) (u : Int) (B : Option Addr) (m c1 : Nat) (at_ by_ : Int) (w : World) (a1 : ((n : Int) != 32) = false) (h : u < 0) :
    Calls Try.prog 24 #[.slice A n c, .int .i64 u, .slice B m c1, .int .i64 at_, .int .i64 by_] w fun e w' => e = .returned (.bool true) ∧ Below w.heap.size w w' := by
  go_enter Try.func24, Try.ntmps24
  go_wp2_with fail
  refine (awake8 _).mono ?_
  rintro e w' ⟨rfl, hbel⟩
  go_wp2_with fail
  go_ret
  exact ⟨rfl, hbel⟩
set_option maxRecDepth 100000 in
set_option maxHeartbeats 1000000 in
theorem xback_out32B (A : Option Addr) (n c : Nat) (u : Int) (B : Option Addr) (m c1 : Nat) (at_ by_ : Int) (w : World) (a1 : ((n : Int) != 32) = false) (p1 : 0 ≤ u) (h : 1099511627776 < u) :
    Calls Try.prog 24 #[.slice A n c, .int .i64 u, .slice B m c1, .int .i64 at_, .int .i64 by_] w fun e w' => e = .returned (.bool true) ∧ Below w.heap.size w w' := by
  go_enter Try.func24, Try.ntmps24
  go_wp2_with fail
  refine (awake8 _).mono ?_
  rintro e w' ⟨rfl, hbel⟩
  go_wp2_with fail
  go_ret
  exact ⟨rfl, hbel⟩
set_option maxRecDepth 100000 in
set_option maxHeartbeats 1000000 in
theorem xback_out32C (A : Option Addr) (n c : Nat) (u : Int) (B : Option Addr) (m c1 : Nat) (at_ by_ : Int) (w : World) (a1 : ((n : Int) != 32) = false) (p1 : 0 ≤ u) (p2 : u ≤ 1099511627776) (h : ((m : Int) == 0) = true) :
    Calls Try.prog 24 #[.slice A n c, .int .i64 u, .slice B m c1, .int .i64 at_, .int .i64 by_] w fun e w' => e = .returned (.bool true) ∧ Below w.heap.size w w' := by
  go_enter Try.func24, Try.ntmps24
  go_wp2_with fail
  refine (awake8 _).mono ?_
  rintro e w' ⟨rfl, hbel⟩
  go_wp2_with fail
  go_ret
  exact ⟨rfl, hbel⟩
set_option maxRecDepth 100000 in
set_option maxHeartbeats 1000000 in
theorem xback_out32D (A : Option Addr) (n c : Nat) (u : Int) (B : Option Addr) (m c1 : Nat) (at_ by_ : Int) (w : World) (a1 : ((n : Int) != 32) = false) (p1 : 0 ≤ u) (p2 : u ≤ 1099511627776) (p3 : ((m : Int) == 0) = false) (h : ((m : Int) % 16 != 0) = true) :
    Calls Try.prog 24 #[.slice A n c, .int .i64 u, .slice B m c1, .int .i64 at_, .int .i64 by_] w fun e w' => e = .returned (.bool true) ∧ Below w.heap.size w w' := by
  go_enter Try.func24, Try.ntmps24
  go_wp2_with fail
  refine (awake8 _).mono ?_
  rintro e w' ⟨rfl, hbel⟩
  go_wp2_with fail
  go_ret
  exact ⟨rfl, hbel⟩
set_option maxRecDepth 100000 in
set_option maxHeartbeats 1000000 in
theorem xback_out32E (A : Option Addr) (n c : Nat) (u : Int) (B : Option Addr) (m c1 : Nat) (at_ by_ : Int) (w : World) (a1 : ((n : Int) != 32) = false) (p1 : 0 ≤ u) (p2 : u ≤ 1099511627776) (p3 : ((m : Int) == 0) = false) (p4 : ((m : Int) % 16 != 0) = false) (h : 400 < m) :
    Calls Try.prog 24 #[.slice A n c, .int .i64 u, .slice B m c1, .int .i64 at_, .int .i64 by_] w fun e w' => e = .returned (.bool true) ∧ Below w.heap.size w w' := by
  go_enter Try.func24, Try.ntmps24
  go_wp2_with fail
  refine (awake8 _).mono ?_
  rintro e w' ⟨rfl, hbel⟩
  go_wp2_with fail
  go_ret
  exact ⟨rfl, hbel⟩
set_option maxRecDepth 100000 in
set_option maxHeartbeats 1000000 in
theorem xback_out64A (A : Option Addr) (n c : Nat) (u : Int) (B : Option Addr) (m c1 : Nat) (at_ by_ : Int) (w : World) (a1 : ((n : Int) != 32) = true) (a2 : ((n : Int) != 64) = false) (h : u < 0) :
    Calls Try.prog 24 #[.slice A n c, .int .i64 u, .slice B m c1, .int .i64 at_, .int .i64 by_] w fun e w' => e = .returned (.bool true) ∧ Below w.heap.size w w' := by
  go_enter Try.func24, Try.ntmps24
  go_wp2_with fail
  refine (awake8 _).mono ?_
  rintro e w' ⟨rfl, hbel⟩
  go_wp2_with fail
  go_ret
  exact ⟨rfl, hbel⟩
set_option maxRecDepth 100000 in
set_option maxHeartbeats 1000000 in
theorem xback_out64B (A : Option Addr) (n c : Nat) (u : Int) (B : Option Addr) (m c1 : Nat) (at_ by_ : Int) (w : World) (a1 : ((n : Int) != 32) = true) (a2 : ((n : Int) != 64) = false) (p1 : 0 ≤ u) (h : 1099511627776 < u) :
    Calls Try.prog 24 #[.slice A n c, .int .i64 u, .slice B m c1, .int .i64 at_, .int .i64 by_] w fun e w' => e = .returned (.bool true) ∧ Below w.heap.size w w' := by
  go_enter Try.func24, Try.ntmps24
  go_wp2_with fail
  refine (awake8 _).mono ?_
  rintro e w' ⟨rfl, hbel⟩
  go_wp2_with fail
  go_ret
  exact ⟨rfl, hbel⟩
set_option maxRecDepth 100000 in
set_option maxHeartbeats 1000000 in
theorem xback_out64C (A : Option Addr) (n c : Nat) (u : Int) (B : Option Addr) (m c1 : Nat) (at_ by_ : Int) (w : World) (a1 : ((n : Int) != 32) = true) (a2 : ((n : Int) != 64) = false) (p1 : 0 ≤ u) (p2 : u ≤ 1099511627776) (h : ((m : Int) == 0) = true) :
    Calls Try.prog 24 #[.slice A n c, .int .i64 u, .slice B m c1, .int .i64 at_, .int .i64 by_] w fun e w' => e = .returned (.bool true) ∧ Below w.heap.size w w' := by
  go_enter Try.func24, Try.ntmps24
  go_wp2_with fail
  refine (awake8 _).mono ?_
  rintro e w' ⟨rfl, hbel⟩
  go_wp2_with fail
  go_ret
  exact ⟨rfl, hbel⟩
set_option maxRecDepth 100000 in
set_option maxHeartbeats 1000000 in
theorem xback_out64D (A : Option Addr) (n c : Nat) (u : Int) (B : Option Addr) (m c1 : Nat) (at_ by_ : Int) (w : World) (a1 : ((n : Int) != 32) = true) (a2 : ((n : Int) != 64) = false) (p1 : 0 ≤ u) (p2 : u ≤ 1099511627776) (p3 : ((m : Int) == 0) = false) (h : ((m : Int) % 16 != 0) = true) :
    Calls Try.prog 24 #[.slice A n c, .int .i64 u, .slice B m c1, .int .i64 at_, .int .i64 by_] w fun e w' => e = .returned (.bool true) ∧ Below w.heap.size w w' := by
  go_enter Try.func24, Try.ntmps24
  go_wp2_with fail
  refine (awake8 _).mono ?_
  rintro e w' ⟨rfl, hbel⟩
  go_wp2_with fail
  go_ret
  exact ⟨rfl, hbel⟩
set_option maxRecDepth 100000 in
set_option maxHeartbeats 1000000 in
theorem xback_out64E (A : Option Addr) (n c : Nat) (u : Int) (B : Option Addr) (m c1 : Nat) (at_ by_ : Int) (w : World) (a1 : ((n : Int) != 32) = true) (a2 : ((n : Int) != 64) = false) (p1 : 0 ≤ u) (p2 : u ≤ 1099511627776) (p3 : ((m : Int) == 0) = false) (p4 : ((m : Int) % 16 != 0) = false) (h : 400 < m) :
    Calls Try.prog 24 #[.slice A n c, .int .i64 u, .slice B m c1, .int .i64 at_, .int .i64 by_] w fun e w' => e = .returned (.bool true) ∧ Below w.heap.size w w' := by
  go_enter Try.func24, Try.ntmps24
  go_wp2_with fail
  refine (awake8 _).mono ?_
  rintro e w' ⟨rfl, hbel⟩
  go_wp2_with fail
  go_ret
  exact ⟨rfl, hbel⟩
set_option maxRecDepth 100000 in
set_option maxHeartbeats 8000000 in
theorem xback_in32 (A : Option Addr) (n c : Nat) (l : List Nat) (u : Nat) (ad : Addr) (m c1 : Nat) (d : List Nat) (at_ by_ : Int) (w : World) (hl : Bytes w A n l) (hc : n ≤ c) (hd : Bytes w (some ad) m d) (hc1 : m ≤ c1) (a1 : ((n : Int) != 32) = false) (p1 : 0 ≤ (u : Int)) (p2 : (u : Int) ≤ 1099511627776) (p3 : ((m : Int) == 0) = false) (p4 : ((m : Int) % 16 != 0) = false) (p5 : m ≤ 400) (hm0 : 0 < m) (hM : MayD n (u : Int) m) :
    Calls Try.prog 24 #[.slice A n c, .int .i64 (u : Int), .slice (some ad) m c1, .int .i64 at_, .int .i64 by_] w fun e w' => e = .returned (.bool true) ∧ Below w.heap.size w w' := by
  have hm16 := hM.2.1
  have HE0 : Box (∀ (w : World) (dd : List Nat) (B1 : Option Addr) (cc : Nat), Bytes w A n l → Bytes w B1 m dd → m ≤ cc → Calls Try.prog 69 #[.slice A n c, .int .i64 (u : Int), .slice B1 m cc] w (RetRow (xtL false (half1 l) (half2 l) u dd (m / 16)) m w)) := ⟨fun w dd B1 cc h1 h2 h3 => (xenc_yes A n c l u B1 m cc dd w h1 hc h2 h3 hM).mono fun e w' hq => hq.ret (by omega)⟩
  have HD0 : Box (∀ (w : World) (dd : List Nat) (B1 : Option Addr) (cc : Nat), Bytes w A n l → Bytes w B1 m dd → m ≤ cc → Calls Try.prog 70 #[.slice A n c, .int .i64 (u : Int), .slice B1 m cc] w (RetRow (xtL true (half1 l) (half2 l) u dd (m / 16)) m w)) := ⟨fun w dd B1 cc h1 h2 h3 => (xdec_yes A n c l u B1 m cc dd w h1 hc h2 h3 hM).mono fun e w' hq => hq.ret (by omega)⟩
  obtain ⟨nb, hnb⟩ : ∃ nb, m / 16 = nb := ⟨_, rfl⟩
  rw [hnb] at HE0 HD0
  have HNB : Box (16 * nb = m) := ⟨by omega⟩
  have hni : (m : Int) / 16 = (nb : Int) := by omega
  generalize half1 l = k1 at HE0 HD0
  generalize half2 l = k2 at HE0 HD0
  have hdl := hd.2.2.1
  have hbk : xtL true k1 k2 u (xtL false k1 k2 u d nb) nb = d := xt_back false k1 k2 u d nb hdl (by rw [hd.1, HNB.out])
  have HR : Box (∀ w, Calls Try.prog 36 #[.int .i64 at_, .int .i64 (m : Int)] w fun e w' => e = .returned (.int .i64 (at_ % (m : Int))) ∧ w = w') := ⟨fun w => round_any at_ m (by omega) (by omega) w⟩
  have HRb0 : Box (∀ w, Calls Try.prog 36 #[.int .i64 by_, .int .i64 255] w fun e w' => e = .returned (.int .i64 (by_ % 255)) ∧ w = w') := ⟨fun w => round_any by_ 255 (by omega) (by omega) w⟩
  obtain ⟨kk, hkk⟩ : ∃ kk : Nat, at_ % (m : Int) = (kk : Int) := ⟨(at_ % (m : Int)).toNat, (Int.toNat_of_nonneg (Int.emod_nonneg _ (by omega))).symm⟩
  have hkm : kk < m := by have := Int.emod_lt_of_pos at_ (show (0 : Int) < (m : Int) by omega); omega
  obtain ⟨rr, hrr⟩ : ∃ rr : Nat, by_ % 255 = (rr : Int) := ⟨(by_ % 255).toNat, (Int.toNat_of_nonneg (Int.emod_nonneg _ (by omega))).symm⟩
  have hrl : rr < 255 := by have := Int.emod_lt_of_pos by_ (show (0 : Int) < 255 by omega); omega
  rw [hkk] at HR
  rw [hrr] at HRb0
  have HRb := HRb0
  obtain ⟨b, hb⟩ : ∃ b, d.getD kk 0 = b := ⟨_, rfl⟩
  have hbl : b < 256 := by rw [← hb]; exact Aes.getD8 hdl kk
  obtain ⟨v, hv⟩ : ∃ v, v = ((b + 1) % 256 + rr) % 256 := ⟨_, rfl⟩
  have HV := Box.mk hv
  have hvl : v < 256 := by omega
  have HNE : Box (∀ i, datN d i = datN (d.set kk v) i ↔ i ≠ kk / 16) := ⟨fun i => datN_set hdl hvl (by rw [hd.1]; exact hkm) (by rw [hb]; omega)⟩
  have hd2l : ∀ x ∈ d.set kk v, x < 256 := fun x hx => by
    rcases List.mem_or_eq_of_mem_set hx with hx | rfl
    · exact hdl x hx
    · exact hvl
  have HXE : Box (∀ i, decide (xtB false k1 k2 u d i = xtB false k1 k2 u (d.set kk v) i) = decide (i ≠ kk / 16)) := ⟨fun i => by rw [decide_eq_decide, xtB_inj hdl hd2l]; exact HNE.out i⟩
  have HB := Box.mk hb
  have HDL := Box.mk hdl
  clear hv hb hdl hnb hkk hrr HRb0 hd2l HNE hM
  go_enter Try.func24, Try.ntmps24
  go_wp2_with fail
  refine (HE0.out _ d _ c1 hl hd hc1).mono ?_
  rintro e w1 ⟨A1, d1, rfl, hO1, hC1, hb1⟩
  go_wp2_with fail
  refine (HD0.out _ _ A1 d1 (hl.below hb1) hO1.rd hC1).mono ?_
  rintro e w2 ⟨A3, d3, rfl, hO3, hC3, hb2⟩
  rw [hbk] at hO3
  have hO1 := hO1.below hb2 (Nat.le_refl _)
  have hw2 := hb1.trans (hb2.mono hb1.size)
  have hz1 := hb1.size
  clear hb1 hb2 hbk
  have hd2 := hd.below hw2
  go_wp2_with (first
      | ((with_reducible show wpList _ _ _ (⟨some 75, Op.convert 29 9 (.tmp 74), _, _, _, _⟩ :: _) _ _); refine wpList_unguard (by kernel_rfl) ?_; refine wpList_str rfl (.tmp 74) rfl A3 m d3 d rfl hO3.rd ?_)
      | ((with_reducible show wpList _ _ _ (⟨some 77, Op.convert 29 9 (.tmp 76), _, _, _, _⟩ :: _) _ _); refine wpList_unguard (by kernel_rfl) ?_; refine wpList_str rfl (.tmp 76) rfl (some ad) m c1 d rfl hd2 ?_)
      | ((with_reducible show wpList _ _ _ (⟨some 78, Op.binOp BinOp.neq 9 (.tmp 75) (.tmp 77) 9, _, _, _, _⟩ :: _) _ _); refine wpList_unguard (by kernel_rfl) ?_; refine wpList_strNe rfl (.tmp 75) (.tmp 77) rfl (strL d) (strL d) true (decide_eq_true rfl) rfl rfl ?_))
  refine (HR.out _).mono ?_
  rintro e w' ⟨rfl, rfl⟩
  have hOm : Own (w2.alloc (.cells #[] 5)) w2.heap.size (.slice (some ⟨w2.heap.size, 0, none⟩) 0 0) [] := own_made w2 _ (Nat.le_refl _)
  have hdm : Bytes (w2.alloc (.cells #[] 5)) (some ad) m d := hd2.alloc _
  go_wp2_with (first
      | ((with_reducible show wpList _ _ _ (⟨some 93, Op.call _, _, _, _, _⟩ :: _) _ _); refine wp_appA rfl (.tmp 91) (.tmp 92) rfl w2.heap.size (.slice (some ⟨w2.heap.size, 0, none⟩) 0 0) [] rfl hOm (some ad) m c1 d rfl hdm (by simp; omega) (by simp) ?_))
  intro v16 w3 h16 hg16 _
  have hb3 : Below w2.heap.size w2 w3 := grown_below ((Below.refl _ _).alloc (Nat.le_refl _) _) hg16 (by simp) (fun k hk => by have hk : some w2.heap.size = some k := hk; injection hk with hk; omega)
  clear hOm hdm hg16 HR
  obtain ⟨A16, c16, hv16⟩ := h16.form
  subst hv16
  rw [hd.1] at h16
  obtain ⟨g16, hA16, hg0, hg1⟩ := h16.at0 hm0
  subst hA16
  rw [hd.1]
  go_wp2_with fail
  have hcb := h16.cellAt (j := kk) hkm
  rw [HB.out] at hcb
  have hfz := h16.freeAt kk
  have hS0 : (w3.drew.cell? ⟨g16, kk, none⟩ = some (.int .u8 (b : Int)) ∧ w3.drew.frozen? ⟨g16, kk, none⟩ = false) := ⟨hcb, hfz⟩
  have k0 : (0 : Int) ≤ (kk : Int) := by omega
  have k1' : (kk : Int) < (m : Int) := by omega
  refine wp_region_Z 12 12 (fun w' => w'.cell? ⟨g16, kk, none⟩ = some (.int .u8 (b : Int)) ∧ w'.frozen? ⟨g16, kk, none⟩ = false) (fun _ => True) (by kernel_rfl) ?_
  have hS : _ ∧ True := ⟨hS0, trivial⟩
  refine wpAnyZ_any (i := 0) (oi := ⟨some 94, _, _, _, _, _⟩) (v := .slice (some ⟨g16, 0, none⟩) m c16) rfl (by kernel_rfl) (by kernel_rfl) (by kernel_rfl) (by kernel_rfl) (fun _ _ _ h => h) (Or.inl ⟨by kernel_rfl, fun w' _ => ?_⟩) ⟨.inr hS.1, .inr hS.2⟩ ?_
  · go_simp
  simp only [Act.put, List.setIfInBounds_toArray, List.set_cons_zero, List.set_cons_succ]
  refine wpAnyZ_any (i := 1) (oi := ⟨some 95, _, _, _, _, _⟩) (v := .int .i64 (kk : Int)) rfl (by kernel_rfl) (by kernel_rfl) (by kernel_rfl) (by kernel_rfl) (fun _ _ _ h => h) (Or.inl ⟨by kernel_rfl, fun w' _ => ?_⟩) ⟨.inr hS.1, .inr hS.2⟩ ?_
  · go_simp
  simp only [Act.put, List.setIfInBounds_toArray, List.set_cons_zero, List.set_cons_succ]
  refine wpAnyZ_any (i := 2) (oi := ⟨some 96, _, _, _, _, _⟩) (v := .slice (some ⟨g16, 0, none⟩) m c16) rfl (by kernel_rfl) (by kernel_rfl) (by kernel_rfl) (by kernel_rfl) (fun _ _ _ h => h) (Or.inl ⟨by kernel_rfl, fun w' _ => ?_⟩) ⟨.inr hS.1, .inr hS.2⟩ ?_
  · go_simp
  simp only [Act.put, List.setIfInBounds_toArray, List.set_cons_zero, List.set_cons_succ]
  refine wpAnyZ_any (i := 3) (oi := ⟨some 97, _, _, _, _, _⟩) (v := .int .i64 (kk : Int)) rfl (by kernel_rfl) (by kernel_rfl) (by kernel_rfl) (by kernel_rfl) (fun _ _ _ h => h) (Or.inl ⟨by kernel_rfl, fun w' _ => ?_⟩) ⟨.inr hS.1, .inr hS.2⟩ ?_
  · go_simp
  simp only [Act.put, List.setIfInBounds_toArray, List.set_cons_zero, List.set_cons_succ]
  refine wpAnyZ_any (i := 4) (oi := ⟨some 98, _, _, _, _, _⟩) (v := .pointer (some ⟨g16, kk, none⟩)) rfl (by kernel_rfl) (by kernel_rfl) (by kernel_rfl) (by kernel_rfl) (fun _ _ _ h => h) (Or.inl ⟨by kernel_rfl, fun w' _ => ?_⟩) ⟨.inr hS.1, .inr hS.2⟩ ?_
  · go_simp
  simp only [Act.put, List.setIfInBounds_toArray, List.set_cons_zero, List.set_cons_succ]
  refine wpAnyZ_take (i := 5) (oi := ⟨some 99, _, _, _, _, _⟩) (v := .int .u8 (b : Int)) rfl (by kernel_rfl) (by kernel_rfl) (by kernel_rfl) (by kernel_rfl) (fun _ _ _ h => h) (Or.inl ⟨by kernel_rfl, fun w' hSw => ?_⟩) hS ?_
  · (have c := hSw.1; go_simp)
  simp only [Act.put, List.setIfInBounds_toArray, List.set_cons_zero, List.set_cons_succ]
  refine wpAnyZ_any (i := 6) (oi := ⟨some 100, _, _, _, _, _⟩) (v := .int .u8 (((b + 1) % 256 : Nat) : Int)) rfl (by kernel_rfl) (by kernel_rfl) (by kernel_rfl) (by kernel_rfl) (fun _ _ _ h => h) (Or.inl ⟨by kernel_rfl, fun w' _ => ?_⟩) ⟨.inr hS.1, .inr hS.2⟩ ?_
  · (go_simp; rw [IntKind.wrap_u8]; try omega)
  simp only [Act.put, List.setIfInBounds_toArray, List.set_cons_zero, List.set_cons_succ]
  refine wpAnyZ_any (i := 7) (oi := ⟨some 101, _, _, _, _, _⟩) (v := .int .i64 by_) rfl (by kernel_rfl) (by kernel_rfl) (by kernel_rfl) (by kernel_rfl) (fun _ _ _ h => h) (Or.inl ⟨by kernel_rfl, fun w' _ => ?_⟩) ⟨.inr hS.1, .inr hS.2⟩ ?_
  · go_simp
  simp only [Act.put, List.setIfInBounds_toArray, List.set_cons_zero, List.set_cons_succ]
  refine wpAnyZ_one (i := 8) (o := ⟨some 102, _, _, _, _, _⟩) (by kernel_rfl) rfl (by kernel_rfl) (fun K hK => ?_)
  go_simp
  refine (HRb.out _).mono ?_
  rintro e q ⟨rfl, rfl⟩
  have hS := hS
  refine hK.out _ _ ⟨.inr hS.1, .inr hS.2⟩ ?_
  clear hK K
  refine wpAnyZ_any (i := 9) (oi := ⟨some 103, _, _, _, _, _⟩) (v := .int .u8 (rr : Int)) rfl (by kernel_rfl) (by kernel_rfl) (by kernel_rfl) (by kernel_rfl) (fun _ _ _ h => h) (Or.inl ⟨by kernel_rfl, fun w' _ => ?_⟩) ⟨.inr hS.1, .inr hS.2⟩ ?_
  · (go_simp; try (rw [IntKind.wrap_u8]; omega))
  simp only [Act.put, List.setIfInBounds_toArray, List.set_cons_zero, List.set_cons_succ]
  refine wpAnyZ_any (i := 10) (oi := ⟨some 104, _, _, _, _, _⟩) (v := .int .u8 (v : Int)) rfl (by kernel_rfl) (by kernel_rfl) (by kernel_rfl) (by kernel_rfl) (fun _ _ _ h => h) (Or.inl ⟨by kernel_rfl, fun w' _ => ?_⟩) ⟨.inr hS.1, .inr hS.2⟩ ?_
  · (go_simp; rw [IntKind.wrap_u8]; have := HV.out; omega)
  simp only [Act.put, List.setIfInBounds_toArray, List.set_cons_zero, List.set_cons_succ]
  refine wpAnyZ_any (i := 11) (oi := ⟨some 105, _, _, _, _, _⟩) (v := .pointer (some ⟨g16, kk, none⟩)) rfl (by kernel_rfl) (by kernel_rfl) (by kernel_rfl) (by kernel_rfl) (fun _ _ _ h => h) (Or.inl ⟨by kernel_rfl, fun w' _ => ?_⟩) ⟨.inr hS.1, .inr hS.2⟩ ?_
  · go_simp
  simp only [Act.put, List.setIfInBounds_toArray, List.set_cons_zero, List.set_cons_succ]
  refine wpAnyZ_one (i := 12) (o := ⟨none, _, _, _, _, _⟩) (by kernel_rfl) rfl (by kernel_rfl) (fun K hK => ?_)
  have c := hS.1.1
  have f := hS.1.2
  go_simp
  refine hK.out _ _ ⟨.inl (show _ = true by kernel_rfl), .inl (show _ = true by kernel_rfl)⟩ ?_
  clear hK K hS
  refine wpAnyZ_done (by kernel_rfl) ?_ _
  go_wp2_with fail
  have h17 : Own ((w3.setCell ⟨g16, kk, none⟩ (.int .u8 (v : Int))).drew) w2.heap.size (.slice (some ⟨g16, 0, none⟩) m c16) (d.set kk v) := h16.stored kk v hvl
  have hb4 : Below w2.heap.size w2 ((w3.setCell ⟨g16, kk, none⟩ (.int .u8 (v : Int))).drew) := (hb3.setCell (show w2.heap.size ≤ g16 from hg0) _).drew
  revert h17 hb4
  generalize (w3.setCell ⟨g16, kk, none⟩ (.int .u8 (v : Int))).drew = w4
  intro h17 hb4
  have hw4 := hw2.trans (hb4.mono hw2.size)
  refine (HE0.out _ _ _ c16 (hl.below hw4) h17.rd h17.cap).mono ?_
  rintro e w5 ⟨A7, c7, rfl, hO7, hC7, hb5⟩
  have hO1 := hO1.below (hb4.trans (hb5.mono hb4.size)) (Nat.le_refl _)
  have hw5 := hw4.trans (hb5.mono hw4.size)
  clear h17 hb4 hb5 h16 hb3 hcb hfz hS0 hO3 hC3 HE0 HD0 HRb hd hd2 hl hg0 hg1 hw4
  obtain ⟨ad1, hA1, _⟩ := hO1.rd.2.2.2 hm0
  subst hA1
  obtain ⟨ad7, hA7, _⟩ := hO7.rd.2.2.2 hm0
  subst hA7
  go_wp2_with fail
  go_loopw [19] (fun i wr => ∃ (i' : Nat), i = .int .i64 (i' : Int) ∧ i' ≤ nb ∧ Below w5.heap.size w5 wr) (fun i _ => nb - (intOf i).toNat)
  case atStart => exact ⟨0, rfl, by omega, Below.refl _ _⟩
  case round =>
    obtain ⟨i, rfl, hi, hB⟩ := hrel
    by_cases hin : i = nb
    · subst hin
      go_wp2_with fail
      refine (awake8 _).mono ?_
      rintro e w' ⟨rfl, hbel⟩
      go_wp2_with fail
      go_ret
      exact ⟨rfl, (hw5.trans (hB.mono hw5.size)).trans (hbel.mono (by have := hw5.size; have := hB.size; omega))⟩
    · have hi2 : i < nb := by omega
      clear hin
      obtain ⟨q, hq⟩ : ∃ q, q = 16 * i := ⟨_, rfl⟩
      obtain ⟨q2, hq2⟩ : ∃ q2, q2 = q + 16 := ⟨_, rfl⟩
      obtain ⟨kq, hkq⟩ : ∃ kq, kq = kk / 16 := ⟨_, rfl⟩
      have HQ := Box.mk hq
      have HQ2 := Box.mk hq2
      have HKQ := Box.mk hkq
      have hkql : kq ≤ 400 := by omega
      have hqm : q2 ≤ m := by have := HNB.out; omega
      have hqd : q2 - q = 16 := by omega
      have q0 : (0 : Int) ≤ (q : Int) := by omega
      have q1 : (q : Int) ≤ (q2 : Int) := by omega
      have q3 : (q2 : Int) ≤ (d1 : Int) := by omega
      have q4 : (q2 : Int) ≤ (c7 : Int) := by omega
      have ne1 : (d1 = q) = False := by simp; omega
      have ne7 : (c7 = q) = False := by simp; omega
      obtain ⟨x1, hx1⟩ : ∃ x, xtB false k1 k2 u d i = x := ⟨_, rfl⟩
      obtain ⟨x2, hx2⟩ : ∃ x, xtB false k1 k2 u (d.set kk v) i = x := ⟨_, rfl⟩
      have HP1 : Box (∀ w', Below wr.heap.size wr w' → Bytes w' (some (ad1.add q)) 16 (listB (byt x1))) := ⟨fun w' h => by
        have h2 := ((hO1.rd.below hB).below h).part (q := q) (by omega)
        rwa [hq, xtL_part false k1 k2 u d hi2, hx1, ← hq] at h2⟩
      have HP2 : Box (∀ w', Below wr.heap.size wr w' → Bytes w' (some (ad7.add q)) 16 (listB (byt x2))) := ⟨fun w' h => by
        have h2 := ((hO7.rd.below hB).below h).part (q := q) (by omega)
        rwa [hq, xtL_part false k1 k2 u (d.set kk v) hi2, hx2, ← hq] at h2⟩
      have hsb : decide (strL (listB (byt x1)) = strL (listB (byt x2))) = decide (i ≠ kq) := by
        rw [listB_byt (by rw [← hx1]; exact xtB_lt _ _ _ _ _ _) (by rw [← hx2]; exact xtB_lt _ _ _ _ _ _), ← hx1, ← hx2, HXE.out i, hkq]
      clear hq hq2 hkq hx1 hx2
      by_cases hik : i = kq
      · have HSB : Box (decide (strL (listB (byt x1)) = strL (listB (byt x2))) = false) := ⟨by rw [hsb]; exact decide_eq_false (by omega)⟩
        have hin2 : ((i : Int) != (kq : Int)) = false := by simp; omega
        clear hsb hik
        go_wp2_with fail
        refine wp_region_held_drew (S := fun w' => Below wr.heap.size wr w') (by kernel_rfl) (Below.refl _ _).drew (fun hS => ?_)
        refine wpAnyH_take (i := 0) (oi := ⟨some 129, _, _, _, _, _⟩) (v := .slice (some ad1) m d1) rfl (by kernel_rfl) (by kernel_rfl) (by kernel_rfl) (fun _ _ _ h => h) (Or.inl ⟨by kernel_rfl, fun w' hSw => ?_⟩) hS ?_
        · go_simp
        simp only [Act.put, List.setIfInBounds_toArray, List.set_cons_zero, List.set_cons_succ]
        refine wpAnyH_take (i := 1) (oi := ⟨some 130, _, _, _, _, _⟩) (v := .int .i64 (i : Int)) rfl (by kernel_rfl) (by kernel_rfl) (by kernel_rfl) (fun _ _ _ h => h) (Or.inl ⟨by kernel_rfl, fun w' hSw => ?_⟩) hS ?_
        · go_simp
        simp only [Act.put, List.setIfInBounds_toArray, List.set_cons_zero, List.set_cons_succ]
        refine wpAnyH_take (i := 2) (oi := ⟨some 131, _, _, _, _, _⟩) (v := .int .i64 (q : Int)) rfl (by kernel_rfl) (by kernel_rfl) (by kernel_rfl) (fun _ _ _ h => h) (Or.inl ⟨by kernel_rfl, fun w' hSw => ?_⟩) hS ?_
        · (go_simp; rw [show 16 * (i : Int) = (q : Int) by have := HQ.out; omega]; exact IntWalk.i64_in _ (by omega))
        simp only [Act.put, List.setIfInBounds_toArray, List.set_cons_zero, List.set_cons_succ]
        refine wpAnyH_take (i := 3) (oi := ⟨some 132, _, _, _, _, _⟩) (v := .int .i64 (i : Int)) rfl (by kernel_rfl) (by kernel_rfl) (by kernel_rfl) (fun _ _ _ h => h) (Or.inl ⟨by kernel_rfl, fun w' hSw => ?_⟩) hS ?_
        · go_simp
        simp only [Act.put, List.setIfInBounds_toArray, List.set_cons_zero, List.set_cons_succ]
        refine wpAnyH_take (i := 4) (oi := ⟨some 133, _, _, _, _, _⟩) (v := .int .i64 (q : Int)) rfl (by kernel_rfl) (by kernel_rfl) (by kernel_rfl) (fun _ _ _ h => h) (Or.inl ⟨by kernel_rfl, fun w' hSw => ?_⟩) hS ?_
        · (go_simp; rw [show 16 * (i : Int) = (q : Int) by have := HQ.out; omega]; exact IntWalk.i64_in _ (by omega))
        simp only [Act.put, List.setIfInBounds_toArray, List.set_cons_zero, List.set_cons_succ]
        refine wpAnyH_take (i := 5) (oi := ⟨some 134, _, _, _, _, _⟩) (v := .int .i64 (q2 : Int)) rfl (by kernel_rfl) (by kernel_rfl) (by kernel_rfl) (fun _ _ _ h => h) (Or.inl ⟨by kernel_rfl, fun w' hSw => ?_⟩) hS ?_
        · (go_simp; rw [show (q : Int) + 16 = (q2 : Int) by have := HQ2.out; omega]; exact IntWalk.i64_in _ (by omega))
        simp only [Act.put, List.setIfInBounds_toArray, List.set_cons_zero, List.set_cons_succ]
        refine wpAnyH_take (i := 6) (oi := ⟨some 135, _, _, _, _, _⟩) (v := .slice (some (ad1.add q)) 16 (d1 - q)) rfl (by kernel_rfl) (by kernel_rfl) (by kernel_rfl) (fun _ _ _ h => h) (Or.inl ⟨by kernel_rfl, fun w' hSw => ?_⟩) hS ?_
        · go_simp
        simp only [Act.put, List.setIfInBounds_toArray, List.set_cons_zero, List.set_cons_succ]
        refine wpAnyH_take (i := 7) (oi := ⟨some 136, _, _, _, _, _⟩) (v := .string (strL (listB (byt x1)))) rfl (by kernel_rfl) (by kernel_rfl) (by kernel_rfl) (fun _ _ _ h => h) (yields_str (by kernel_rfl) (.tmp 135) rfl (some (ad1.add q)) (16) (d1 - q) (listB (byt x1)) rfl (fun w' h => HP1.out w' h)) hS ?_
        simp only [Act.put, List.setIfInBounds_toArray, List.set_cons_zero, List.set_cons_succ]
        refine wpAnyH_take (i := 8) (oi := ⟨some 137, _, _, _, _, _⟩) (v := .slice (some ad7) m c7) rfl (by kernel_rfl) (by kernel_rfl) (by kernel_rfl) (fun _ _ _ h => h) (Or.inl ⟨by kernel_rfl, fun w' hSw => ?_⟩) hS ?_
        · go_simp
        simp only [Act.put, List.setIfInBounds_toArray, List.set_cons_zero, List.set_cons_succ]
        refine wpAnyH_take (i := 9) (oi := ⟨some 138, _, _, _, _, _⟩) (v := .int .i64 (i : Int)) rfl (by kernel_rfl) (by kernel_rfl) (by kernel_rfl) (fun _ _ _ h => h) (Or.inl ⟨by kernel_rfl, fun w' hSw => ?_⟩) hS ?_
        · go_simp
        simp only [Act.put, List.setIfInBounds_toArray, List.set_cons_zero, List.set_cons_succ]
        refine wpAnyH_take (i := 10) (oi := ⟨some 139, _, _, _, _, _⟩) (v := .int .i64 (q : Int)) rfl (by kernel_rfl) (by kernel_rfl) (by kernel_rfl) (fun _ _ _ h => h) (Or.inl ⟨by kernel_rfl, fun w' hSw => ?_⟩) hS ?_
        · (go_simp; rw [show 16 * (i : Int) = (q : Int) by have := HQ.out; omega]; exact IntWalk.i64_in _ (by omega))
        simp only [Act.put, List.setIfInBounds_toArray, List.set_cons_zero, List.set_cons_succ]
        refine wpAnyH_take (i := 11) (oi := ⟨some 140, _, _, _, _, _⟩) (v := .int .i64 (i : Int)) rfl (by kernel_rfl) (by kernel_rfl) (by kernel_rfl) (fun _ _ _ h => h) (Or.inl ⟨by kernel_rfl, fun w' hSw => ?_⟩) hS ?_
        · go_simp
        simp only [Act.put, List.setIfInBounds_toArray, List.set_cons_zero, List.set_cons_succ]
        refine wpAnyH_take (i := 12) (oi := ⟨some 141, _, _, _, _, _⟩) (v := .int .i64 (q : Int)) rfl (by kernel_rfl) (by kernel_rfl) (by kernel_rfl) (fun _ _ _ h => h) (Or.inl ⟨by kernel_rfl, fun w' hSw => ?_⟩) hS ?_
        · (go_simp; rw [show 16 * (i : Int) = (q : Int) by have := HQ.out; omega]; exact IntWalk.i64_in _ (by omega))
        simp only [Act.put, List.setIfInBounds_toArray, List.set_cons_zero, List.set_cons_succ]
        refine wpAnyH_take (i := 13) (oi := ⟨some 142, _, _, _, _, _⟩) (v := .int .i64 (q2 : Int)) rfl (by kernel_rfl) (by kernel_rfl) (by kernel_rfl) (fun _ _ _ h => h) (Or.inl ⟨by kernel_rfl, fun w' hSw => ?_⟩) hS ?_
        · (go_simp; rw [show (q : Int) + 16 = (q2 : Int) by have := HQ2.out; omega]; exact IntWalk.i64_in _ (by omega))
        simp only [Act.put, List.setIfInBounds_toArray, List.set_cons_zero, List.set_cons_succ]
        refine wpAnyH_take (i := 14) (oi := ⟨some 143, _, _, _, _, _⟩) (v := .slice (some (ad7.add q)) 16 (c7 - q)) rfl (by kernel_rfl) (by kernel_rfl) (by kernel_rfl) (fun _ _ _ h => h) (Or.inl ⟨by kernel_rfl, fun w' hSw => ?_⟩) hS ?_
        · go_simp
        simp only [Act.put, List.setIfInBounds_toArray, List.set_cons_zero, List.set_cons_succ]
        refine wpAnyH_take (i := 15) (oi := ⟨some 144, _, _, _, _, _⟩) (v := .string (strL (listB (byt x2)))) rfl (by kernel_rfl) (by kernel_rfl) (by kernel_rfl) (fun _ _ _ h => h) (yields_str (by kernel_rfl) (.tmp 143) rfl (some (ad7.add q)) (16) (c7 - q) (listB (byt x2)) rfl (fun w' h => HP2.out w' h)) hS ?_
        simp only [Act.put, List.setIfInBounds_toArray, List.set_cons_zero, List.set_cons_succ]
        refine wpAnyH_take (i := 16) (oi := ⟨some 145, _, _, _, _, _⟩) (v := .bool false) rfl (by kernel_rfl) (by kernel_rfl) (by kernel_rfl) (fun _ _ _ h => h) (yields_strEq (by kernel_rfl) (.tmp 136) (.tmp 144) rfl (strL (listB (byt x1))) (strL (listB (byt x2))) _ (HSB.out) rfl rfl) hS ?_
        simp only [Act.put, List.setIfInBounds_toArray, List.set_cons_zero, List.set_cons_succ]
        refine wpAnyH_take (i := 17) (oi := ⟨some 146, _, _, _, _, _⟩) (v := .int .i64 (i : Int)) rfl (by kernel_rfl) (by kernel_rfl) (by kernel_rfl) (fun _ _ _ h => h) (Or.inl ⟨by kernel_rfl, fun w' hSw => ?_⟩) hS ?_
        · go_simp
        simp only [Act.put, List.setIfInBounds_toArray, List.set_cons_zero, List.set_cons_succ]
        refine wpAnyH_take (i := 18) (oi := ⟨some 147, _, _, _, _, _⟩) (v := .int .i64 (kk : Int)) rfl (by kernel_rfl) (by kernel_rfl) (by kernel_rfl) (fun _ _ _ h => h) (Or.inl ⟨by kernel_rfl, fun w' hSw => ?_⟩) hS ?_
        · go_simp
        simp only [Act.put, List.setIfInBounds_toArray, List.set_cons_zero, List.set_cons_succ]
        refine wpAnyH_take (i := 19) (oi := ⟨some 148, _, _, _, _, _⟩) (v := .int .i64 (kq : Int)) rfl (by kernel_rfl) (by kernel_rfl) (by kernel_rfl) (fun _ _ _ h => h) (Or.inl ⟨by kernel_rfl, fun w' hSw => ?_⟩) hS ?_
        · (go_simp; rw [show (kk : Int) / 16 = (kq : Int) by have := HKQ.out; omega]; exact IntWalk.i64_in _ (by omega))
        simp only [Act.put, List.setIfInBounds_toArray, List.set_cons_zero, List.set_cons_succ]
        refine wpAnyH_take (i := 20) (oi := ⟨some 149, _, _, _, _, _⟩) (v := .bool false) rfl (by kernel_rfl) (by kernel_rfl) (by kernel_rfl) (fun _ _ _ h => h) (Or.inl ⟨by kernel_rfl, fun w' hSw => ?_⟩) hS ?_
        · go_simp
        simp only [Act.put, List.setIfInBounds_toArray, List.set_cons_zero, List.set_cons_succ]
        refine wpAnyH_take (i := 21) (oi := ⟨some 150, _, _, _, _, _⟩) (v := .bool false) rfl (by kernel_rfl) (by kernel_rfl) (by kernel_rfl) (fun _ _ _ h => h) (Or.inl ⟨by kernel_rfl, fun w' hSw => ?_⟩) hS ?_
        · go_simp
        simp only [Act.put, List.setIfInBounds_toArray, List.set_cons_zero, List.set_cons_succ]
        refine wpAnyH_done (by kernel_rfl) ?_ _
        go_wp2_with fail
        go_roundw
        case rel => exact ⟨i + 1, by go_num, by omega, hB.drew⟩
        case measure => simp [intOf]; omega
      · have HSB : Box (decide (strL (listB (byt x1)) = strL (listB (byt x2))) = true) := ⟨by rw [hsb]; exact decide_eq_true (by omega)⟩
        have hin2 : ((i : Int) != (kq : Int)) = true := by simp; omega
        clear hsb hik
        go_wp2_with fail
        refine wp_region_held_drew (S := fun w' => Below wr.heap.size wr w') (by kernel_rfl) (Below.refl _ _).drew (fun hS => ?_)
        refine wpAnyH_take (i := 0) (oi := ⟨some 129, _, _, _, _, _⟩) (v := .slice (some ad1) m d1) rfl (by kernel_rfl) (by kernel_rfl) (by kernel_rfl) (fun _ _ _ h => h) (Or.inl ⟨by kernel_rfl, fun w' hSw => ?_⟩) hS ?_
        · go_simp
        simp only [Act.put, List.setIfInBounds_toArray, List.set_cons_zero, List.set_cons_succ]
        refine wpAnyH_take (i := 1) (oi := ⟨some 130, _, _, _, _, _⟩) (v := .int .i64 (i : Int)) rfl (by kernel_rfl) (by kernel_rfl) (by kernel_rfl) (fun _ _ _ h => h) (Or.inl ⟨by kernel_rfl, fun w' hSw => ?_⟩) hS ?_
        · go_simp
        simp only [Act.put, List.setIfInBounds_toArray, List.set_cons_zero, List.set_cons_succ]
        refine wpAnyH_take (i := 2) (oi := ⟨some 131, _, _, _, _, _⟩) (v := .int .i64 (q : Int)) rfl (by kernel_rfl) (by kernel_rfl) (by kernel_rfl) (fun _ _ _ h => h) (Or.inl ⟨by kernel_rfl, fun w' hSw => ?_⟩) hS ?_
        · (go_simp; rw [show 16 * (i : Int) = (q : Int) by have := HQ.out; omega]; exact IntWalk.i64_in _ (by omega))
        simp only [Act.put, List.setIfInBounds_toArray, List.set_cons_zero, List.set_cons_succ]
        refine wpAnyH_take (i := 3) (oi := ⟨some 132, _, _, _, _, _⟩) (v := .int .i64 (i : Int)) rfl (by kernel_rfl) (by kernel_rfl) (by kernel_rfl) (fun _ _ _ h => h) (Or.inl ⟨by kernel_rfl, fun w' hSw => ?_⟩) hS ?_
        · go_simp
        simp only [Act.put, List.setIfInBounds_toArray, List.set_cons_zero, List.set_cons_succ]
        refine wpAnyH_take (i := 4) (oi := ⟨some 133, _, _, _, _, _⟩) (v := .int .i64 (q : Int)) rfl (by kernel_rfl) (by kernel_rfl) (by kernel_rfl) (fun _ _ _ h => h) (Or.inl ⟨by kernel_rfl, fun w' hSw => ?_⟩) hS ?_
        · (go_simp; rw [show 16 * (i : Int) = (q : Int) by have := HQ.out; omega]; exact IntWalk.i64_in _ (by omega))
        simp only [Act.put, List.setIfInBounds_toArray, List.set_cons_zero, List.set_cons_succ]
        refine wpAnyH_take (i := 5) (oi := ⟨some 134, _, _, _, _, _⟩) (v := .int .i64 (q2 : Int)) rfl (by kernel_rfl) (by kernel_rfl) (by kernel_rfl) (fun _ _ _ h => h) (Or.inl ⟨by kernel_rfl, fun w' hSw => ?_⟩) hS ?_
        · (go_simp; rw [show (q : Int) + 16 = (q2 : Int) by have := HQ2.out; omega]; exact IntWalk.i64_in _ (by omega))
        simp only [Act.put, List.setIfInBounds_toArray, List.set_cons_zero, List.set_cons_succ]
        refine wpAnyH_take (i := 6) (oi := ⟨some 135, _, _, _, _, _⟩) (v := .slice (some (ad1.add q)) 16 (d1 - q)) rfl (by kernel_rfl) (by kernel_rfl) (by kernel_rfl) (fun _ _ _ h => h) (Or.inl ⟨by kernel_rfl, fun w' hSw => ?_⟩) hS ?_
        · go_simp
        simp only [Act.put, List.setIfInBounds_toArray, List.set_cons_zero, List.set_cons_succ]
        refine wpAnyH_take (i := 7) (oi := ⟨some 136, _, _, _, _, _⟩) (v := .string (strL (listB (byt x1)))) rfl (by kernel_rfl) (by kernel_rfl) (by kernel_rfl) (fun _ _ _ h => h) (yields_str (by kernel_rfl) (.tmp 135) rfl (some (ad1.add q)) (16) (d1 - q) (listB (byt x1)) rfl (fun w' h => HP1.out w' h)) hS ?_
        simp only [Act.put, List.setIfInBounds_toArray, List.set_cons_zero, List.set_cons_succ]
        refine wpAnyH_take (i := 8) (oi := ⟨some 137, _, _, _, _, _⟩) (v := .slice (some ad7) m c7) rfl (by kernel_rfl) (by kernel_rfl) (by kernel_rfl) (fun _ _ _ h => h) (Or.inl ⟨by kernel_rfl, fun w' hSw => ?_⟩) hS ?_
        · go_simp
        simp only [Act.put, List.setIfInBounds_toArray, List.set_cons_zero, List.set_cons_succ]
        refine wpAnyH_take (i := 9) (oi := ⟨some 138, _, _, _, _, _⟩) (v := .int .i64 (i : Int)) rfl (by kernel_rfl) (by kernel_rfl) (by kernel_rfl) (fun _ _ _ h => h) (Or.inl ⟨by kernel_rfl, fun w' hSw => ?_⟩) hS ?_
        · go_simp
        simp only [Act.put, List.setIfInBounds_toArray, List.set_cons_zero, List.set_cons_succ]
        refine wpAnyH_take (i := 10) (oi := ⟨some 139, _, _, _, _, _⟩) (v := .int .i64 (q : Int)) rfl (by kernel_rfl) (by kernel_rfl) (by kernel_rfl) (fun _ _ _ h => h) (Or.inl ⟨by kernel_rfl, fun w' hSw => ?_⟩) hS ?_
        · (go_simp; rw [show 16 * (i : Int) = (q : Int) by have := HQ.out; omega]; exact IntWalk.i64_in _ (by omega))
        simp only [Act.put, List.setIfInBounds_toArray, List.set_cons_zero, List.set_cons_succ]
        refine wpAnyH_take (i := 11) (oi := ⟨some 140, _, _, _, _, _⟩) (v := .int .i64 (i : Int)) rfl (by kernel_rfl) (by kernel_rfl) (by kernel_rfl) (fun _ _ _ h => h) (Or.inl ⟨by kernel_rfl, fun w' hSw => ?_⟩) hS ?_
        · go_simp
        simp only [Act.put, List.setIfInBounds_toArray, List.set_cons_zero, List.set_cons_succ]
        refine wpAnyH_take (i := 12) (oi := ⟨some 141, _, _, _, _, _⟩) (v := .int .i64 (q : Int)) rfl (by kernel_rfl) (by kernel_rfl) (by kernel_rfl) (fun _ _ _ h => h) (Or.inl ⟨by kernel_rfl, fun w' hSw => ?_⟩) hS ?_
        · (go_simp; rw [show 16 * (i : Int) = (q : Int) by have := HQ.out; omega]; exact IntWalk.i64_in _ (by omega))
        simp only [Act.put, List.setIfInBounds_toArray, List.set_cons_zero, List.set_cons_succ]
        refine wpAnyH_take (i := 13) (oi := ⟨some 142, _, _, _, _, _⟩) (v := .int .i64 (q2 : Int)) rfl (by kernel_rfl) (by kernel_rfl) (by kernel_rfl) (fun _ _ _ h => h) (Or.inl ⟨by kernel_rfl, fun w' hSw => ?_⟩) hS ?_
        · (go_simp; rw [show (q : Int) + 16 = (q2 : Int) by have := HQ2.out; omega]; exact IntWalk.i64_in _ (by omega))
        simp only [Act.put, List.setIfInBounds_toArray, List.set_cons_zero, List.set_cons_succ]
        refine wpAnyH_take (i := 14) (oi := ⟨some 143, _, _, _, _, _⟩) (v := .slice (some (ad7.add q)) 16 (c7 - q)) rfl (by kernel_rfl) (by kernel_rfl) (by kernel_rfl) (fun _ _ _ h => h) (Or.inl ⟨by kernel_rfl, fun w' hSw => ?_⟩) hS ?_
        · go_simp
        simp only [Act.put, List.setIfInBounds_toArray, List.set_cons_zero, List.set_cons_succ]
        refine wpAnyH_take (i := 15) (oi := ⟨some 144, _, _, _, _, _⟩) (v := .string (strL (listB (byt x2)))) rfl (by kernel_rfl) (by kernel_rfl) (by kernel_rfl) (fun _ _ _ h => h) (yields_str (by kernel_rfl) (.tmp 143) rfl (some (ad7.add q)) (16) (c7 - q) (listB (byt x2)) rfl (fun w' h => HP2.out w' h)) hS ?_
        simp only [Act.put, List.setIfInBounds_toArray, List.set_cons_zero, List.set_cons_succ]
        refine wpAnyH_take (i := 16) (oi := ⟨some 145, _, _, _, _, _⟩) (v := .bool true) rfl (by kernel_rfl) (by kernel_rfl) (by kernel_rfl) (fun _ _ _ h => h) (yields_strEq (by kernel_rfl) (.tmp 136) (.tmp 144) rfl (strL (listB (byt x1))) (strL (listB (byt x2))) _ (HSB.out) rfl rfl) hS ?_
        simp only [Act.put, List.setIfInBounds_toArray, List.set_cons_zero, List.set_cons_succ]
        refine wpAnyH_take (i := 17) (oi := ⟨some 146, _, _, _, _, _⟩) (v := .int .i64 (i : Int)) rfl (by kernel_rfl) (by kernel_rfl) (by kernel_rfl) (fun _ _ _ h => h) (Or.inl ⟨by kernel_rfl, fun w' hSw => ?_⟩) hS ?_
        · go_simp
        simp only [Act.put, List.setIfInBounds_toArray, List.set_cons_zero, List.set_cons_succ]
        refine wpAnyH_take (i := 18) (oi := ⟨some 147, _, _, _, _, _⟩) (v := .int .i64 (kk : Int)) rfl (by kernel_rfl) (by kernel_rfl) (by kernel_rfl) (fun _ _ _ h => h) (Or.inl ⟨by kernel_rfl, fun w' hSw => ?_⟩) hS ?_
        · go_simp
        simp only [Act.put, List.setIfInBounds_toArray, List.set_cons_zero, List.set_cons_succ]
        refine wpAnyH_take (i := 19) (oi := ⟨some 148, _, _, _, _, _⟩) (v := .int .i64 (kq : Int)) rfl (by kernel_rfl) (by kernel_rfl) (by kernel_rfl) (fun _ _ _ h => h) (Or.inl ⟨by kernel_rfl, fun w' hSw => ?_⟩) hS ?_
        · (go_simp; rw [show (kk : Int) / 16 = (kq : Int) by have := HKQ.out; omega]; exact IntWalk.i64_in _ (by omega))
        simp only [Act.put, List.setIfInBounds_toArray, List.set_cons_zero, List.set_cons_succ]
        refine wpAnyH_take (i := 20) (oi := ⟨some 149, _, _, _, _, _⟩) (v := .bool true) rfl (by kernel_rfl) (by kernel_rfl) (by kernel_rfl) (fun _ _ _ h => h) (Or.inl ⟨by kernel_rfl, fun w' hSw => ?_⟩) hS ?_
        · go_simp
        simp only [Act.put, List.setIfInBounds_toArray, List.set_cons_zero, List.set_cons_succ]
        refine wpAnyH_take (i := 21) (oi := ⟨some 150, _, _, _, _, _⟩) (v := .bool false) rfl (by kernel_rfl) (by kernel_rfl) (by kernel_rfl) (fun _ _ _ h => h) (Or.inl ⟨by kernel_rfl, fun w' hSw => ?_⟩) hS ?_
        · go_simp
        simp only [Act.put, List.setIfInBounds_toArray, List.set_cons_zero, List.set_cons_succ]
        refine wpAnyH_done (by kernel_rfl) ?_ _
        go_wp2_with fail
        go_roundw
        case rel => exact ⟨i + 1, by go_num, by omega, hB.drew⟩
        case measure => simp [intOf]; omega
set_option maxRecDepth 100000 in
set_option maxHeartbeats 8000000 in
theorem xback_in64 (A : Option Addr) (n c : Nat) (l : List Nat) (u : Nat) (ad : Addr) (m c1 : Nat) (d : List Nat) (at_ by_ : Int) (w : World) (hl : Bytes w A n l) (hc : n ≤ c) (hd : Bytes w (some ad) m d) (hc1 : m ≤ c1) (a1 : ((n : Int) != 32) = true) (a2 : ((n : Int) != 64) = false) (p1 : 0 ≤ (u : Int)) (p2 : (u : Int) ≤ 1099511627776) (p3 : ((m : Int) == 0) = false) (p4 : ((m : Int) % 16 != 0) = false) (p5 : m ≤ 400) (hm0 : 0 < m) (hM : MayD n (u : Int) m) :
    Calls Try.prog 24 #[.slice A n c, .int .i64 (u : Int), .slice (some ad) m c1, .int .i64 at_, .int .i64 by_] w fun e w' => e = .returned (.bool true) ∧ Below w.heap.size w w' := by
  have hm16 := hM.2.1
  have HE0 : Box (∀ (w : World) (dd : List Nat) (B1 : Option Addr) (cc : Nat), Bytes w A n l → Bytes w B1 m dd → m ≤ cc → Calls Try.prog 69 #[.slice A n c, .int .i64 (u : Int), .slice B1 m cc] w (RetRow (xtL false (half1 l) (half2 l) u dd (m / 16)) m w)) := ⟨fun w dd B1 cc h1 h2 h3 => (xenc_yes A n c l u B1 m cc dd w h1 hc h2 h3 hM).mono fun e w' hq => hq.ret (by omega)⟩
  have HD0 : Box (∀ (w : World) (dd : List Nat) (B1 : Option Addr) (cc : Nat), Bytes w A n l → Bytes w B1 m dd → m ≤ cc → Calls Try.prog 70 #[.slice A n c, .int .i64 (u : Int), .slice B1 m cc] w (RetRow (xtL true (half1 l) (half2 l) u dd (m / 16)) m w)) := ⟨fun w dd B1 cc h1 h2 h3 => (xdec_yes A n c l u B1 m cc dd w h1 hc h2 h3 hM).mono fun e w' hq => hq.ret (by omega)⟩
  obtain ⟨nb, hnb⟩ : ∃ nb, m / 16 = nb := ⟨_, rfl⟩
  rw [hnb] at HE0 HD0
  have HNB : Box (16 * nb = m) := ⟨by omega⟩
  have hni : (m : Int) / 16 = (nb : Int) := by omega
  generalize half1 l = k1 at HE0 HD0
  generalize half2 l = k2 at HE0 HD0
  have hdl := hd.2.2.1
  have hbk : xtL true k1 k2 u (xtL false k1 k2 u d nb) nb = d := xt_back false k1 k2 u d nb hdl (by rw [hd.1, HNB.out])
  have HR : Box (∀ w, Calls Try.prog 36 #[.int .i64 at_, .int .i64 (m : Int)] w fun e w' => e = .returned (.int .i64 (at_ % (m : Int))) ∧ w = w') := ⟨fun w => round_any at_ m (by omega) (by omega) w⟩
  have HRb0 : Box (∀ w, Calls Try.prog 36 #[.int .i64 by_, .int .i64 255] w fun e w' => e = .returned (.int .i64 (by_ % 255)) ∧ w = w') := ⟨fun w => round_any by_ 255 (by omega) (by omega) w⟩
  obtain ⟨kk, hkk⟩ : ∃ kk : Nat, at_ % (m : Int) = (kk : Int) := ⟨(at_ % (m : Int)).toNat, (Int.toNat_of_nonneg (Int.emod_nonneg _ (by omega))).symm⟩
  have hkm : kk < m := by have := Int.emod_lt_of_pos at_ (show (0 : Int) < (m : Int) by omega); omega
  obtain ⟨rr, hrr⟩ : ∃ rr : Nat, by_ % 255 = (rr : Int) := ⟨(by_ % 255).toNat, (Int.toNat_of_nonneg (Int.emod_nonneg _ (by omega))).symm⟩
  have hrl : rr < 255 := by have := Int.emod_lt_of_pos by_ (show (0 : Int) < 255 by omega); omega
  rw [hkk] at HR
  rw [hrr] at HRb0
  have HRb := HRb0
  obtain ⟨b, hb⟩ : ∃ b, d.getD kk 0 = b := ⟨_, rfl⟩
  have hbl : b < 256 := by rw [← hb]; exact Aes.getD8 hdl kk
  obtain ⟨v, hv⟩ : ∃ v, v = ((b + 1) % 256 + rr) % 256 := ⟨_, rfl⟩
  have HV := Box.mk hv
  have hvl : v < 256 := by omega
  have HNE : Box (∀ i, datN d i = datN (d.set kk v) i ↔ i ≠ kk / 16) := ⟨fun i => datN_set hdl hvl (by rw [hd.1]; exact hkm) (by rw [hb]; omega)⟩
  have hd2l : ∀ x ∈ d.set kk v, x < 256 := fun x hx => by
    rcases List.mem_or_eq_of_mem_set hx with hx | rfl
    · exact hdl x hx
    · exact hvl
  have HXE : Box (∀ i, decide (xtB false k1 k2 u d i = xtB false k1 k2 u (d.set kk v) i) = decide (i ≠ kk / 16)) := ⟨fun i => by rw [decide_eq_decide, xtB_inj hdl hd2l]; exact HNE.out i⟩
  have HB := Box.mk hb
  have HDL := Box.mk hdl
  clear hv hb hdl hnb hkk hrr HRb0 hd2l HNE hM
  go_enter Try.func24, Try.ntmps24
  go_wp2_with fail
  refine (HE0.out _ d _ c1 hl hd hc1).mono ?_
  rintro e w1 ⟨A1, d1, rfl, hO1, hC1, hb1⟩
  go_wp2_with fail
  refine (HD0.out _ _ A1 d1 (hl.below hb1) hO1.rd hC1).mono ?_
  rintro e w2 ⟨A3, d3, rfl, hO3, hC3, hb2⟩
  rw [hbk] at hO3
  have hO1 := hO1.below hb2 (Nat.le_refl _)
  have hw2 := hb1.trans (hb2.mono hb1.size)
  have hz1 := hb1.size
  clear hb1 hb2 hbk
  have hd2 := hd.below hw2
  go_wp2_with (first
      | ((with_reducible show wpList _ _ _ (⟨some 75, Op.convert 29 9 (.tmp 74), _, _, _, _⟩ :: _) _ _); refine wpList_unguard (by kernel_rfl) ?_; refine wpList_str rfl (.tmp 74) rfl A3 m d3 d rfl hO3.rd ?_)
      | ((with_reducible show wpList _ _ _ (⟨some 77, Op.convert 29 9 (.tmp 76), _, _, _, _⟩ :: _) _ _); refine wpList_unguard (by kernel_rfl) ?_; refine wpList_str rfl (.tmp 76) rfl (some ad) m c1 d rfl hd2 ?_)
      | ((with_reducible show wpList _ _ _ (⟨some 78, Op.binOp BinOp.neq 9 (.tmp 75) (.tmp 77) 9, _, _, _, _⟩ :: _) _ _); refine wpList_unguard (by kernel_rfl) ?_; refine wpList_strNe rfl (.tmp 75) (.tmp 77) rfl (strL d) (strL d) true (decide_eq_true rfl) rfl rfl ?_))
  refine (HR.out _).mono ?_
  rintro e w' ⟨rfl, rfl⟩
  have hOm : Own (w2.alloc (.cells #[] 5)) w2.heap.size (.slice (some ⟨w2.heap.size, 0, none⟩) 0 0) [] := own_made w2 _ (Nat.le_refl _)
  have hdm : Bytes (w2.alloc (.cells #[] 5)) (some ad) m d := hd2.alloc _
  go_wp2_with (first
      | ((with_reducible show wpList _ _ _ (⟨some 93, Op.call _, _, _, _, _⟩ :: _) _ _); refine wp_appA rfl (.tmp 91) (.tmp 92) rfl w2.heap.size (.slice (some ⟨w2.heap.size, 0, none⟩) 0 0) [] rfl hOm (some ad) m c1 d rfl hdm (by simp; omega) (by simp) ?_))
  intro v16 w3 h16 hg16 _
  have hb3 : Below w2.heap.size w2 w3 := grown_below ((Below.refl _ _).alloc (Nat.le_refl _) _) hg16 (by simp) (fun k hk => by have hk : some w2.heap.size = some k := hk; injection hk with hk; omega)
  clear hOm hdm hg16 HR
  obtain ⟨A16, c16, hv16⟩ := h16.form
  subst hv16
  rw [hd.1] at h16
  obtain ⟨g16, hA16, hg0, hg1⟩ := h16.at0 hm0
  subst hA16
  rw [hd.1]
  go_wp2_with fail
  have hcb := h16.cellAt (j := kk) hkm
  rw [HB.out] at hcb
  have hfz := h16.freeAt kk
  have hS0 : (w3.drew.cell? ⟨g16, kk, none⟩ = some (.int .u8 (b : Int)) ∧ w3.drew.frozen? ⟨g16, kk, none⟩ = false) := ⟨hcb, hfz⟩
  have k0 : (0 : Int) ≤ (kk : Int) := by omega
  have k1' : (kk : Int) < (m : Int) := by omega
  refine wp_region_Z 12 12 (fun w' => w'.cell? ⟨g16, kk, none⟩ = some (.int .u8 (b : Int)) ∧ w'.frozen? ⟨g16, kk, none⟩ = false) (fun _ => True) (by kernel_rfl) ?_
  have hS : _ ∧ True := ⟨hS0, trivial⟩
  refine wpAnyZ_any (i := 0) (oi := ⟨some 94, _, _, _, _, _⟩) (v := .slice (some ⟨g16, 0, none⟩) m c16) rfl (by kernel_rfl) (by kernel_rfl) (by kernel_rfl) (by kernel_rfl) (fun _ _ _ h => h) (Or.inl ⟨by kernel_rfl, fun w' _ => ?_⟩) ⟨.inr hS.1, .inr hS.2⟩ ?_
  · go_simp
  simp only [Act.put, List.setIfInBounds_toArray, List.set_cons_zero, List.set_cons_succ]
  refine wpAnyZ_any (i := 1) (oi := ⟨some 95, _, _, _, _, _⟩) (v := .int .i64 (kk : Int)) rfl (by kernel_rfl) (by kernel_rfl) (by kernel_rfl) (by kernel_rfl) (fun _ _ _ h => h) (Or.inl ⟨by kernel_rfl, fun w' _ => ?_⟩) ⟨.inr hS.1, .inr hS.2⟩ ?_
  · go_simp
  simp only [Act.put, List.setIfInBounds_toArray, List.set_cons_zero, List.set_cons_succ]
  refine wpAnyZ_any (i := 2) (oi := ⟨some 96, _, _, _, _, _⟩) (v := .slice (some ⟨g16, 0, none⟩) m c16) rfl (by kernel_rfl) (by kernel_rfl) (by kernel_rfl) (by kernel_rfl) (fun _ _ _ h => h) (Or.inl ⟨by kernel_rfl, fun w' _ => ?_⟩) ⟨.inr hS.1, .inr hS.2⟩ ?_
  · go_simp
  simp only [Act.put, List.setIfInBounds_toArray, List.set_cons_zero, List.set_cons_succ]
  refine wpAnyZ_any (i := 3) (oi := ⟨some 97, _, _, _, _, _⟩) (v := .int .i64 (kk : Int)) rfl (by kernel_rfl) (by kernel_rfl) (by kernel_rfl) (by kernel_rfl) (fun _ _ _ h => h) (Or.inl ⟨by kernel_rfl, fun w' _ => ?_⟩) ⟨.inr hS.1, .inr hS.2⟩ ?_
  · go_simp
  simp only [Act.put, List.setIfInBounds_toArray, List.set_cons_zero, List.set_cons_succ]
  refine wpAnyZ_any (i := 4) (oi := ⟨some 98, _, _, _, _, _⟩) (v := .pointer (some ⟨g16, kk, none⟩)) rfl (by kernel_rfl) (by kernel_rfl) (by kernel_rfl) (by kernel_rfl) (fun _ _ _ h => h) (Or.inl ⟨by kernel_rfl, fun w' _ => ?_⟩) ⟨.inr hS.1, .inr hS.2⟩ ?_
  · go_simp
  simp only [Act.put, List.setIfInBounds_toArray, List.set_cons_zero, List.set_cons_succ]
  refine wpAnyZ_take (i := 5) (oi := ⟨some 99, _, _, _, _, _⟩) (v := .int .u8 (b : Int)) rfl (by kernel_rfl) (by kernel_rfl) (by kernel_rfl) (by kernel_rfl) (fun _ _ _ h => h) (Or.inl ⟨by kernel_rfl, fun w' hSw => ?_⟩) hS ?_
  · (have c := hSw.1; go_simp)
  simp only [Act.put, List.setIfInBounds_toArray, List.set_cons_zero, List.set_cons_succ]
  refine wpAnyZ_any (i := 6) (oi := ⟨some 100, _, _, _, _, _⟩) (v := .int .u8 (((b + 1) % 256 : Nat) : Int)) rfl (by kernel_rfl) (by kernel_rfl) (by kernel_rfl) (by kernel_rfl) (fun _ _ _ h => h) (Or.inl ⟨by kernel_rfl, fun w' _ => ?_⟩) ⟨.inr hS.1, .inr hS.2⟩ ?_
  · (go_simp; rw [IntKind.wrap_u8]; try omega)
  simp only [Act.put, List.setIfInBounds_toArray, List.set_cons_zero, List.set_cons_succ]
  refine wpAnyZ_any (i := 7) (oi := ⟨some 101, _, _, _, _, _⟩) (v := .int .i64 by_) rfl (by kernel_rfl) (by kernel_rfl) (by kernel_rfl) (by kernel_rfl) (fun _ _ _ h => h) (Or.inl ⟨by kernel_rfl, fun w' _ => ?_⟩) ⟨.inr hS.1, .inr hS.2⟩ ?_
  · go_simp
  simp only [Act.put, List.setIfInBounds_toArray, List.set_cons_zero, List.set_cons_succ]
  refine wpAnyZ_one (i := 8) (o := ⟨some 102, _, _, _, _, _⟩) (by kernel_rfl) rfl (by kernel_rfl) (fun K hK => ?_)
  go_simp
  refine (HRb.out _).mono ?_
  rintro e q ⟨rfl, rfl⟩
  have hS := hS
  refine hK.out _ _ ⟨.inr hS.1, .inr hS.2⟩ ?_
  clear hK K
  refine wpAnyZ_any (i := 9) (oi := ⟨some 103, _, _, _, _, _⟩) (v := .int .u8 (rr : Int)) rfl (by kernel_rfl) (by kernel_rfl) (by kernel_rfl) (by kernel_rfl) (fun _ _ _ h => h) (Or.inl ⟨by kernel_rfl, fun w' _ => ?_⟩) ⟨.inr hS.1, .inr hS.2⟩ ?_
  · (go_simp; try (rw [IntKind.wrap_u8]; omega))
  simp only [Act.put, List.setIfInBounds_toArray, List.set_cons_zero, List.set_cons_succ]
  refine wpAnyZ_any (i := 10) (oi := ⟨some 104, _, _, _, _, _⟩) (v := .int .u8 (v : Int)) rfl (by kernel_rfl) (by kernel_rfl) (by kernel_rfl) (by kernel_rfl) (fun _ _ _ h => h) (Or.inl ⟨by kernel_rfl, fun w' _ => ?_⟩) ⟨.inr hS.1, .inr hS.2⟩ ?_
  · (go_simp; rw [IntKind.wrap_u8]; have := HV.out; omega)
  simp only [Act.put, List.setIfInBounds_toArray, List.set_cons_zero, List.set_cons_succ]
  refine wpAnyZ_any (i := 11) (oi := ⟨some 105, _, _, _, _, _⟩) (v := .pointer (some ⟨g16, kk, none⟩)) rfl (by kernel_rfl) (by kernel_rfl) (by kernel_rfl) (by kernel_rfl) (fun _ _ _ h => h) (Or.inl ⟨by kernel_rfl, fun w' _ => ?_⟩) ⟨.inr hS.1, .inr hS.2⟩ ?_
  · go_simp
  simp only [Act.put, List.setIfInBounds_toArray, List.set_cons_zero, List.set_cons_succ]
  refine wpAnyZ_one (i := 12) (o := ⟨none, _, _, _, _, _⟩) (by kernel_rfl) rfl (by kernel_rfl) (fun K hK => ?_)
  have c := hS.1.1
  have f := hS.1.2
  go_simp
  refine hK.out _ _ ⟨.inl (show _ = true by kernel_rfl), .inl (show _ = true by kernel_rfl)⟩ ?_
  clear hK K hS
  refine wpAnyZ_done (by kernel_rfl) ?_ _
  go_wp2_with fail
  have h17 : Own ((w3.setCell ⟨g16, kk, none⟩ (.int .u8 (v : Int))).drew) w2.heap.size (.slice (some ⟨g16, 0, none⟩) m c16) (d.set kk v) := h16.stored kk v hvl
  have hb4 : Below w2.heap.size w2 ((w3.setCell ⟨g16, kk, none⟩ (.int .u8 (v : Int))).drew) := (hb3.setCell (show w2.heap.size ≤ g16 from hg0) _).drew
  revert h17 hb4
  generalize (w3.setCell ⟨g16, kk, none⟩ (.int .u8 (v : Int))).drew = w4
  intro h17 hb4
  have hw4 := hw2.trans (hb4.mono hw2.size)
  refine (HE0.out _ _ _ c16 (hl.below hw4) h17.rd h17.cap).mono ?_
  rintro e w5 ⟨A7, c7, rfl, hO7, hC7, hb5⟩
  have hO1 := hO1.below (hb4.trans (hb5.mono hb4.size)) (Nat.le_refl _)
  have hw5 := hw4.trans (hb5.mono hw4.size)
  clear h17 hb4 hb5 h16 hb3 hcb hfz hS0 hO3 hC3 HE0 HD0 HRb hd hd2 hl hg0 hg1 hw4
  obtain ⟨ad1, hA1, _⟩ := hO1.rd.2.2.2 hm0
  subst hA1
  obtain ⟨ad7, hA7, _⟩ := hO7.rd.2.2.2 hm0
  subst hA7
  go_wp2_with fail
  go_loopw [19] (fun i wr => ∃ (i' : Nat), i = .int .i64 (i' : Int) ∧ i' ≤ nb ∧ Below w5.heap.size w5 wr) (fun i _ => nb - (intOf i).toNat)
  case atStart => exact ⟨0, rfl, by omega, Below.refl _ _⟩
  case round =>
    obtain ⟨i, rfl, hi, hB⟩ := hrel
    by_cases hin : i = nb
    · subst hin
      go_wp2_with fail
      refine (awake8 _).mono ?_
      rintro e w' ⟨rfl, hbel⟩
      go_wp2_with fail
      go_ret
      exact ⟨rfl, (hw5.trans (hB.mono hw5.size)).trans (hbel.mono (by have := hw5.size; have := hB.size; omega))⟩
    · have hi2 : i < nb := by omega
      clear hin
      obtain ⟨q, hq⟩ : ∃ q, q = 16 * i := ⟨_, rfl⟩
      obtain ⟨q2, hq2⟩ : ∃ q2, q2 = q + 16 := ⟨_, rfl⟩
      obtain ⟨kq, hkq⟩ : ∃ kq, kq = kk / 16 := ⟨_, rfl⟩
      have HQ := Box.mk hq
      have HQ2 := Box.mk hq2
      have HKQ := Box.mk hkq
      have hkql : kq ≤ 400 := by omega
      have hqm : q2 ≤ m := by have := HNB.out; omega
      have hqd : q2 - q = 16 := by omega
      have q0 : (0 : Int) ≤ (q : Int) := by omega
      have q1 : (q : Int) ≤ (q2 : Int) := by omega
      have q3 : (q2 : Int) ≤ (d1 : Int) := by omega
      have q4 : (q2 : Int) ≤ (c7 : Int) := by omega
      have ne1 : (d1 = q) = False := by simp; omega
      have ne7 : (c7 = q) = False := by simp; omega
      obtain ⟨x1, hx1⟩ : ∃ x, xtB false k1 k2 u d i = x := ⟨_, rfl⟩
      obtain ⟨x2, hx2⟩ : ∃ x, xtB false k1 k2 u (d.set kk v) i = x := ⟨_, rfl⟩
      have HP1 : Box (∀ w', Below wr.heap.size wr w' → Bytes w' (some (ad1.add q)) 16 (listB (byt x1))) := ⟨fun w' h => by
        have h2 := ((hO1.rd.below hB).below h).part (q := q) (by omega)
        rwa [hq, xtL_part false k1 k2 u d hi2, hx1, ← hq] at h2⟩
      have HP2 : Box (∀ w', Below wr.heap.size wr w' → Bytes w' (some (ad7.add q)) 16 (listB (byt x2))) := ⟨fun w' h => by
        have h2 := ((hO7.rd.below hB).below h).part (q := q) (by omega)
        rwa [hq, xtL_part false k1 k2 u (d.set kk v) hi2, hx2, ← hq] at h2⟩
      have hsb : decide (strL (listB (byt x1)) = strL (listB (byt x2))) = decide (i ≠ kq) := by
        rw [listB_byt (by rw [← hx1]; exact xtB_lt _ _ _ _ _ _) (by rw [← hx2]; exact xtB_lt _ _ _ _ _ _), ← hx1, ← hx2, HXE.out i, hkq]
      clear hq hq2 hkq hx1 hx2
      by_cases hik : i = kq
      · have HSB : Box (decide (strL (listB (byt x1)) = strL (listB (byt x2))) = false) := ⟨by rw [hsb]; exact decide_eq_false (by omega)⟩
        have hin2 : ((i : Int) != (kq : Int)) = false := by simp; omega
        clear hsb hik
        go_wp2_with fail
        refine wp_region_held_drew (S := fun w' => Below wr.heap.size wr w') (by kernel_rfl) (Below.refl _ _).drew (fun hS => ?_)
        refine wpAnyH_take (i := 0) (oi := ⟨some 129, _, _, _, _, _⟩) (v := .slice (some ad1) m d1) rfl (by kernel_rfl) (by kernel_rfl) (by kernel_rfl) (fun _ _ _ h => h) (Or.inl ⟨by kernel_rfl, fun w' hSw => ?_⟩) hS ?_
        · go_simp
        simp only [Act.put, List.setIfInBounds_toArray, List.set_cons_zero, List.set_cons_succ]
        refine wpAnyH_take (i := 1) (oi := ⟨some 130, _, _, _, _, _⟩) (v := .int .i64 (i : Int)) rfl (by kernel_rfl) (by kernel_rfl) (by kernel_rfl) (fun _ _ _ h => h) (Or.inl ⟨by kernel_rfl, fun w' hSw => ?_⟩) hS ?_
        · go_simp
        simp only [Act.put, List.setIfInBounds_toArray, List.set_cons_zero, List.set_cons_succ]
        refine wpAnyH_take (i := 2) (oi := ⟨some 131, _, _, _, _, _⟩) (v := .int .i64 (q : Int)) rfl (by kernel_rfl) (by kernel_rfl) (by kernel_rfl) (fun _ _ _ h => h) (Or.inl ⟨by kernel_rfl, fun w' hSw => ?_⟩) hS ?_
        · (go_simp; rw [show 16 * (i : Int) = (q : Int) by have := HQ.out; omega]; exact IntWalk.i64_in _ (by omega))
        simp only [Act.put, List.setIfInBounds_toArray, List.set_cons_zero, List.set_cons_succ]
        refine wpAnyH_take (i := 3) (oi := ⟨some 132, _, _, _, _, _⟩) (v := .int .i64 (i : Int)) rfl (by kernel_rfl) (by kernel_rfl) (by kernel_rfl) (fun _ _ _ h => h) (Or.inl ⟨by kernel_rfl, fun w' hSw => ?_⟩) hS ?_
        · go_simp
        simp only [Act.put, List.setIfInBounds_toArray, List.set_cons_zero, List.set_cons_succ]
        refine wpAnyH_take (i := 4) (oi := ⟨some 133, _, _, _, _, _⟩) (v := .int .i64 (q : Int)) rfl (by kernel_rfl) (by kernel_rfl) (by kernel_rfl) (fun _ _ _ h => h) (Or.inl ⟨by kernel_rfl, fun w' hSw => ?_⟩) hS ?_
        · (go_simp; rw [show 16 * (i : Int) = (q : Int) by have := HQ.out; omega]; exact IntWalk.i64_in _ (by omega))
        simp only [Act.put, List.setIfInBounds_toArray, List.set_cons_zero, List.set_cons_succ]
        refine wpAnyH_take (i := 5) (oi := ⟨some 134, _, _, _, _, _⟩) (v := .int .i64 (q2 : Int)) rfl (by kernel_rfl) (by kernel_rfl) (by kernel_rfl) (fun _ _ _ h => h) (Or.inl ⟨by kernel_rfl, fun w' hSw => ?_⟩) hS ?_
        · (go_simp; rw [show (q : Int) + 16 = (q2 : Int) by have := HQ2.out; omega]; exact IntWalk.i64_in _ (by omega))
        simp only [Act.put, List.setIfInBounds_toArray, List.set_cons_zero, List.set_cons_succ]
        refine wpAnyH_take (i := 6) (oi := ⟨some 135, _, _, _, _, _⟩) (v := .slice (some (ad1.add q)) 16 (d1 - q)) rfl (by kernel_rfl) (by kernel_rfl) (by kernel_rfl) (fun _ _ _ h => h) (Or.inl ⟨by kernel_rfl, fun w' hSw => ?_⟩) hS ?_
        · go_simp
        simp only [Act.put, List.setIfInBounds_toArray, List.set_cons_zero, List.set_cons_succ]
        refine wpAnyH_take (i := 7) (oi := ⟨some 136, _, _, _, _, _⟩) (v := .string (strL (listB (byt x1)))) rfl (by kernel_rfl) (by kernel_rfl) (by kernel_rfl) (fun _ _ _ h => h) (yields_str (by kernel_rfl) (.tmp 135) rfl (some (ad1.add q)) (16) (d1 - q) (listB (byt x1)) rfl (fun w' h => HP1.out w' h)) hS ?_
        simp only [Act.put, List.setIfInBounds_toArray, List.set_cons_zero, List.set_cons_succ]
        refine wpAnyH_take (i := 8) (oi := ⟨some 137, _, _, _, _, _⟩) (v := .slice (some ad7) m c7) rfl (by kernel_rfl) (by kernel_rfl) (by kernel_rfl) (fun _ _ _ h => h) (Or.inl ⟨by kernel_rfl, fun w' hSw => ?_⟩) hS ?_
        · go_simp
        simp only [Act.put, List.setIfInBounds_toArray, List.set_cons_zero, List.set_cons_succ]
        refine wpAnyH_take (i := 9) (oi := ⟨some 138, _, _, _, _, _⟩) (v := .int .i64 (i : Int)) rfl (by kernel_rfl) (by kernel_rfl) (by kernel_rfl) (fun _ _ _ h => h) (Or.inl ⟨by kernel_rfl, fun w' hSw => ?_⟩) hS ?_
        · go_simp
        simp only [Act.put, List.setIfInBounds_toArray, List.set_cons_zero, List.set_cons_succ]
        refine wpAnyH_take (i := 10) (oi := ⟨some 139, _, _, _, _, _⟩) (v := .int .i64 (q : Int)) rfl (by kernel_rfl) (by kernel_rfl) (by kernel_rfl) (fun _ _ _ h => h) (Or.inl ⟨by kernel_rfl, fun w' hSw => ?_⟩) hS ?_
        · (go_simp; rw [show 16 * (i : Int) = (q : Int) by have := HQ.out; omega]; exact IntWalk.i64_in _ (by omega))
        simp only [Act.put, List.setIfInBounds_toArray, List.set_cons_zero, List.set_cons_succ]
        refine wpAnyH_take (i := 11) (oi := ⟨some 140, _, _, _, _, _⟩) (v := .int .i64 (i : Int)) rfl (by kernel_rfl) (by kernel_rfl) (by kernel_rfl) (fun _ _ _ h => h) (Or.inl ⟨by kernel_rfl, fun w' hSw => ?_⟩) hS ?_
        · go_simp
        simp only [Act.put, List.setIfInBounds_toArray, List.set_cons_zero, List.set_cons_succ]
        refine wpAnyH_take (i := 12) (oi := ⟨some 141, _, _, _, _, _⟩) (v := .int .i64 (q : Int)) rfl (by kernel_rfl) (by kernel_rfl) (by kernel_rfl) (fun _ _ _ h => h) (Or.inl ⟨by kernel_rfl, fun w' hSw => ?_⟩) hS ?_
        · (go_simp; rw [show 16 * (i : Int) = (q : Int) by have := HQ.out; omega]; exact IntWalk.i64_in _ (by omega))
        simp only [Act.put, List.setIfInBounds_toArray, List.set_cons_zero, List.set_cons_succ]
        refine wpAnyH_take (i := 13) (oi := ⟨some 142, _, _, _, _, _⟩) (v := .int .i64 (q2 : Int)) rfl (by kernel_rfl) (by kernel_rfl) (by kernel_rfl) (fun _ _ _ h => h) (Or.inl ⟨by kernel_rfl, fun w' hSw => ?_⟩) hS ?_
        · (go_simp; rw [show (q : Int) + 16 = (q2 : Int) by have := HQ2.out; omega]; exact IntWalk.i64_in _ (by omega))
        simp only [Act.put, List.setIfInBounds_toArray, List.set_cons_zero, List.set_cons_succ]
        refine wpAnyH_take (i := 14) (oi := ⟨some 143, _, _, _, _, _⟩) (v := .slice (some (ad7.add q)) 16 (c7 - q)) rfl (by kernel_rfl) (by kernel_rfl) (by kernel_rfl) (fun _ _ _ h => h) (Or.inl ⟨by kernel_rfl, fun w' hSw => ?_⟩) hS ?_
        · go_simp
        simp only [Act.put, List.setIfInBounds_toArray, List.set_cons_zero, List.set_cons_succ]
        refine wpAnyH_take (i := 15) (oi := ⟨some 144, _, _, _, _, _⟩) (v := .string (strL (listB (byt x2)))) rfl (by kernel_rfl) (by kernel_rfl) (by kernel_rfl) (fun _ _ _ h => h) (yields_str (by kernel_rfl) (.tmp 143) rfl (some (ad7.add q)) (16) (c7 - q) (listB (byt x2)) rfl (fun w' h => HP2.out w' h)) hS ?_
        simp only [Act.put, List.setIfInBounds_toArray, List.set_cons_zero, List.set_cons_succ]
        refine wpAnyH_take (i := 16) (oi := ⟨some 145, _, _, _, _, _⟩) (v := .bool false) rfl (by kernel_rfl) (by kernel_rfl) (by kernel_rfl) (fun _ _ _ h => h) (yields_strEq (by kernel_rfl) (.tmp 136) (.tmp 144) rfl (strL (listB (byt x1))) (strL (listB (byt x2))) _ (HSB.out) rfl rfl) hS ?_
        simp only [Act.put, List.setIfInBounds_toArray, List.set_cons_zero, List.set_cons_succ]
        refine wpAnyH_take (i := 17) (oi := ⟨some 146, _, _, _, _, _⟩) (v := .int .i64 (i : Int)) rfl (by kernel_rfl) (by kernel_rfl) (by kernel_rfl) (fun _ _ _ h => h) (Or.inl ⟨by kernel_rfl, fun w' hSw => ?_⟩) hS ?_
        · go_simp
        simp only [Act.put, List.setIfInBounds_toArray, List.set_cons_zero, List.set_cons_succ]
        refine wpAnyH_take (i := 18) (oi := ⟨some 147, _, _, _, _, _⟩) (v := .int .i64 (kk : Int)) rfl (by kernel_rfl) (by kernel_rfl) (by kernel_rfl) (fun _ _ _ h => h) (Or.inl ⟨by kernel_rfl, fun w' hSw => ?_⟩) hS ?_
        · go_simp
        simp only [Act.put, List.setIfInBounds_toArray, List.set_cons_zero, List.set_cons_succ]
        refine wpAnyH_take (i := 19) (oi := ⟨some 148, _, _, _, _, _⟩) (v := .int .i64 (kq : Int)) rfl (by kernel_rfl) (by kernel_rfl) (by kernel_rfl) (fun _ _ _ h => h) (Or.inl ⟨by kernel_rfl, fun w' hSw => ?_⟩) hS ?_
        · (go_simp; rw [show (kk : Int) / 16 = (kq : Int) by have := HKQ.out; omega]; exact IntWalk.i64_in _ (by omega))
        simp only [Act.put, List.setIfInBounds_toArray, List.set_cons_zero, List.set_cons_succ]
        refine wpAnyH_take (i := 20) (oi := ⟨some 149, _, _, _, _, _⟩) (v := .bool false) rfl (by kernel_rfl) (by kernel_rfl) (by kernel_rfl) (fun _ _ _ h => h) (Or.inl ⟨by kernel_rfl, fun w' hSw => ?_⟩) hS ?_
        · go_simp
        simp only [Act.put, List.setIfInBounds_toArray, List.set_cons_zero, List.set_cons_succ]
        refine wpAnyH_take (i := 21) (oi := ⟨some 150, _, _, _, _, _⟩) (v := .bool false) rfl (by kernel_rfl) (by kernel_rfl) (by kernel_rfl) (fun _ _ _ h => h) (Or.inl ⟨by kernel_rfl, fun w' hSw => ?_⟩) hS ?_
        · go_simp
        simp only [Act.put, List.setIfInBounds_toArray, List.set_cons_zero, List.set_cons_succ]
        refine wpAnyH_done (by kernel_rfl) ?_ _
        go_wp2_with fail
        go_roundw
        case rel => exact ⟨i + 1, by go_num, by omega, hB.drew⟩
        case measure => simp [intOf]; omega
      · have HSB : Box (decide (strL (listB (byt x1)) = strL (listB (byt x2))) = true) := ⟨by rw [hsb]; exact decide_eq_true (by omega)⟩
        have hin2 : ((i : Int) != (kq : Int)) = true := by simp; omega
        clear hsb hik
        go_wp2_with fail
        refine wp_region_held_drew (S := fun w' => Below wr.heap.size wr w') (by kernel_rfl) (Below.refl _ _).drew (fun hS => ?_)
        refine wpAnyH_take (i := 0) (oi := ⟨some 129, _, _, _, _, _⟩) (v := .slice (some ad1) m d1) rfl (by kernel_rfl) (by kernel_rfl) (by kernel_rfl) (fun _ _ _ h => h) (Or.inl ⟨by kernel_rfl, fun w' hSw => ?_⟩) hS ?_
        · go_simp
        simp only [Act.put, List.setIfInBounds_toArray, List.set_cons_zero, List.set_cons_succ]
        refine wpAnyH_take (i := 1) (oi := ⟨some 130, _, _, _, _, _⟩) (v := .int .i64 (i : Int)) rfl (by kernel_rfl) (by kernel_rfl) (by kernel_rfl) (fun _ _ _ h => h) (Or.inl ⟨by kernel_rfl, fun w' hSw => ?_⟩) hS ?_
        · go_simp
        simp only [Act.put, List.setIfInBounds_toArray, List.set_cons_zero, List.set_cons_succ]
        refine wpAnyH_take (i := 2) (oi := ⟨some 131, _, _, _, _, _⟩) (v := .int .i64 (q : Int)) rfl (by kernel_rfl) (by kernel_rfl) (by kernel_rfl) (fun _ _ _ h => h) (Or.inl ⟨by kernel_rfl, fun w' hSw => ?_⟩) hS ?_
        · (go_simp; rw [show 16 * (i : Int) = (q : Int) by have := HQ.out; omega]; exact IntWalk.i64_in _ (by omega))
        simp only [Act.put, List.setIfInBounds_toArray, List.set_cons_zero, List.set_cons_succ]
        refine wpAnyH_take (i := 3) (oi := ⟨some 132, _, _, _, _, _⟩) (v := .int .i64 (i : Int)) rfl (by kernel_rfl) (by kernel_rfl) (by kernel_rfl) (fun _ _ _ h => h) (Or.inl ⟨by kernel_rfl, fun w' hSw => ?_⟩) hS ?_
        · go_simp
        simp only [Act.put, List.setIfInBounds_toArray, List.set_cons_zero, List.set_cons_succ]
        refine wpAnyH_take (i := 4) (oi := ⟨some 133, _, _, _, _, _⟩) (v := .int .i64 (q : Int)) rfl (by kernel_rfl) (by kernel_rfl) (by kernel_rfl) (fun _ _ _ h => h) (Or.inl ⟨by kernel_rfl, fun w' hSw => ?_⟩) hS ?_
        · (go_simp; rw [show 16 * (i : Int) = (q : Int) by have := HQ.out; omega]; exact IntWalk.i64_in _ (by omega))
        simp only [Act.put, List.setIfInBounds_toArray, List.set_cons_zero, List.set_cons_succ]
        refine wpAnyH_take (i := 5) (oi := ⟨some 134, _, _, _, _, _⟩) (v := .int .i64 (q2 : Int)) rfl (by kernel_rfl) (by kernel_rfl) (by kernel_rfl) (fun _ _ _ h => h) (Or.inl ⟨by kernel_rfl, fun w' hSw => ?_⟩) hS ?_
        · (go_simp; rw [show (q : Int) + 16 = (q2 : Int) by have := HQ2.out; omega]; exact IntWalk.i64_in _ (by omega))
        simp only [Act.put, List.setIfInBounds_toArray, List.set_cons_zero, List.set_cons_succ]
        refine wpAnyH_take (i := 6) (oi := ⟨some 135, _, _, _, _, _⟩) (v := .slice (some (ad1.add q)) 16 (d1 - q)) rfl (by kernel_rfl) (by kernel_rfl) (by kernel_rfl) (fun _ _ _ h => h) (Or.inl ⟨by kernel_rfl, fun w' hSw => ?_⟩) hS ?_
        · go_simp
        simp only [Act.put, List.setIfInBounds_toArray, List.set_cons_zero, List.set_cons_succ]
        refine wpAnyH_take (i := 7) (oi := ⟨some 136, _, _, _, _, _⟩) (v := .string (strL (listB (byt x1)))) rfl (by kernel_rfl) (by kernel_rfl) (by kernel_rfl) (fun _ _ _ h => h) (yields_str (by kernel_rfl) (.tmp 135) rfl (some (ad1.add q)) (16) (d1 - q) (listB (byt x1)) rfl (fun w' h => HP1.out w' h)) hS ?_
        simp only [Act.put, List.setIfInBounds_toArray, List.set_cons_zero, List.set_cons_succ]
        refine wpAnyH_take (i := 8) (oi := ⟨some 137, _, _, _, _, _⟩) (v := .slice (some ad7) m c7) rfl (by kernel_rfl) (by kernel_rfl) (by kernel_rfl) (fun _ _ _ h => h) (Or.inl ⟨by kernel_rfl, fun w' hSw => ?_⟩) hS ?_
        · go_simp
        simp only [Act.put, List.setIfInBounds_toArray, List.set_cons_zero, List.set_cons_succ]
        refine wpAnyH_take (i := 9) (oi := ⟨some 138, _, _, _, _, _⟩) (v := .int .i64 (i : Int)) rfl (by kernel_rfl) (by kernel_rfl) (by kernel_rfl) (fun _ _ _ h => h) (Or.inl ⟨by kernel_rfl, fun w' hSw => ?_⟩) hS ?_
        · go_simp
        simp only [Act.put, List.setIfInBounds_toArray, List.set_cons_zero, List.set_cons_succ]
        refine wpAnyH_take (i := 10) (oi := ⟨some 139, _, _, _, _, _⟩) (v := .int .i64 (q : Int)) rfl (by kernel_rfl) (by kernel_rfl) (by kernel_rfl) (fun _ _ _ h => h) (Or.inl ⟨by kernel_rfl, fun w' hSw => ?_⟩) hS ?_
        · (go_simp; rw [show 16 * (i : Int) = (q : Int) by have := HQ.out; omega]; exact IntWalk.i64_in _ (by omega))
        simp only [Act.put, List.setIfInBounds_toArray, List.set_cons_zero, List.set_cons_succ]
        refine wpAnyH_take (i := 11) (oi := ⟨some 140, _, _, _, _, _⟩) (v := .int .i64 (i : Int)) rfl (by kernel_rfl) (by kernel_rfl) (by kernel_rfl) (fun _ _ _ h => h) (Or.inl ⟨by kernel_rfl, fun w' hSw => ?_⟩) hS ?_
        · go_simp
        simp only [Act.put, List.setIfInBounds_toArray, List.set_cons_zero, List.set_cons_succ]
        refine wpAnyH_take (i := 12) (oi := ⟨some 141, _, _, _, _, _⟩) (v := .int .i64 (q : Int)) rfl (by kernel_rfl) (by kernel_rfl) (by kernel_rfl) (fun _ _ _ h => h) (Or.inl ⟨by kernel_rfl, fun w' hSw => ?_⟩) hS ?_
        · (go_simp; rw [show 16 * (i : Int) = (q : Int) by have := HQ.out; omega]; exact IntWalk.i64_in _ (by omega))
        simp only [Act.put, List.setIfInBounds_toArray, List.set_cons_zero, List.set_cons_succ]
        refine wpAnyH_take (i := 13) (oi := ⟨some 142, _, _, _, _, _⟩) (v := .int .i64 (q2 : Int)) rfl (by kernel_rfl) (by kernel_rfl) (by kernel_rfl) (fun _ _ _ h => h) (Or.inl ⟨by kernel_rfl, fun w' hSw => ?_⟩) hS ?_
        · (go_simp; rw [show (q : Int) + 16 = (q2 : Int) by have := HQ2.out; omega]; exact IntWalk.i64_in _ (by omega))
        simp only [Act.put, List.setIfInBounds_toArray, List.set_cons_zero, List.set_cons_succ]
        refine wpAnyH_take (i := 14) (oi := ⟨some 143, _, _, _, _, _⟩) (v := .slice (some (ad7.add q)) 16 (c7 - q)) rfl (by kernel_rfl) (by kernel_rfl) (by kernel_rfl) (fun _ _ _ h => h) (Or.inl ⟨by kernel_rfl, fun w' hSw => ?_⟩) hS ?_
        · go_simp
        simp only [Act.put, List.setIfInBounds_toArray, List.set_cons_zero, List.set_cons_succ]
        refine wpAnyH_take (i := 15) (oi := ⟨some 144, _, _, _, _, _⟩) (v := .string (strL (listB (byt x2)))) rfl (by kernel_rfl) (by kernel_rfl) (by kernel_rfl) (fun _ _ _ h => h) (yields_str (by kernel_rfl) (.tmp 143) rfl (some (ad7.add q)) (16) (c7 - q) (listB (byt x2)) rfl (fun w' h => HP2.out w' h)) hS ?_
        simp only [Act.put, List.setIfInBounds_toArray, List.set_cons_zero, List.set_cons_succ]
        refine wpAnyH_take (i := 16) (oi := ⟨some 145, _, _, _, _, _⟩) (v := .bool true) rfl (by kernel_rfl) (by kernel_rfl) (by kernel_rfl) (fun _ _ _ h => h) (yields_strEq (by kernel_rfl) (.tmp 136) (.tmp 144) rfl (strL (listB (byt x1))) (strL (listB (byt x2))) _ (HSB.out) rfl rfl) hS ?_
        simp only [Act.put, List.setIfInBounds_toArray, List.set_cons_zero, List.set_cons_succ]
        refine wpAnyH_take (i := 17) (oi := ⟨some 146, _, _, _, _, _⟩) (v := .int .i64 (i : Int)) rfl (by kernel_rfl) (by kernel_rfl) (by kernel_rfl) (fun _ _ _ h => h) (Or.inl ⟨by kernel_rfl, fun w' hSw => ?_⟩) hS ?_
        · go_simp
        simp only [Act.put, List.setIfInBounds_toArray, List.set_cons_zero, List.set_cons_succ]
        refine wpAnyH_take (i := 18) (oi := ⟨some 147, _, _, _, _, _⟩) (v := .int .i64 (kk : Int)) rfl (by kernel_rfl) (by kernel_rfl) (by kernel_rfl) (fun _ _ _ h => h) (Or.inl ⟨by kernel_rfl, fun w' hSw => ?_⟩) hS ?_
        · go_simp
        simp only [Act.put, List.setIfInBounds_toArray, List.set_cons_zero, List.set_cons_succ]
        refine wpAnyH_take (i := 19) (oi := ⟨some 148, _, _, _, _, _⟩) (v := .int .i64 (kq : Int)) rfl (by kernel_rfl) (by kernel_rfl) (by kernel_rfl) (fun _ _ _ h => h) (Or.inl ⟨by kernel_rfl, fun w' hSw => ?_⟩) hS ?_
        · (go_simp; rw [show (kk : Int) / 16 = (kq : Int) by have := HKQ.out; omega]; exact IntWalk.i64_in _ (by omega))
        simp only [Act.put, List.setIfInBounds_toArray, List.set_cons_zero, List.set_cons_succ]
        refine wpAnyH_take (i := 20) (oi := ⟨some 149, _, _, _, _, _⟩) (v := .bool true) rfl (by kernel_rfl) (by kernel_rfl) (by kernel_rfl) (fun _ _ _ h => h) (Or.inl ⟨by kernel_rfl, fun w' hSw => ?_⟩) hS ?_
        · go_simp
        simp only [Act.put, List.setIfInBounds_toArray, List.set_cons_zero, List.set_cons_succ]
        refine wpAnyH_take (i := 21) (oi := ⟨some 150, _, _, _, _, _⟩) (v := .bool false) rfl (by kernel_rfl) (by kernel_rfl) (by kernel_rfl) (fun _ _ _ h => h) (Or.inl ⟨by kernel_rfl, fun w' hSw => ?_⟩) hS ?_
        · go_simp
        simp only [Act.put, List.setIfInBounds_toArray, List.set_cons_zero, List.set_cons_succ]
        refine wpAnyH_done (by kernel_rfl) ?_ _
        go_wp2_with fail
        go_roundw
        case rel => exact ⟨i + 1, by go_num, by omega, hB.drew⟩
        case measure => simp [intOf]; omega
theorem xtsBack_walk {w : World} (A : Option Addr) (n c : Nat) (l : List Nat) (hc : n ≤ c) (hl : Bytes w A n l) (u : Int) (_u0 : -9223372036854775808 ≤ u) (_u1 : u ≤ 9223372036854775807) (B : Option Addr) (m c1 : Nat) (d : List Nat) (hc1 : m ≤ c1) (hd : Bytes w B m d)
    (at_ : Int) (_a0 : -9223372036854775808 ≤ at_) (_a1 : at_ ≤ 9223372036854775807) (by_ : Int) (_b0 : -9223372036854775808 ≤ by_) (_b1 : by_ ≤ 9223372036854775807) :
    Calls Try.prog 24 #[.slice A n c, .int .i64 u, .slice B m c1, .int .i64 at_, .int .i64 by_] w fun e w' => e = .returned (.bool true) ∧ Below w.heap.size w w' := by
  by_cases h32 : n = 32
  · have a1 : ((n : Int) != 32) = false := by simp; omega
    by_cases u0 : u < 0
    · exact xback_out32A A n c u B m c1 at_ by_ w a1 u0
    · by_cases u1 : 1099511627776 < u
      · exact xback_out32B A n c u B m c1 at_ by_ w a1 (by omega) u1
      · by_cases m0 : m = 0
        · exact xback_out32C A n c u B m c1 at_ by_ w a1 (by omega) (by omega) (by simp; omega)
        · by_cases m1 : m % 16 = 0
          · by_cases m2 : m ≤ 400
            · obtain ⟨ad, hB, _⟩ := hd.2.2.2 (by omega)
              subst hB
              obtain ⟨v, rfl⟩ := Int.eq_ofNat_of_zero_le (show 0 ≤ u by omega)
              exact xback_in32 A n c l v ad m c1 d at_ by_ w hl hc hd hc1 a1 (by omega) (by omega) (by simp; omega) (by simp; omega) m2 (by omega) ⟨⟨.inl h32, by omega, by omega⟩, m1, by omega⟩
            · exact xback_out32E A n c u B m c1 at_ by_ w a1 (by omega) (by omega) (by simp; omega) (by simp; omega) (by omega)
          · exact xback_out32D A n c u B m c1 at_ by_ w a1 (by omega) (by omega) (by simp; omega) (by simp; omega)
  · have a1 : ((n : Int) != 32) = true := by simp; omega
    by_cases h64 : n = 64
    · have a2 : ((n : Int) != 64) = false := by simp; omega
      by_cases u0 : u < 0
      · exact xback_out64A A n c u B m c1 at_ by_ w a1 a2 u0
      · by_cases u1 : 1099511627776 < u
        · exact xback_out64B A n c u B m c1 at_ by_ w a1 a2 (by omega) u1
        · by_cases m0 : m = 0
          · exact xback_out64C A n c u B m c1 at_ by_ w a1 a2 (by omega) (by omega) (by simp; omega)
          · by_cases m1 : m % 16 = 0
            · by_cases m2 : m ≤ 400
              · obtain ⟨ad, hB, _⟩ := hd.2.2.2 (by omega)
                subst hB
                obtain ⟨v, rfl⟩ := Int.eq_ofNat_of_zero_le (show 0 ≤ u by omega)
                exact xback_in64 A n c l v ad m c1 d at_ by_ w hl hc hd hc1 a1 a2 (by omega) (by omega) (by simp; omega) (by simp; omega) m2 (by omega) ⟨⟨.inr h64, by omega, by omega⟩, m1, by omega⟩
              · exact xback_out64E A n c u B m c1 at_ by_ w a1 a2 (by omega) (by omega) (by simp; omega) (by simp; omega) (by omega)
            · exact xback_out64D A n c u B m c1 at_ by_ w a1 a2 (by omega) (by omega) (by simp; omega) (by simp; omega)
    · exact xback_outN A n c u B m c1 at_ by_ w a1 (by simp; omega)
end Go.Proofs.Ytibfihjcjohadaa
