/-
  The walks of the reference's MayXts and Tweaks, and of the law's own Blocks at two rows that are alike. Conditions: what may be; numbers in their bounds.
-/
import Derived.Test.YtibfihjcjohadaaXH
import Derived.Test.YtibfihjcjohadaaMR
import Derived.Test.YtibfihjcjohadaaRTms
namespace Go.Proofs.Ytibfihjcjohadaa
open Go.RowKit Go.Op
open Aes (words words_len)
open Twk (byt dbl dbl_lt up)
theorem Blocks.cellAt {w : World} {b o n k t j : Nat} {l : List Nat} (h : Blocks w (some ⟨b, o, none⟩) n l) (hk : k < n) (ht : l.getD k 0 = t) (hj : j < 16) : w.cell? (Addr.add ⟨b, o + k * 16, none⟩ j) = some (cellOf (byt t j)) := by
  obtain ⟨b2, o2, t2, hA, ht2, _, _, hr⟩ := h.at_ hk
  injection hA with hA
  injection hA with e1 e2 e3
  subst e1 e2
  rw [ht] at ht2
  subst ht2
  rw [add_off]
  exact hr j (cellOf (byt t j)) (by simp [bl, List.getElem?_map, List.getElem?_range hj])
set_option maxRecDepth 100000 in
theorem rmay_noN (A : Option Addr) (n c : Nat) (u : Int) (w : World) (h1 : ((n : Int) == 32) = false) (h2 : ((n : Int) == 64) = false) : Calls Try.prog 73 #[.slice A n c, .int .i64 u] w fun e w' => e = .returned (.bool false) ∧ w = w' := by
  go_enter Try.func73, Try.ntmps73
  go_wp2_with fail
  go_ret
  exact ⟨rfl, rfl⟩
set_option maxRecDepth 100000 in
theorem rmay_yes32 (A : Option Addr) (n c : Nat) (u : Int) (w : World) (h1 : ((n : Int) == 32) = true) (h3 : 0 ≤ u) (h4 : u ≤ 1099511627776) : Calls Try.prog 73 #[.slice A n c, .int .i64 u] w fun e w' => e = .returned (.bool true) ∧ w = w' := by
  go_enter Try.func73, Try.ntmps73
  go_wp2_with fail
  go_ret
  exact ⟨rfl, rfl⟩
set_option maxRecDepth 100000 in
theorem rmay_noA32 (A : Option Addr) (n c : Nat) (u : Int) (w : World) (h1 : ((n : Int) == 32) = true) (h3 : u < 0) : Calls Try.prog 73 #[.slice A n c, .int .i64 u] w fun e w' => e = .returned (.bool false) ∧ w = w' := by
  go_enter Try.func73, Try.ntmps73
  go_wp2_with fail
  go_ret
  exact ⟨rfl, rfl⟩
set_option maxRecDepth 100000 in
theorem rmay_noB32 (A : Option Addr) (n c : Nat) (u : Int) (w : World) (h1 : ((n : Int) == 32) = true) (h3 : 0 ≤ u) (h4 : decide (u ≤ 1099511627776) = false) : Calls Try.prog 73 #[.slice A n c, .int .i64 u] w fun e w' => e = .returned (.bool false) ∧ w = w' := by
  go_enter Try.func73, Try.ntmps73
  go_wp2_with fail
  go_ret
  exact ⟨rfl, rfl⟩
set_option maxRecDepth 100000 in
theorem rmay_yes64 (A : Option Addr) (n c : Nat) (u : Int) (w : World) (h1 : ((n : Int) == 32) = false) (h2 : ((n : Int) == 64) = true) (h3 : 0 ≤ u) (h4 : u ≤ 1099511627776) : Calls Try.prog 73 #[.slice A n c, .int .i64 u] w fun e w' => e = .returned (.bool true) ∧ w = w' := by
  go_enter Try.func73, Try.ntmps73
  go_wp2_with fail
  go_ret
  exact ⟨rfl, rfl⟩
set_option maxRecDepth 100000 in
theorem rmay_noA64 (A : Option Addr) (n c : Nat) (u : Int) (w : World) (h1 : ((n : Int) == 32) = false) (h2 : ((n : Int) == 64) = true) (h3 : u < 0) : Calls Try.prog 73 #[.slice A n c, .int .i64 u] w fun e w' => e = .returned (.bool false) ∧ w = w' := by
  go_enter Try.func73, Try.ntmps73
  go_wp2_with fail
  go_ret
  exact ⟨rfl, rfl⟩
set_option maxRecDepth 100000 in
theorem rmay_noB64 (A : Option Addr) (n c : Nat) (u : Int) (w : World) (h1 : ((n : Int) == 32) = false) (h2 : ((n : Int) == 64) = true) (h3 : 0 ≤ u) (h4 : decide (u ≤ 1099511627776) = false) : Calls Try.prog 73 #[.slice A n c, .int .i64 u] w fun e w' => e = .returned (.bool false) ∧ w = w' := by
  go_enter Try.func73, Try.ntmps73
  go_wp2_with fail
  go_ret
  exact ⟨rfl, rfl⟩
theorem rmay_yes (A : Option Addr) (n c : Nat) (u : Int) (w : World) (h : MayX n u) : Calls Try.prog 73 #[.slice A n c, .int .i64 u] w fun e w' => e = .returned (.bool true) ∧ w = w' := by
  obtain ⟨h1 | h1, h2, h3⟩ := h
  · exact rmay_yes32 A n c u w (by simp; omega) h2 h3
  · exact rmay_yes64 A n c u w (by simp; omega) (by simp; omega) h2 h3
theorem rmay_no (A : Option Addr) (n c : Nat) (u : Int) (w : World) (h : ¬ MayX n u) : Calls Try.prog 73 #[.slice A n c, .int .i64 u] w fun e w' => e = .returned (.bool false) ∧ w = w' := by
  unfold MayX at h
  by_cases h1 : n = 32
  · by_cases h2 : u < 0
    · exact rmay_noA32 A n c u w (by simp; omega) h2
    · exact rmay_noB32 A n c u w (by simp; omega) (by omega) (decide_eq_false (by omega))
  · by_cases h3 : n = 64
    · by_cases h2 : u < 0
      · exact rmay_noA64 A n c u w (by simp; omega) (by simp; omega) h2
      · exact rmay_noB64 A n c u w (by simp; omega) (by simp; omega) (by omega) (decide_eq_false (by omega))
    · exact rmay_noN A n c u w (by simp; omega) (by simp; omega)
theorem rencN (C X : Nat) (l : List Nat) (x : Nat) (hk : MayK l.length) (w : World) (hC : Rciph w C X (words l)) :
    Calls Try.prog 66 #[.pointer (some ⟨C, 0, none⟩), .agg (bv (byt x))] w fun e w' => e = .returned (.agg (bv (byt (encN l x)))) ∧ Below w.heap.size w w' := by
  have h := rencrypt_key C X l (byt x) hk (Twk.byt_lt x) w hC
  rwa [bv_encN] at h
theorem rdecN (C X : Nat) (l : List Nat) (x : Nat) (hk : MayK l.length) (w : World) (hC : Rciph w C X (words l)) :
    Calls Try.prog 67 #[.pointer (some ⟨C, 0, none⟩), .agg (bv (byt x))] w fun e w' => e = .returned (.agg (bv (byt (decN l x)))) ∧ Below w.heap.size w w' := by
  have h := rdecrypt_key C X l (byt x) hk (Twk.byt_lt x) w hC
  rwa [bv_decN] at h
set_option maxRecDepth 100000 in
set_option maxHeartbeats 2000000 in
theorem rtw32 (X : Nat) (ad : Addr) (c : Nat) (l : List Nat) (u m : Nat) (w : World) (hl : Bytes w (some ad) 32 l) (hc : 32 ≤ c) (hu : u < 9223372036854775808) (hm : m ≤ 256) (hX : BoxM w X) :
    Calls Try.prog 75 #[.pointer (some ⟨X, 0, none⟩), .slice (some ad) 32 c, .int .i64 (u : Int), .int .i64 (m : Int)] w (TwQ (half2 l) u m w) := by
  have hk : MayK (half2 l).length := half2_may (by rw [hl.1]; decide)
  have HN2 : Box (∀ (w : World), Bytes w (some ad) 32 l → BoxM w X → Calls Try.prog 63 #[.pointer (some ⟨X, 0, none⟩), .slice (some ⟨ad.block, ad.off + 16, none⟩) 16 (c - 16)] w fun e w' => RnewQ (half2 l) X w e w') := ⟨fun w h hX => by
    have e1 : half2 l = l.drop 16 := by unfold half2; rw [hl.1]
    rw [e1]
    have h2 := h.drop (h := 16) (by decide)
    rw [add_lit _ _ (by decide)] at h2
    exact rnew_any X _ 16 (c - 16) (l.drop 16) _ h2 hX (by decide)⟩
  generalize half2 l = k2 at hk HN2 ⊢
  have HNU : Box (∀ w, Calls Try.prog 46 #[.int .i64 (u : Int)] w fun e w' => e = .returned (.agg (bv (byt u))) ∧ Below w.heap.size w w') := ⟨fun w => rnumber_nat u hu w⟩
  have HG : Box (∀ (C : Nat) (w : World), Rciph w C X (words k2) → Calls Try.prog 66 #[.pointer (some ⟨C, 0, none⟩), .agg (bv (byt u))] w fun e w' => e = .returned (.agg (bv (byt (encN k2 u)))) ∧ Below w.heap.size w w') := ⟨fun C w h => rencN C X k2 u hk w h⟩
  have HT0 : Box (encN k2 u = twN k2 u 0) := ⟨rfl⟩
  revert HG HT0
  generalize encN k2 u = t0
  intro HG HT0
  have hne : (c = 16) = False := by simp; omega
  clear hk hu
  go_enter Try.func75, Try.ntmps75
  go_wp2_with fail
  refine (HN2.out _ hl hX).mono ?_
  rintro e w1 ⟨C, rfl, hC, hb1, _⟩
  go_wp2_with fail
  refine (HNU.out _).mono ?_
  rintro e w2 ⟨rfl, hb2⟩
  have hC := hC.below hb2
  have hw2 := hb1.trans (hb2.mono hb1.size)
  go_wp2_with fail
  refine (HG.out C _ hC).mono ?_
  rintro e w3 ⟨rfl, hb3⟩
  have hw3 := hw2.trans (hb3.mono hw2.size)
  clear hb1 hb2 hw2 hb3 hC HN2 HNU HG hl hX
  go_wp2_with (first
      | ((with_reducible show wpList _ _ _ (⟨_, Op.store 36 (.tmp 9) (.tmp 21), _, _, _, _⟩ :: _) _ _); refine wp_store_arr rfl (.tmp 9) (.tmp 21) rfl (w3.heap.size) (fun _ => 0) (byt t0) rfl rfl (Arr.zero _ _ rfl) ?_))
  have hA : Arr ((w3.alloc (.cells #[.int .u8 0, .int .u8 0, .int .u8 0, .int .u8 0, .int .u8 0, .int .u8 0, .int .u8 0, .int .u8 0, .int .u8 0, .int .u8 0, .int .u8 0, .int .u8 0, .int .u8 0, .int .u8 0, .int .u8 0, .int .u8 0] 36)).setRow w3.heap.size (bv (byt t0))) w3.heap.size (byt t0) := (Arr.zero _ _ rfl).setRow
  have hbW : Below w3.heap.size w3 ((w3.alloc (.cells #[.int .u8 0, .int .u8 0, .int .u8 0, .int .u8 0, .int .u8 0, .int .u8 0, .int .u8 0, .int .u8 0, .int .u8 0, .int .u8 0, .int .u8 0, .int .u8 0, .int .u8 0, .int .u8 0, .int .u8 0, .int .u8 0] 36)).setRow w3.heap.size (bv (byt t0))) := below_setRow ((Below.refl _ _).alloc (Nat.le_refl _) _) (Nat.le_refl _) _
  revert hA hbW
  generalize ((w3.alloc (.cells #[.int .u8 0, .int .u8 0, .int .u8 0, .int .u8 0, .int .u8 0, .int .u8 0, .int .u8 0, .int .u8 0, .int .u8 0, .int .u8 0, .int .u8 0, .int .u8 0, .int .u8 0, .int .u8 0, .int .u8 0, .int .u8 0] 36)).setRow w3.heap.size (bv (byt t0))) = wc
  intro hA hbW
  obtain ⟨g, hg⟩ : ∃ g, g = w3.heap.size := ⟨_, rfl⟩
  rw [← hg] at hA ⊢
  have hgw : w.heap.size ≤ g := by have := hw3.size; omega
  have hw4 := hw3.trans (hbW.mono hw3.size)
  have hgl := hA.lt
  clear hbW hw3 hg
  rw [HT0.out] at hA
  clear HT0
  go_wp2_with fail
  go_loopw [10, 11] (fun o i wr => ∃ (k : Nat), i = .int .i64 (k : Int) ∧ k ≤ m ∧ OwnB wr wc.heap.size o (twL k2 u k) ∧ Arr wr g (byt (twN k2 u k)) ∧ Below w.heap.size w wr ∧ wc.heap.size ≤ wr.heap.size) (fun _ i _ => m - (intOf i).toNat)
  case atStart => exact ⟨0, rfl, by omega, ownB_nil _ _, hA, hw4, Nat.le_refl _⟩
  case round =>
    have hwc := hw4.size
    clear hA hw4
    obtain ⟨k, rfl, hk, hO, hA, hB, hz⟩ := hrel
    by_cases hkn : k = m
    · subst hkn
      go_wp2_with fail
      go_ret
      exact ⟨_, rfl, hO.le hwc, hB⟩
    · have hk2 : k < m := by omega
      clear hkn
      obtain ⟨v, hv⟩ : ∃ v, v = twN k2 u k := ⟨_, rfl⟩
      have hvl : v < 2 ^ 128 := by rw [hv]; exact twN_lt _ _ _
      have HV : Box (twN k2 u (k + 1) = dbl v) := ⟨by rw [hv]; rfl⟩
      have HL : Box (twL k2 u (k + 1) = twL k2 u k ++ [v]) := ⟨by rw [hv]; exact twL_succ _ _ _⟩
      have HD2 : Box (∀ w, Calls Try.prog 40 #[.agg (bv (byt v))] w fun e w' => e = .returned (.agg (bv (byt (dbl v)))) ∧ Below w.heap.size w w') := ⟨fun w => rdouble_any v hvl w⟩
      rw [← hv] at hA
      have hlen : (twL k2 u k).length ≤ 256 := by rw [twL_len]; omega
      have HLEN := Box.mk hlen
      clear hv hlen
      obtain ⟨l, hl⟩ : ∃ l, twL k2 u k = l := ⟨_, rfl⟩
      rw [hl] at hO HL HLEN
      clear hl
      go_wp2_with (first
          | ((with_reducible show wpList _ _ _ (⟨some 28, Op.load 36 (.tmp 9), _, _, _, _⟩ :: _) _ _); refine wp_load_arr rfl (.tmp 9) rfl (g) (byt v) rfl (hA) ?_)
          | ((with_reducible show wpList _ _ _ (⟨some 29, Op.buildSlice 46 1 _, _, _, _, _⟩ :: _) _ _); refine wpList_one rfl (.tmp 28) rfl (byt v) rfl ?_)
          | ((with_reducible show wpList _ _ _ (⟨some 30, Op.call _, _, _, _, _⟩ :: _) _ _); refine wp_appB rfl (.tmp 27) (.tmp 29) rfl (wc.heap.size) _ (l) rfl (hO.alloc _) (some ⟨wr.heap.size, 0, none⟩) (1) (1) ([v]) rfl (blocks_one _ _ v rfl hvl) (by have := HLEN.out; omega) (by simp; omega) ?_; intro v2 w3 g1 g2 g3; have hA3 : Arr w3 g (byt v) := (hA.alloc _).grown g2 (fun h => by have := (hO.ge g h.symm).1; omega); have hB3 : Below w.heap.size w w3 := grown_below (hB.alloc hB.size _) g2 (by have := hB.size; simp; omega) (fun k hk => by have := (hO.ge k hk).1; omega); have hz3 : wc.heap.size ≤ w3.heap.size := (by have := g2.size; simp at this; omega); have hO3 := g1; clear g1 g2 g3 hA hB hO)
          | ((with_reducible show wpList _ _ _ (⟨some 31, Op.load 36 (.tmp 9), _, _, _, _⟩ :: _) _ _); refine wp_load_arr rfl (.tmp 9) rfl (g) (byt v) rfl (hA3) ?_))
      have hA4 := hA3
      refine (HD2.out _).mono ?_
      rintro e w4 ⟨rfl, hb4⟩
      have hA5 := hA4.below hb4 hA4.lt
      have hO5 := hO3.below hb4 (Nat.le_refl _)
      have hB5 := hB3.trans (hb4.mono hB3.size)
      have hz5 : wc.heap.size ≤ w4.heap.size := by have := hb4.size; omega
      have hO6 := hO5.setRow (g := g) (fun h => by have := (hO5.ge g h).1; omega) (bv (byt (dbl v)))
      have hA6 := hA5.setRow (h := byt (dbl v))
      have hB6 := below_setRow hB5 (show w.heap.size ≤ g by omega) (bv (byt (dbl v)))
      clear hO3 hA3 hA4 hB3 hO5 hB5
      go_wp2_with (first
          | ((with_reducible show wpList _ _ _ (⟨_, Op.store 36 (.tmp 9) (.tmp 32), _, _, _, _⟩ :: _) _ _); refine wp_store_arr rfl (.tmp 9) (.tmp 32) rfl (g) (byt v) (byt (dbl v)) rfl rfl (hA5) ?_))
      go_roundw
      case rel => exact ⟨k + 1, by go_num, by omega, by rw [HL.out]; exact hO6, by rw [HV.out]; exact hA6, hB6, by simp only [setRow_size]; exact hz5⟩
      case measure => simp [intOf]; omega
set_option maxRecDepth 100000 in
set_option maxHeartbeats 2000000 in
theorem rtw64 (X : Nat) (ad : Addr) (c : Nat) (l : List Nat) (u m : Nat) (w : World) (hl : Bytes w (some ad) 64 l) (hc : 64 ≤ c) (hu : u < 9223372036854775808) (hm : m ≤ 256) (hX : BoxM w X) :
    Calls Try.prog 75 #[.pointer (some ⟨X, 0, none⟩), .slice (some ad) 64 c, .int .i64 (u : Int), .int .i64 (m : Int)] w (TwQ (half2 l) u m w) := by
  have hk : MayK (half2 l).length := half2_may (by rw [hl.1]; decide)
  have HN2 : Box (∀ (w : World), Bytes w (some ad) 64 l → BoxM w X → Calls Try.prog 63 #[.pointer (some ⟨X, 0, none⟩), .slice (some ⟨ad.block, ad.off + 32, none⟩) 32 (c - 32)] w fun e w' => RnewQ (half2 l) X w e w') := ⟨fun w h hX => by
    have e1 : half2 l = l.drop 32 := by unfold half2; rw [hl.1]
    rw [e1]
    have h2 := h.drop (h := 32) (by decide)
    rw [add_lit _ _ (by decide)] at h2
    exact rnew_any X _ 32 (c - 32) (l.drop 32) _ h2 hX (by decide)⟩
  generalize half2 l = k2 at hk HN2 ⊢
  have HNU : Box (∀ w, Calls Try.prog 46 #[.int .i64 (u : Int)] w fun e w' => e = .returned (.agg (bv (byt u))) ∧ Below w.heap.size w w') := ⟨fun w => rnumber_nat u hu w⟩
  have HG : Box (∀ (C : Nat) (w : World), Rciph w C X (words k2) → Calls Try.prog 66 #[.pointer (some ⟨C, 0, none⟩), .agg (bv (byt u))] w fun e w' => e = .returned (.agg (bv (byt (encN k2 u)))) ∧ Below w.heap.size w w') := ⟨fun C w h => rencN C X k2 u hk w h⟩
  have HT0 : Box (encN k2 u = twN k2 u 0) := ⟨rfl⟩
  revert HG HT0
  generalize encN k2 u = t0
  intro HG HT0
  have hne : (c = 32) = False := by simp; omega
  clear hk hu
  go_enter Try.func75, Try.ntmps75
  go_wp2_with fail
  refine (HN2.out _ hl hX).mono ?_
  rintro e w1 ⟨C, rfl, hC, hb1, _⟩
  go_wp2_with fail
  refine (HNU.out _).mono ?_
  rintro e w2 ⟨rfl, hb2⟩
  have hC := hC.below hb2
  have hw2 := hb1.trans (hb2.mono hb1.size)
  go_wp2_with fail
  refine (HG.out C _ hC).mono ?_
  rintro e w3 ⟨rfl, hb3⟩
  have hw3 := hw2.trans (hb3.mono hw2.size)
  clear hb1 hb2 hw2 hb3 hC HN2 HNU HG hl hX
  go_wp2_with (first
      | ((with_reducible show wpList _ _ _ (⟨_, Op.store 36 (.tmp 9) (.tmp 21), _, _, _, _⟩ :: _) _ _); refine wp_store_arr rfl (.tmp 9) (.tmp 21) rfl (w3.heap.size) (fun _ => 0) (byt t0) rfl rfl (Arr.zero _ _ rfl) ?_))
  have hA : Arr ((w3.alloc (.cells #[.int .u8 0, .int .u8 0, .int .u8 0, .int .u8 0, .int .u8 0, .int .u8 0, .int .u8 0, .int .u8 0, .int .u8 0, .int .u8 0, .int .u8 0, .int .u8 0, .int .u8 0, .int .u8 0, .int .u8 0, .int .u8 0] 36)).setRow w3.heap.size (bv (byt t0))) w3.heap.size (byt t0) := (Arr.zero _ _ rfl).setRow
  have hbW : Below w3.heap.size w3 ((w3.alloc (.cells #[.int .u8 0, .int .u8 0, .int .u8 0, .int .u8 0, .int .u8 0, .int .u8 0, .int .u8 0, .int .u8 0, .int .u8 0, .int .u8 0, .int .u8 0, .int .u8 0, .int .u8 0, .int .u8 0, .int .u8 0, .int .u8 0] 36)).setRow w3.heap.size (bv (byt t0))) := below_setRow ((Below.refl _ _).alloc (Nat.le_refl _) _) (Nat.le_refl _) _
  revert hA hbW
  generalize ((w3.alloc (.cells #[.int .u8 0, .int .u8 0, .int .u8 0, .int .u8 0, .int .u8 0, .int .u8 0, .int .u8 0, .int .u8 0, .int .u8 0, .int .u8 0, .int .u8 0, .int .u8 0, .int .u8 0, .int .u8 0, .int .u8 0, .int .u8 0] 36)).setRow w3.heap.size (bv (byt t0))) = wc
  intro hA hbW
  obtain ⟨g, hg⟩ : ∃ g, g = w3.heap.size := ⟨_, rfl⟩
  rw [← hg] at hA ⊢
  have hgw : w.heap.size ≤ g := by have := hw3.size; omega
  have hw4 := hw3.trans (hbW.mono hw3.size)
  have hgl := hA.lt
  clear hbW hw3 hg
  rw [HT0.out] at hA
  clear HT0
  go_wp2_with fail
  go_loopw [10, 11] (fun o i wr => ∃ (k : Nat), i = .int .i64 (k : Int) ∧ k ≤ m ∧ OwnB wr wc.heap.size o (twL k2 u k) ∧ Arr wr g (byt (twN k2 u k)) ∧ Below w.heap.size w wr ∧ wc.heap.size ≤ wr.heap.size) (fun _ i _ => m - (intOf i).toNat)
  case atStart => exact ⟨0, rfl, by omega, ownB_nil _ _, hA, hw4, Nat.le_refl _⟩
  case round =>
    have hwc := hw4.size
    clear hA hw4
    obtain ⟨k, rfl, hk, hO, hA, hB, hz⟩ := hrel
    by_cases hkn : k = m
    · subst hkn
      go_wp2_with fail
      go_ret
      exact ⟨_, rfl, hO.le hwc, hB⟩
    · have hk2 : k < m := by omega
      clear hkn
      obtain ⟨v, hv⟩ : ∃ v, v = twN k2 u k := ⟨_, rfl⟩
      have hvl : v < 2 ^ 128 := by rw [hv]; exact twN_lt _ _ _
      have HV : Box (twN k2 u (k + 1) = dbl v) := ⟨by rw [hv]; rfl⟩
      have HL : Box (twL k2 u (k + 1) = twL k2 u k ++ [v]) := ⟨by rw [hv]; exact twL_succ _ _ _⟩
      have HD2 : Box (∀ w, Calls Try.prog 40 #[.agg (bv (byt v))] w fun e w' => e = .returned (.agg (bv (byt (dbl v)))) ∧ Below w.heap.size w w') := ⟨fun w => rdouble_any v hvl w⟩
      rw [← hv] at hA
      have hlen : (twL k2 u k).length ≤ 256 := by rw [twL_len]; omega
      have HLEN := Box.mk hlen
      clear hv hlen
      obtain ⟨l, hl⟩ : ∃ l, twL k2 u k = l := ⟨_, rfl⟩
      rw [hl] at hO HL HLEN
      clear hl
      go_wp2_with (first
          | ((with_reducible show wpList _ _ _ (⟨some 28, Op.load 36 (.tmp 9), _, _, _, _⟩ :: _) _ _); refine wp_load_arr rfl (.tmp 9) rfl (g) (byt v) rfl (hA) ?_)
          | ((with_reducible show wpList _ _ _ (⟨some 29, Op.buildSlice 46 1 _, _, _, _, _⟩ :: _) _ _); refine wpList_one rfl (.tmp 28) rfl (byt v) rfl ?_)
          | ((with_reducible show wpList _ _ _ (⟨some 30, Op.call _, _, _, _, _⟩ :: _) _ _); refine wp_appB rfl (.tmp 27) (.tmp 29) rfl (wc.heap.size) _ (l) rfl (hO.alloc _) (some ⟨wr.heap.size, 0, none⟩) (1) (1) ([v]) rfl (blocks_one _ _ v rfl hvl) (by have := HLEN.out; omega) (by simp; omega) ?_; intro v2 w3 g1 g2 g3; have hA3 : Arr w3 g (byt v) := (hA.alloc _).grown g2 (fun h => by have := (hO.ge g h.symm).1; omega); have hB3 : Below w.heap.size w w3 := grown_below (hB.alloc hB.size _) g2 (by have := hB.size; simp; omega) (fun k hk => by have := (hO.ge k hk).1; omega); have hz3 : wc.heap.size ≤ w3.heap.size := (by have := g2.size; simp at this; omega); have hO3 := g1; clear g1 g2 g3 hA hB hO)
          | ((with_reducible show wpList _ _ _ (⟨some 31, Op.load 36 (.tmp 9), _, _, _, _⟩ :: _) _ _); refine wp_load_arr rfl (.tmp 9) rfl (g) (byt v) rfl (hA3) ?_))
      have hA4 := hA3
      refine (HD2.out _).mono ?_
      rintro e w4 ⟨rfl, hb4⟩
      have hA5 := hA4.below hb4 hA4.lt
      have hO5 := hO3.below hb4 (Nat.le_refl _)
      have hB5 := hB3.trans (hb4.mono hB3.size)
      have hz5 : wc.heap.size ≤ w4.heap.size := by have := hb4.size; omega
      have hO6 := hO5.setRow (g := g) (fun h => by have := (hO5.ge g h).1; omega) (bv (byt (dbl v)))
      have hA6 := hA5.setRow (h := byt (dbl v))
      have hB6 := below_setRow hB5 (show w.heap.size ≤ g by omega) (bv (byt (dbl v)))
      clear hO3 hA3 hA4 hB3 hO5 hB5
      go_wp2_with (first
          | ((with_reducible show wpList _ _ _ (⟨_, Op.store 36 (.tmp 9) (.tmp 32), _, _, _, _⟩ :: _) _ _); refine wp_store_arr rfl (.tmp 9) (.tmp 32) rfl (g) (byt v) (byt (dbl v)) rfl rfl (hA5) ?_))
      go_roundw
      case rel => exact ⟨k + 1, by go_num, by omega, by rw [HL.out]; exact hO6, by rw [HV.out]; exact hA6, hB6, by simp only [setRow_size]; exact hz5⟩
      case measure => simp [intOf]; omega
theorem rtw_any (X : Nat) (A : Option Addr) (n c : Nat) (l : List Nat) (u m : Nat) (w : World) (hl : Bytes w A n l) (hc : n ≤ c) (h : MayX n (u : Int)) (hm : m ≤ 256) (hX : BoxM w X) :
    Calls Try.prog 75 #[.pointer (some ⟨X, 0, none⟩), .slice A n c, .int .i64 (u : Int), .int .i64 (m : Int)] w (TwQ (half2 l) u m w) := by
  obtain ⟨h1, h2, h3⟩ := h
  obtain ⟨ad, hA, _⟩ := hl.2.2.2 (by omega)
  subst hA
  rcases h1 with rfl | rfl
  · exact rtw32 X ad c l u m w hl hc (by omega) hm hX
  · exact rtw64 X ad c l u m w hl hc (by omega) hm hX
theorem exec_neB {o : Oper} {a : Act} (x y : Operand) (ho : o.op = .binOp .neq 36 x y 36) (f g : Nat → Nat) (hx : a.eval x = .agg (bv f)) (hy : a.eval y = .agg (bv g)) (w : World) :
    (execOp a.eval o).run Try.prog w = .ok (.value (.bool (!(eqB f g)))) w := by
  have hs := run_eqB f g w
  have hg := guard36
  unfold execOp
  simp only [ho, hx, hy]
  go_simp
theorem yields_neB {ops : Array Oper} {S : World → Prop} {op : Oper} {a : Act} (hw : Region.wanted op (yielded ops a.tmps) = true) (x y : Operand) (ho : op.op = .binOp .neq 36 x y 36)
    (f g : Nat → Nat) (b : Bool) (hb : eqB f g = !b) (hx : a.eval x = .agg (bv f)) (hy : a.eval y = .agg (bv g)) : YieldsIf Try.prog ops S op (.bool b) a :=
  .inl ⟨hw, fun w _ => by rw [exec_neB x y ho f g hx hy w, hb, Bool.not_not]⟩
theorem yields_arr_at' {ops : Array Oper} {S : World → Prop} {op : Oper} {a : Act} (hw : Region.wanted op (yielded ops a.tmps) = true) (x : Operand) (ho : op.op = .load 36 x)
    (p : Addr) (f : Nat → Nat) (hx : a.eval x = .pointer (some p)) (hS : ∀ w, S w → ∀ j, j < 16 → w.cell? (p.add j) = some (cellOf (f j))) : YieldsIf Try.prog ops S op (.agg (bv f)) a := yields_arr_at hw x ho p f hx hS
set_option maxRecDepth 100000 in
set_option maxHeartbeats 2000000 in
/-- two rows of blocks that are alike -/
theorem alikeB (A B : Option Addr) (n c c1 : Nat) (l : List Nat) (w : World) (h1 : Blocks w A n l) (h2 : Blocks w B n l) (hn : n ≤ 1000) :
    Calls Try.prog 74 #[.slice A n c, .slice B n c1] w fun e w' => e = .returned (.bool true) ∧ Below w.heap.size w w' := by
  go_enter Try.func74, Try.ntmps74
  go_wp2_with fail
  go_loopw [5] (fun i wr => ∃ (k : Nat), i = .int .i64 (k : Int) ∧ k ≤ n ∧ Below w.heap.size w wr) (fun i _ => n - (intOf i).toNat)
  case atStart => exact ⟨0, rfl, by omega, Below.refl _ _⟩
  case round =>
    obtain ⟨k, rfl, hk, hB⟩ := hrel
    by_cases hkn : k = n
    · subst hkn
      go_wp2_with fail
      go_ret
      exact ⟨rfl, hB⟩
    · have hk2 : k < n := by omega
      clear hkn
      obtain ⟨tb, ot, t, hAt, htd, htl, _, _⟩ := h1.at_ hk2
      subst hAt
      obtain ⟨tb1, ot1, t1, hAt, _, _, _, _⟩ := h2.at_ hk2
      subst hAt
      have HTD := Box.mk htd
      have hTb := h1.below hB
      have hTb1 := h2.below hB
      clear htd
      go_wp2_with fail
      refine wp_region_held_drew (S := fun w' => Below wr.heap.size wr w') (by kernel_rfl) (Below.refl _ _).drew (fun hS => ?_)
      refine wpAnyH_take (i := 0) (oi := ⟨some 17, _, _, _, _, _⟩) (v := .slice (some ⟨tb, ot, none⟩) n c) rfl (by kernel_rfl) (by kernel_rfl) (by kernel_rfl) (fun _ _ _ h => h) (Or.inl ⟨by kernel_rfl, fun w' hSw => ?_⟩) hS ?_
      · go_simp
      simp only [Act.put, List.setIfInBounds_toArray, List.set_cons_zero, List.set_cons_succ]
      refine wpAnyH_take (i := 1) (oi := ⟨some 18, _, _, _, _, _⟩) (v := .int .i64 (k : Int)) rfl (by kernel_rfl) (by kernel_rfl) (by kernel_rfl) (fun _ _ _ h => h) (Or.inl ⟨by kernel_rfl, fun w' hSw => ?_⟩) hS ?_
      · go_simp
      simp only [Act.put, List.setIfInBounds_toArray, List.set_cons_zero, List.set_cons_succ]
      refine wpAnyH_take (i := 2) (oi := ⟨some 19, _, _, _, _, _⟩) (v := .pointer (some ⟨tb, ot + k * 16, none⟩)) rfl (by kernel_rfl) (by kernel_rfl) (by kernel_rfl) (fun _ _ _ h => h) (Or.inl ⟨by kernel_rfl, fun w' hSw => ?_⟩) hS ?_
      · go_simp
      simp only [Act.put, List.setIfInBounds_toArray, List.set_cons_zero, List.set_cons_succ]
      refine wpAnyH_take (i := 3) (oi := ⟨some 20, _, _, _, _, _⟩) (v := .agg (bv (byt (t)))) rfl (by kernel_rfl) (by kernel_rfl) (by kernel_rfl) (fun _ _ _ h => h) (yields_arr_at (by kernel_rfl) (.tmp 19) rfl (⟨tb, ot + k * 16, none⟩) (byt (t)) rfl (fun w' h j hj => (hTb.below h).cellAt hk2 HTD.out hj)) hS ?_
      simp only [Act.put, List.setIfInBounds_toArray, List.set_cons_zero, List.set_cons_succ]
      refine wpAnyH_take (i := 4) (oi := ⟨some 21, _, _, _, _, _⟩) (v := .slice (some ⟨tb1, ot1, none⟩) n c1) rfl (by kernel_rfl) (by kernel_rfl) (by kernel_rfl) (fun _ _ _ h => h) (Or.inl ⟨by kernel_rfl, fun w' hSw => ?_⟩) hS ?_
      · go_simp
      simp only [Act.put, List.setIfInBounds_toArray, List.set_cons_zero, List.set_cons_succ]
      refine wpAnyH_take (i := 5) (oi := ⟨some 22, _, _, _, _, _⟩) (v := .int .i64 (k : Int)) rfl (by kernel_rfl) (by kernel_rfl) (by kernel_rfl) (fun _ _ _ h => h) (Or.inl ⟨by kernel_rfl, fun w' hSw => ?_⟩) hS ?_
      · go_simp
      simp only [Act.put, List.setIfInBounds_toArray, List.set_cons_zero, List.set_cons_succ]
      refine wpAnyH_take (i := 6) (oi := ⟨some 23, _, _, _, _, _⟩) (v := .pointer (some ⟨tb1, ot1 + k * 16, none⟩)) rfl (by kernel_rfl) (by kernel_rfl) (by kernel_rfl) (fun _ _ _ h => h) (Or.inl ⟨by kernel_rfl, fun w' hSw => ?_⟩) hS ?_
      · go_simp
      simp only [Act.put, List.setIfInBounds_toArray, List.set_cons_zero, List.set_cons_succ]
      refine wpAnyH_take (i := 7) (oi := ⟨some 24, _, _, _, _, _⟩) (v := .agg (bv (byt (t)))) rfl (by kernel_rfl) (by kernel_rfl) (by kernel_rfl) (fun _ _ _ h => h) (yields_arr_at (by kernel_rfl) (.tmp 23) rfl (⟨tb1, ot1 + k * 16, none⟩) (byt (t)) rfl (fun w' h j hj => (hTb1.below h).cellAt hk2 HTD.out hj)) hS ?_
      simp only [Act.put, List.setIfInBounds_toArray, List.set_cons_zero, List.set_cons_succ]
      refine wpAnyH_take (i := 8) (oi := ⟨some 25, _, _, _, _, _⟩) (v := .bool false) rfl (by kernel_rfl) (by kernel_rfl) (by kernel_rfl) (fun _ _ _ h => h) (yields_neB (by kernel_rfl) (.tmp 20) (.tmp 24) rfl (byt t) (byt t) _ (eqB_self _) rfl rfl) hS ?_
      simp only [Act.put, List.setIfInBounds_toArray, List.set_cons_zero, List.set_cons_succ]
      refine wpAnyH_done (by kernel_rfl) ?_ _
      go_wp2_with fail
      go_roundw
      case rel => exact ⟨k + 1, by go_num, by omega, hB.trans (hS.mono hB.size)⟩
      case measure => simp [intOf]; omega
end Go.Proofs.Ytibfihjcjohadaa
