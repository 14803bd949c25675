/-
  The walk of the law on what Keys tells: it returns true, whatever the input, and writes nothing that was there.
-/
import Derived.Test.YtibfihjcjohadaaMQ
import Derived.Test.YtibfihjcjohadaaML
import Derived.Test.YtibfihjcjohadaaRNewB
import Derived.Laws.OwnMore
namespace Go.Proofs.Ytibfihjcjohadaa
open Go.RowKit Go.Op
open Aes (words words_len words_head keyW)
theorem OwnW.stored {w : World} {base g n cap : Nat} {l : List Nat} (h : OwnW w base (.slice (some ⟨g, 0, none⟩) n cap) l) (j x : Nat) (hx : x < 4294967296) : OwnW (w.setCell ⟨g, j, none⟩ (.int .u32 (x : Int))) base (.slice (some ⟨g, 0, none⟩) n cap) (l.set j x) := by
  have e := h.len
  subst e
  obtain ⟨h1, h2, h3⟩ := h
  have h4 := (World.ownsRow.stored h1 j (.int .u32 (x : Int))).1
  refine ⟨?_, by rw [List.length_set]; exact h2, fun y hy => ?_⟩
  · rw [List.length_set]
    rw [List.map_set]
    exact h4
  · rcases List.mem_or_eq_of_mem_set hy with hy | rfl
    · exact h3 y hy
    · exact hx
theorem Own.stored {w : World} {base g n cap : Nat} {l : List Nat} (h : Own w base (.slice (some ⟨g, 0, none⟩) n cap) l) (j x : Nat) (hx : x < 256) : Own (w.setCell ⟨g, j, none⟩ (.int .u8 (x : Int))) base (.slice (some ⟨g, 0, none⟩) n cap) (l.set j x) := by
  have e := h.len
  subst e
  obtain ⟨h1, h2, h3⟩ := h
  have h4 := (World.ownsRow.stored h1 j (.int .u8 (x : Int))).1
  refine ⟨?_, by rw [List.length_set]; exact h2, fun y hy => ?_⟩
  · rw [List.length_set]
    rw [List.map_set]
    exact h4
  · rcases List.mem_or_eq_of_mem_set hy with hy | rfl
    · exact h3 y hy
    · exact hx
theorem Own.at0 {w : World} {base n c : Nat} {A : Option Addr} {l : List Nat} (h : Own w base (.slice A n c) l) (hn : 0 < n) : ∃ g, A = some ⟨g, 0, none⟩ ∧ base ≤ g ∧ g < w.heap.size := by
  rcases h.1.2 with ⟨e, e2⟩ | ⟨g, cap, cur, e, hb, _⟩
  · have := h.len; injection e with _ e; omega
  · injection e with e
    subst e
    exact ⟨g, rfl, hb, (h.ge g rfl).2⟩
theorem OwnW.at0 {w : World} {base n c : Nat} {A : Option Addr} {l : List Nat} (h : OwnW w base (.slice A n c) l) (hn : 0 < n) : ∃ g, A = some ⟨g, 0, none⟩ ∧ base ≤ g ∧ g < w.heap.size := by
  rcases h.1.2 with ⟨e, e2⟩ | ⟨g, cap, cur, e, hb, _⟩
  · have := h.len; injection e with _ e; omega
  · injection e with e
    subst e
    exact ⟨g, rfl, hb, (h.ge g rfl).2⟩
theorem Own.freeAt {w : World} {base g n c : Nat} {l : List Nat} (h : Own w base (.slice (some ⟨g, 0, none⟩) n c) l) (j : Nat) : w.frozen? ⟨g, j, none⟩ = false := by
  have e := h.len; subst e; exact World.ownsRow.frozenAt h.1 j
theorem OwnW.freeAt {w : World} {base g n c : Nat} {l : List Nat} (h : OwnW w base (.slice (some ⟨g, 0, none⟩) n c) l) (j : Nat) : w.frozen? ⟨g, j, none⟩ = false := by
  have e := h.len; subst e; exact World.ownsRow.frozenAt h.1 j
theorem Own.cellAt {w : World} {base g n c j : Nat} {l : List Nat} (h : Own w base (.slice (some ⟨g, 0, none⟩) n c) l) (hj : j < n) : w.cell? ⟨g, j, none⟩ = some (.int .u8 ((l.getD j 0 : Nat) : Int)) := by
  obtain ⟨ad, e, hc⟩ := h.rd.2.2.2 (by omega)
  injection e with e
  subst e
  have := hc j hj
  rwa [add_zero_off] at this
theorem OwnW.cellAt {w : World} {base g n c j : Nat} {l : List Nat} (h : OwnW w base (.slice (some ⟨g, 0, none⟩) n c) l) (hj : j < n) : w.cell? ⟨g, j, none⟩ = some (.int .u32 ((l.getD j 0 : Nat) : Int)) := by
  have := words_cell h.rd hj
  rwa [add_zero_off] at this
theorem own_made (w : World) (base : Nat) (hb : base ≤ w.heap.size) : Own (w.alloc (.cells #[] 5)) base (.slice (some ⟨w.heap.size, 0, none⟩) 0 0) [] :=
  ⟨World.ownsRow_made w #[] 0 hb (by unfold maxLen; omega) (by simp), by simp, by simp⟩
set_option maxRecDepth 100000 in
set_option maxHeartbeats 1000000 in
theorem keys6_outN (A : Option Addr) (n c : Nat) (B : Option Addr) (n1 c1 : Nat) (w : World) (ap : ((n : Int) != 16) = true) (aq : ((n : Int) != 32) = true) :
    Calls Try.prog 22 #[.slice A n c, .slice B n1 c1] w fun e w' => e = .returned (.bool true) ∧ Below w.heap.size w w' := by
  go_enter Try.func22, Try.ntmps22
  go_wp2_with fail
  refine (awake6 _).mono ?_
  rintro e w' ⟨rfl, hbel⟩
  go_wp2_with fail
  go_ret
  exact ⟨rfl, hbel⟩
set_option maxRecDepth 100000 in
set_option maxHeartbeats 1000000 in
theorem keys6_out16 (A : Option Addr) (n c : Nat) (B : Option Addr) (n1 c1 : Nat) (w : World) (ap : ((n : Int) != 16) = false) (h1 : 100 < n1) :
    Calls Try.prog 22 #[.slice A n c, .slice B n1 c1] w fun e w' => e = .returned (.bool true) ∧ Below w.heap.size w w' := by
  go_enter Try.func22, Try.ntmps22
  go_wp2_with fail
  refine (awake6 _).mono ?_
  rintro e w' ⟨rfl, hbel⟩
  go_wp2_with fail
  go_ret
  exact ⟨rfl, hbel⟩
set_option maxRecDepth 100000 in
set_option maxHeartbeats 1000000 in
theorem keys6_out32 (A : Option Addr) (n c : Nat) (B : Option Addr) (n1 c1 : Nat) (w : World) (ap : ((n : Int) != 16) = true) (aq : ((n : Int) != 32) = false) (h1 : 100 < n1) :
    Calls Try.prog 22 #[.slice A n c, .slice B n1 c1] w fun e w' => e = .returned (.bool true) ∧ Below w.heap.size w w' := by
  go_enter Try.func22, Try.ntmps22
  go_wp2_with fail
  refine (awake6 _).mono ?_
  rintro e w' ⟨rfl, hbel⟩
  go_wp2_with fail
  go_ret
  exact ⟨rfl, hbel⟩
set_option maxRecDepth 100000 in
set_option maxHeartbeats 8000000 in
theorem keys6_in16 (A : Option Addr) (c : Nat) (l : List Nat) (B : Option Addr) (n1 c1 : Nat) (l1 : List Nat) (w : World) (hl : Bytes w A 16 l) (hl1 : Bytes w B n1 l1) (h1 : n1 ≤ 100) :
    Calls Try.prog 22 #[.slice A 16 c, .slice B n1 c1] w fun e w' => e = .returned (.bool true) ∧ Below w.heap.size w w' := by
  obtain ⟨ad, hA, _⟩ := hl.2.2.2 (by omega)
  subst hA
  have hk : MayK l.length := by rw [hl.1]; exact .inl rfl
  have hwl : (words l).length = 44 := by rw [words_len, hl.1]
  have HC := Box.mk (fun w hl => block_walk B n1 c1 l1 w hl)
  have Hf : Box (∀ i, ofL l1 i < 256) := ⟨ofL_lt hl1.2.2.1⟩
  revert HC Hf
  generalize ofL l1 = f
  intro HC Hf
  have HE : Box (∀ (w : World) (C : Nat), Ciph w C (words l) → Calls Try.prog 61 #[.pointer (some ⟨C, 0, none⟩), .agg (bv f)] w fun e w' => e = .returned (.agg (bv (encK l f))) ∧ Below w.heap.size w w') := ⟨fun w C h => encrypt_key C l f hk Hf.out w h⟩
  have HR : Box (∀ (w : World) (C : Nat), Ciph w C (words l) → Calls Try.prog 65 #[.pointer (some ⟨C, 0, none⟩)] w fun e w' => e = .returned (.int .i64 10) ∧ w = w') := ⟨fun w C h => by have h := rounds_key C l hk w h; rwa [hl.1] at h⟩
  have HKY : Box (∀ (w : World) (C : Nat), Ciph w C (words l) → Calls Try.prog 64 #[.pointer (some ⟨C, 0, none⟩)] w (OwnWQ (words l) w)) := ⟨fun w C h => keys_any C (words l) w h (by omega) (by omega)⟩
  have HH : Box (∀ i, i < 4 → (words l).getD i 0 = keyW l i) := ⟨fun i hi => words_head (by rw [hl.1]; exact hi)⟩
  have HNW : Box (∀ (w : World) (A : Option Addr) (c : Nat), Bytes w A 16 l → 16 ≤ c → Calls Try.prog 59 #[.slice A 16 c] w fun e w' => NewQ l w e w') := ⟨fun w A c h hc => new_any A 16 c l w h hc (.inl rfl)⟩
  clear hk Hf
  revert HE
  generalize encK l f = y
  intro HE
  have hO0 : Own (w.alloc (.cells #[] 5)) w.heap.size (.slice (some ⟨w.heap.size, 0, none⟩) 0 0) [] := own_made w _ (Nat.le_refl _)
  have hl0 : Bytes (w.alloc (.cells #[] 5)) (some ad) 16 l := hl.alloc _
  go_enter Try.func22, Try.ntmps22
  go_wp2_with ((with_reducible show wpList _ _ _ (⟨some 30, _, _, _, _, _⟩ :: _) _ _); refine wp_appA rfl (.tmp 28) (.tmp 29) rfl w.heap.size (.slice (some ⟨w.heap.size, 0, none⟩) 0 0) [] rfl hO0 (some ad) 16 c l rfl hl0 (by simp) (by simp) ?_)
  intro vk w1 hK hgk _
  have hb1 : Below w.heap.size w w1 := grown_below ((Below.refl _ _).alloc (Nat.le_refl _) _) hgk (by simp) (fun k hk => by have hk : some w.heap.size = some k := hk; injection hk with hk; omega)
  clear hO0 hl0 hgk
  obtain ⟨Ak, ck, hvk⟩ := hK.form
  subst hvk
  rw [hl.1] at hK
  obtain ⟨gk, hAk, hgk0, hgk1⟩ := hK.at0 (by omega)
  subst hAk
  have hck : 16 ≤ ck := by
    rcases hK.1.2 with ⟨e, _⟩ | ⟨g, cap, cur, e, _, _, h, _⟩
    · cases e
    · injection e with _ _ e; rw [hl.1] at h; omega
  rw [hl.1]
  go_wp2_with fail
  refine (HNW.out _ _ ck hK.rd hck).mono ?_
  rintro e w2 ⟨C, rfl, hC, hb2, hCF⟩
  have hK2 := hK.below hb2 (Nat.le_refl _)
  have hz2 := hb2.size
  have hb2 := hb1.trans (hb2.mono hb1.size)
  clear hK hC HNW hck
  go_wp2_with fail
  refine (HKY.out _ C hCF.ciph).mono ?_
  rintro e w3 ⟨v8, rfl, h8, hb3⟩
  obtain ⟨A8, c8, hv8⟩ := h8.form
  subst hv8
  rw [hwl] at h8
  obtain ⟨g8, hA8, hg80, hg81⟩ := h8.at0 (by omega)
  subst hA8
  rw [hwl]
  clear HKY
  go_wp2_with fail
  refine (HR.out _ C (hCF.below hb3).ciph).mono ?_
  rintro e w' ⟨rfl, rfl⟩
  go_wp2_with fail
  go_loopw [9] (fun i wr => ∃ (k : Nat), i = .int .i64 (k : Int) ∧ k ≤ 4 ∧ Below w3.heap.size w3 wr) (fun i _ => 4 - (intOf i).toNat)
  case atStart => exact ⟨0, rfl, by omega, Below.refl _ _⟩
  case round =>
    obtain ⟨k, rfl, hk, hB⟩ := hrel
    by_cases hkN : k = 4
    · subst hkN
      have h8 := h8.below hB (Nat.le_refl _)
      have hz3 := hb3.size
      have hz4 := hB.size
      have hb4 := hb3.trans (hB.mono hb3.size)
      clear hB hb3
      go_wp2_with fail
      refine (HC.out _ (hl1.below (hb2.trans (hb4.mono hb2.size)))).mono ?_
      rintro e w5 ⟨rfl, hb5⟩
      have h8 := h8.below hb5 (Nat.le_refl _)
      have hz5 := hb5.size
      have hb5 := hb4.trans (hb5.mono hb4.size)
      clear hb4
      go_wp2_with (first
          | ((with_reducible show wpList _ _ _ (⟨_, Op.store 36 (.tmp 10) (.tmp 97), _, _, _, _⟩ :: _) _ _); refine wp_store_arr rfl (.tmp 10) (.tmp 97) rfl (w5.heap.size) (fun _ => 0) (f) rfl rfl (Arr.zero _ _ rfl) ?_)
          | ((with_reducible show wpList _ _ _ (⟨some 99, Op.load 36 (.tmp 10), _, _, _, _⟩ :: _) _ _); refine wp_load_arr rfl (.tmp 10) rfl (w5.heap.size) (f) rfl ((Arr.zero _ _ rfl).setRow) ?_))
      have hF : Arr ((w5.alloc (.cells #[.int .u8 0, .int .u8 0, .int .u8 0, .int .u8 0, .int .u8 0, .int .u8 0, .int .u8 0, .int .u8 0, .int .u8 0, .int .u8 0, .int .u8 0, .int .u8 0, .int .u8 0, .int .u8 0, .int .u8 0, .int .u8 0] 36)).setRow w5.heap.size (bv f)) w5.heap.size f := (Arr.zero _ _ rfl).setRow
      have hbW : Below w5.heap.size w5 ((w5.alloc (.cells #[.int .u8 0, .int .u8 0, .int .u8 0, .int .u8 0, .int .u8 0, .int .u8 0, .int .u8 0, .int .u8 0, .int .u8 0, .int .u8 0, .int .u8 0, .int .u8 0, .int .u8 0, .int .u8 0, .int .u8 0, .int .u8 0] 36)).setRow w5.heap.size (bv f)) := below_setRow ((Below.refl _ _).alloc (Nat.le_refl _) _) (Nat.le_refl _) _
      revert hF hbW
      generalize ((w5.alloc (.cells #[.int .u8 0, .int .u8 0, .int .u8 0, .int .u8 0, .int .u8 0, .int .u8 0, .int .u8 0, .int .u8 0, .int .u8 0, .int .u8 0, .int .u8 0, .int .u8 0, .int .u8 0, .int .u8 0, .int .u8 0, .int .u8 0] 36)).setRow w5.heap.size (bv f)) = w6
      intro hF hbW
      have h8 := h8.below hbW (Nat.le_refl _)
      have hz6 := hbW.size
      have hb6 := hb5.trans (hbW.mono hb5.size)
      clear hbW hb5
      refine (HE.out _ C (hCF.below hb6).ciph).mono ?_
      rintro e w7 ⟨rfl, hb7⟩
      have h8 := h8.below hb7 (Nat.le_refl _)
      have hF := hF.below hb7 hF.lt
      have hz7 := hb7.size
      have hb7 := hb6.trans (hb7.mono hb6.size)
      clear hb6
      go_wp2_with (first
          | ((with_reducible show wpList _ _ _ (⟨_, Op.store 36 (.tmp 11) (.tmp 100), _, _, _, _⟩ :: _) _ _); refine wp_store_arr rfl (.tmp 11) (.tmp 100) rfl (w7.heap.size) (fun _ => 0) (y) rfl rfl (Arr.zero _ _ rfl) ?_))
      have hY : Arr ((w7.alloc (.cells #[.int .u8 0, .int .u8 0, .int .u8 0, .int .u8 0, .int .u8 0, .int .u8 0, .int .u8 0, .int .u8 0, .int .u8 0, .int .u8 0, .int .u8 0, .int .u8 0, .int .u8 0, .int .u8 0, .int .u8 0, .int .u8 0] 36)).setRow w7.heap.size (bv y)) w7.heap.size y := (Arr.zero _ _ rfl).setRow
      have hF : Arr ((w7.alloc (.cells #[.int .u8 0, .int .u8 0, .int .u8 0, .int .u8 0, .int .u8 0, .int .u8 0, .int .u8 0, .int .u8 0, .int .u8 0, .int .u8 0, .int .u8 0, .int .u8 0, .int .u8 0, .int .u8 0, .int .u8 0, .int .u8 0] 36)).setRow w7.heap.size (bv y)) w5.heap.size f := (hF.alloc _).setRow_far (by have := hF.lt; omega)
      have hbW : Below w7.heap.size w7 ((w7.alloc (.cells #[.int .u8 0, .int .u8 0, .int .u8 0, .int .u8 0, .int .u8 0, .int .u8 0, .int .u8 0, .int .u8 0, .int .u8 0, .int .u8 0, .int .u8 0, .int .u8 0, .int .u8 0, .int .u8 0, .int .u8 0, .int .u8 0] 36)).setRow w7.heap.size (bv y)) := below_setRow ((Below.refl _ _).alloc (Nat.le_refl _) _) (Nat.le_refl _) _
      revert hF hY hbW
      generalize ((w7.alloc (.cells #[.int .u8 0, .int .u8 0, .int .u8 0, .int .u8 0, .int .u8 0, .int .u8 0, .int .u8 0, .int .u8 0, .int .u8 0, .int .u8 0, .int .u8 0, .int .u8 0, .int .u8 0, .int .u8 0, .int .u8 0, .int .u8 0] 36)).setRow w7.heap.size (bv y)) = w8
      intro hY hF hbW
      have h8 := h8.below hbW (Nat.le_refl _)
      have hb8 := hb7.trans (hbW.mono hb7.size)
      clear hbW hb7
      obtain ⟨g10, hg10⟩ : ∃ g, g = w5.heap.size := ⟨_, rfl⟩
      obtain ⟨g11, hg11⟩ : ∃ g, g = w7.heap.size := ⟨_, rfl⟩
      rw [← hg10] at hF ⊢
      rw [← hg11] at hY ⊢
      have n1 : g10 ≠ g8 := by omega
      have n2 : g11 ≠ g8 := by omega
      have n3 : g10 ≠ gk := by omega
      have n4 : g11 ≠ gk := by omega
      clear hg10 hg11 hz3 hz4 hz5 hz6 hz7 hg81
      go_loopw [12] (fun i wr => ∃ (j : Nat) (l' : List Nat), i = .int .i64 (j : Int) ∧ j ≤ 44 ∧ OwnW wr w2.heap.size (.slice (some ⟨g8, 0, none⟩) 44 c8) l' ∧ Arr wr g10 f ∧ Arr wr g11 y ∧ Below w2.heap.size w2 wr) (fun i _ => 44 - (intOf i).toNat)
      case atStart => exact ⟨0, _, rfl, by omega, h8, hF, hY, hb8⟩
      case round =>
        clear h8 hF hY hb8 w8
        obtain ⟨j, l', rfl, hj, h8, hF, hY, hB⟩ := hrel
        by_cases hjL : j = 44
        · subst hjL
          have hK := hK2.below hB (Nat.le_refl _)
          have hCr := hCF.below hB
          have hbr := hb2.trans (hB.mono hb2.size)
          clear hB h8
          go_wp2_with fail
          go_loopw [13] (fun i wr => ∃ (j : Nat) (l' : List Nat), i = .int .i64 (j : Int) ∧ j ≤ 16 ∧ Own wr w.heap.size (.slice (some ⟨gk, 0, none⟩) 16 ck) l' ∧ CiphF wr w1.heap.size C (words l) ∧ Arr wr g10 f ∧ Arr wr g11 y ∧ Below w.heap.size w wr) (fun i _ => 16 - (intOf i).toNat)
          case atStart => exact ⟨0, _, rfl, by omega, hK, hCr, hF, hY, hbr⟩
          case round =>
            clear hK hCr hF hY hbr
            obtain ⟨j, l2, rfl, hj, hK, hCr, hF, hY, hbr⟩ := hrel
            by_cases hjn : j = 16
            · subst hjn
              have hC := hCr.ciph
              clear hK hCr
              go_wp2_with fail
              refine wp_region_held_drew (S := fun w' => Below wr.heap.size wr w') (by kernel_rfl) (Below.refl _ _).drew (fun hS => ?_)
              refine wpAnyH_take (i := 0) (oi := ⟨some 119, _, _, _, _, _⟩) (v := .pointer (some ⟨C, 0, none⟩)) rfl (by kernel_rfl) (by kernel_rfl) (by kernel_rfl) (fun _ _ _ h => h) (Or.inl ⟨by kernel_rfl, fun w' hSw => ?_⟩) hS ?_
              · go_simp
              simp only [Act.put, List.setIfInBounds_toArray, List.set_cons_zero, List.set_cons_succ]
              refine wpAnyH_take (i := 1) (oi := ⟨some 120, _, _, _, _, _⟩) (v := .agg (bv (f))) rfl (by kernel_rfl) (by kernel_rfl) (by kernel_rfl) (fun _ _ _ h => h) (yields_arr (by kernel_rfl) (.tmp 10) rfl (g10) (f) rfl fun w' h => hF.below h hF.lt) hS ?_
              simp only [Act.put, List.setIfInBounds_toArray, List.set_cons_zero, List.set_cons_succ]
              refine wpAnyH_take (i := 3) (oi := ⟨some 122, _, _, _, _, _⟩) (v := .agg (bv (y))) rfl (by kernel_rfl) (by kernel_rfl) (by kernel_rfl) (fun _ _ _ h => h) (yields_arr (by kernel_rfl) (.tmp 11) rfl (g11) (y) rfl fun w' h => hY.below h hY.lt) hS ?_
              simp only [Act.put, List.setIfInBounds_toArray, List.set_cons_zero, List.set_cons_succ]
              refine wpAnyH_ready (rs := [2]) (by kernel_rfl) (by simp) ?_
              refine (AllReadyH.cons (o := ⟨some 121, _, _, _, _, _⟩) rfl (fun K hK => ?_) AllReadyH.nil)
              rw [if_pos (by kernel_rfl)]
              go_simp
              refine (HE.out _ C (hC.below hS)).mono ?_
              rintro e v1 ⟨rfl, hq1⟩
              have hqz1 := hq1.size
              refine hK.out _ _ (hS.trans (hq1.mono (by first | exact hS.size | (have := hS.size; simp at this ⊢; omega)))) (fun hS => ?_)
              clear hK K
              refine wpAnyH_take (i := 4) (oi := ⟨some 123, _, _, _, _, _⟩) (v := .bool true) rfl (by kernel_rfl) (by kernel_rfl) (by kernel_rfl) (fun _ _ _ h => h) (yields_same (by kernel_rfl) (.tmp 121) (.tmp 122) rfl (y) rfl rfl) hS ?_
              simp only [Act.put, List.setIfInBounds_toArray, List.set_cons_zero, List.set_cons_succ]
              refine wpAnyH_take (i := 5) (oi := ⟨some 124, _, _, _, _, _⟩) (v := .bool true) rfl (by kernel_rfl) (by kernel_rfl) (by kernel_rfl) (fun _ _ _ h => h) (Or.inl ⟨by kernel_rfl, fun w' hSw => ?_⟩) hS ?_
              · go_simp
              simp only [Act.put, List.setIfInBounds_toArray, List.set_cons_zero, List.set_cons_succ]
              refine wpAnyH_ready (rs := [6]) (by kernel_rfl) (by simp) ?_
              refine (AllReadyH.cons (o := ⟨some 125, _, _, _, _, _⟩) rfl (fun K hK => ?_) AllReadyH.nil)
              rw [if_pos (by kernel_rfl)]
              go_simp
              refine (awake6 _).mono ?_
              rintro e v2 ⟨rfl, hq2⟩
              have hqz2 := hq2.size
              refine hK.out _ _ (hS.trans (hq2.mono (by first | exact hS.size | (have := hS.size; simp at this ⊢; omega)))) (fun hS => ?_)
              clear hK K
              refine wpAnyH_take (i := 7) (oi := ⟨some 126, _, _, _, _, _⟩) (v := .bool true) rfl (by kernel_rfl) (by kernel_rfl) (by kernel_rfl) (fun _ _ _ h => h) (Or.inl ⟨by kernel_rfl, fun w' hSw => ?_⟩) hS ?_
              · go_simp
              simp only [Act.put, List.setIfInBounds_toArray, List.set_cons_zero, List.set_cons_succ]
              refine wpAnyH_take (i := 8) (oi := ⟨some 4, _, _, _, _, _⟩) (v := .bool true) rfl (by kernel_rfl) (by kernel_rfl) (by kernel_rfl) (fun _ _ _ h => h) (Or.inl ⟨by kernel_rfl, fun w' hSw => ?_⟩) hS ?_
              · go_simp
              simp only [Act.put, List.setIfInBounds_toArray, List.set_cons_zero, List.set_cons_succ]
              refine wpAnyH_done (by kernel_rfl) ?_ _
              go_wp2_with fail
              go_ret
              exact ⟨rfl, hbr.trans (hS.mono hbr.size)⟩
            · have hj2 : j < 16 := by omega
              clear hjn
              have hc := hK.cellAt hj2
              have hfz := hK.freeAt j
              have q0 : (0 : Int) ≤ (j : Int) := by omega
              have q1 : (j : Int) < 16 := by omega
              have hst := hK.stored j 0 (by decide)
              have hCs := hCr.setCell ⟨gk, j, none⟩ (.int .u8 0) hgk1
              have hFs := hF.far (p := ⟨gk, j, none⟩) n3 (.int .u8 0)
              have hYs := hY.far (p := ⟨gk, j, none⟩) n4 (.int .u8 0)
              have hbs := hbr.setCell (p := ⟨gk, j, none⟩) hgk0 (.int .u8 0)
              clear hK hCr hF hY hbr
              go_wp2_with fail
              go_roundw
              case rel => exact ⟨j + 1, _, by go_num, by omega, hst, hCs, hFs, hYs, hbs⟩
              case measure => simp [intOf]; omega
        · have hj2 : j < 44 := by omega
          clear hjL
          have hc := h8.cellAt hj2
          have hfz := h8.freeAt j
          have q0 : (0 : Int) ≤ (j : Int) := by omega
          have q1 : (j : Int) < 44 := by omega
          have hst := h8.stored j 0 (by decide)
          have hFs := hF.far (p := ⟨g8, j, none⟩) n1 (.int .u32 0)
          have hYs := hY.far (p := ⟨g8, j, none⟩) n2 (.int .u32 0)
          have hbs := hB.setCell (p := ⟨g8, j, none⟩) hg80 (.int .u32 0)
          clear h8 hF hY hB
          go_wp2_with fail
          go_roundw
          case rel => exact ⟨j + 1, _, by go_num, by omega, hst, hFs, hYs, hbs⟩
          case measure => simp [intOf]; omega
    · have hk2 : k < 4 := by omega
      clear hkN
      have hlr := hl.below (hb2.trans ((hb3.trans (hB.mono hb3.size)).mono hb2.size))
      obtain ⟨b0, b1, b2, b3, x, t0, t1, t2, t3, hx, hkw, o1, o2, o3, hc0, hc1, hc2, hc3⟩ := key_word' hlr (show 4 * k + 4 ≤ 16 by omega)
      have hklt := hlr.blk
      have hc8 := (h8.below hB (Nat.le_refl _)).cellAt (show k < 44 by omega)
      rw [HH.out k hk2, ← hkw] at hc8
      have h8lt : g8 < wr.heap.size := by have := hB.size; omega
      obtain ⟨q, hq⟩ : ∃ q, q = 4 * k := ⟨_, rfl⟩
      obtain ⟨q1, hq1⟩ : ∃ q1, q1 = 4 * k + 1 := ⟨_, rfl⟩
      obtain ⟨q2, hq2⟩ : ∃ q2, q2 = 4 * k + 2 := ⟨_, rfl⟩
      obtain ⟨q3, hq3⟩ : ∃ q3, q3 = 4 * k + 3 := ⟨_, rfl⟩
      rw [← hq] at hc0
      rw [← hq1] at hc1
      rw [← hq2] at hc2
      rw [← hq3] at hc3
      have HQ : Box (q = 4 * k) := ⟨hq⟩
      have HQ1 : Box (q1 = q + 1) := ⟨by omega⟩
      have HQ2 : Box (q2 = q + 2) := ⟨by omega⟩
      have HQ3 : Box (q3 = q + 3) := ⟨by omega⟩
      have a0 : (0 : Int) ≤ (q : Int) := by omega
      have a1 : (0 : Int) ≤ (q1 : Int) := by omega
      have a2 : (0 : Int) ≤ (q2 : Int) := by omega
      have a3 : (0 : Int) ≤ (q3 : Int) := by omega
      have z0 : (q : Int) < 16 := by omega
      have z1 : (q1 : Int) < 16 := by omega
      have z2 : (q2 : Int) < 16 := by omega
      have z3 : (q3 : Int) < 16 := by omega
      have kk0 : (0 : Int) ≤ (k : Int) := by omega
      have kk1 : (k : Int) < 44 := by omega
      clear hq hq1 hq2 hq3 hkw hlr
      have v0 := u32_nat b0 (by omega)
      have v1 := u32_nat b1 (by omega)
      have v2 := u32_nat b2 (by omega)
      have v3 := u32_nat b3 (by omega)
      have u0 : IntKind.u32.wrap ((b0 : Int) * 16777216) = (b0 : Int) * 16777216 := by have := u32_nat (b0 * 16777216) (by omega); rw [Int.natCast_mul] at this; exact this
      have u1 : IntKind.u32.wrap ((b1 : Int) * 65536) = (b1 : Int) * 65536 := by have := u32_nat (b1 * 65536) (by omega); rw [Int.natCast_mul] at this; exact this
      have u2 : IntKind.u32.wrap ((b2 : Int) * 256) = (b2 : Int) * 256 := by have := u32_nat (b2 * 256) (by omega); rw [Int.natCast_mul] at this; exact this
      go_wp2_with fail
      refine wp_region_held_drew (S := fun w' => Below wr.heap.size wr w') (by kernel_rfl) (Below.refl _ _).drew (fun hS => ?_)
      refine wpAnyH_take (i := 0) (oi := ⟨some 58, _, _, _, _, _⟩) (v := .slice (some ⟨g8, 0, none⟩) 44 c8) rfl (by kernel_rfl) (by kernel_rfl) (by kernel_rfl) (fun _ _ _ h => h) (Or.inl ⟨by kernel_rfl, fun w' hSw => ?_⟩) hS ?_
      · go_simp
      simp only [Act.put, List.setIfInBounds_toArray, List.set_cons_zero, List.set_cons_succ]
      refine wpAnyH_take (i := 1) (oi := ⟨some 59, _, _, _, _, _⟩) (v := .int .i64 (k : Int)) rfl (by kernel_rfl) (by kernel_rfl) (by kernel_rfl) (fun _ _ _ h => h) (Or.inl ⟨by kernel_rfl, fun w' hSw => ?_⟩) hS ?_
      · go_simp
      simp only [Act.put, List.setIfInBounds_toArray, List.set_cons_zero, List.set_cons_succ]
      refine wpAnyH_take (i := 2) (oi := ⟨some 60, _, _, _, _, _⟩) (v := .pointer (some ⟨g8, k, none⟩)) rfl (by kernel_rfl) (by kernel_rfl) (by kernel_rfl) (fun _ _ _ h => h) (Or.inl ⟨by kernel_rfl, fun w' hSw => ?_⟩) hS ?_
      · go_simp
      simp only [Act.put, List.setIfInBounds_toArray, List.set_cons_zero, List.set_cons_succ]
      refine wpAnyH_take (i := 3) (oi := ⟨some 61, _, _, _, _, _⟩) (v := .int .u32 (x : Int)) rfl (by kernel_rfl) (by kernel_rfl) (by kernel_rfl) (fun _ _ _ h => h) (Or.inl ⟨by kernel_rfl, fun w' hSw => ?_⟩) hS ?_
      · (have c := (hSw.cell (p := ⟨g8, k, none⟩) h8lt).trans hc8; go_simp)
      simp only [Act.put, List.setIfInBounds_toArray, List.set_cons_zero, List.set_cons_succ]
      refine wpAnyH_take (i := 4) (oi := ⟨some 62, _, _, _, _, _⟩) (v := .slice (some ad) 16 c) rfl (by kernel_rfl) (by kernel_rfl) (by kernel_rfl) (fun _ _ _ h => h) (Or.inl ⟨by kernel_rfl, fun w' hSw => ?_⟩) hS ?_
      · go_simp
      simp only [Act.put, List.setIfInBounds_toArray, List.set_cons_zero, List.set_cons_succ]
      refine wpAnyH_take (i := 5) (oi := ⟨some 63, _, _, _, _, _⟩) (v := .int .i64 (k : Int)) rfl (by kernel_rfl) (by kernel_rfl) (by kernel_rfl) (fun _ _ _ h => h) (Or.inl ⟨by kernel_rfl, fun w' hSw => ?_⟩) hS ?_
      · go_simp
      simp only [Act.put, List.setIfInBounds_toArray, List.set_cons_zero, List.set_cons_succ]
      refine wpAnyH_take (i := 6) (oi := ⟨some 64, _, _, _, _, _⟩) (v := .int .i64 (q : Int)) rfl (by kernel_rfl) (by kernel_rfl) (by kernel_rfl) (fun _ _ _ h => h) (Or.inl ⟨by kernel_rfl, fun w' hSw => ?_⟩) hS ?_
      · (go_simp; rw [show 4 * (k : Int) = (q : Int) by have := HQ.out; omega]; exact IntWalk.i64_in _ (by omega))
      simp only [Act.put, List.setIfInBounds_toArray, List.set_cons_zero, List.set_cons_succ]
      refine wpAnyH_take (i := 7) (oi := ⟨some 65, _, _, _, _, _⟩) (v := .pointer (some (ad.add q))) rfl (by kernel_rfl) (by kernel_rfl) (by kernel_rfl) (fun _ _ _ h => h) (Or.inl ⟨by kernel_rfl, fun w' hSw => ?_⟩) hS ?_
      · go_simp
      simp only [Act.put, List.setIfInBounds_toArray, List.set_cons_zero, List.set_cons_succ]
      refine wpAnyH_take (i := 8) (oi := ⟨some 66, _, _, _, _, _⟩) (v := .int .u8 (b0 : Int)) rfl (by kernel_rfl) (by kernel_rfl) (by kernel_rfl) (fun _ _ _ h => h) (Or.inl ⟨by kernel_rfl, fun w' hSw => ?_⟩) hS ?_
      · (have c := (hSw.cell (p := ad.add q) (by rw [block_of_add]; exact hklt)).trans hc0; go_simp)
      simp only [Act.put, List.setIfInBounds_toArray, List.set_cons_zero, List.set_cons_succ]
      refine wpAnyH_take (i := 9) (oi := ⟨some 67, _, _, _, _, _⟩) (v := .int .u32 (b0 : Int)) rfl (by kernel_rfl) (by kernel_rfl) (by kernel_rfl) (fun _ _ _ h => h) (Or.inl ⟨by kernel_rfl, fun w' hSw => ?_⟩) hS ?_
      · go_simp
      simp only [Act.put, List.setIfInBounds_toArray, List.set_cons_zero, List.set_cons_succ]
      refine wpAnyH_take (i := 10) (oi := ⟨some 68, _, _, _, _, _⟩) (v := .int .u32 ((b0 : Int) * 16777216)) rfl (by kernel_rfl) (by kernel_rfl) (by kernel_rfl) (fun _ _ _ h => h) (Or.inl ⟨by kernel_rfl, fun w' hSw => ?_⟩) hS ?_
      · go_simp
      simp only [Act.put, List.setIfInBounds_toArray, List.set_cons_zero, List.set_cons_succ]
      refine wpAnyH_take (i := 11) (oi := ⟨some 69, _, _, _, _, _⟩) (v := .slice (some ad) 16 c) rfl (by kernel_rfl) (by kernel_rfl) (by kernel_rfl) (fun _ _ _ h => h) (Or.inl ⟨by kernel_rfl, fun w' hSw => ?_⟩) hS ?_
      · go_simp
      simp only [Act.put, List.setIfInBounds_toArray, List.set_cons_zero, List.set_cons_succ]
      refine wpAnyH_take (i := 12) (oi := ⟨some 70, _, _, _, _, _⟩) (v := .int .i64 (k : Int)) rfl (by kernel_rfl) (by kernel_rfl) (by kernel_rfl) (fun _ _ _ h => h) (Or.inl ⟨by kernel_rfl, fun w' hSw => ?_⟩) hS ?_
      · go_simp
      simp only [Act.put, List.setIfInBounds_toArray, List.set_cons_zero, List.set_cons_succ]
      refine wpAnyH_take (i := 13) (oi := ⟨some 71, _, _, _, _, _⟩) (v := .int .i64 (q : Int)) rfl (by kernel_rfl) (by kernel_rfl) (by kernel_rfl) (fun _ _ _ h => h) (Or.inl ⟨by kernel_rfl, fun w' hSw => ?_⟩) hS ?_
      · (go_simp; rw [show 4 * (k : Int) = (q : Int) by have := HQ.out; omega]; exact IntWalk.i64_in _ (by omega))
      simp only [Act.put, List.setIfInBounds_toArray, List.set_cons_zero, List.set_cons_succ]
      refine wpAnyH_take (i := 14) (oi := ⟨some 72, _, _, _, _, _⟩) (v := .int .i64 (q1 : Int)) rfl (by kernel_rfl) (by kernel_rfl) (by kernel_rfl) (fun _ _ _ h => h) (Or.inl ⟨by kernel_rfl, fun w' hSw => ?_⟩) hS ?_
      · (go_simp; rw [show (q : Int) + 1 = (q1 : Int) by have := HQ1.out; omega]; exact IntWalk.i64_in _ (by omega))
      simp only [Act.put, List.setIfInBounds_toArray, List.set_cons_zero, List.set_cons_succ]
      refine wpAnyH_take (i := 15) (oi := ⟨some 73, _, _, _, _, _⟩) (v := .pointer (some (ad.add q1))) rfl (by kernel_rfl) (by kernel_rfl) (by kernel_rfl) (fun _ _ _ h => h) (Or.inl ⟨by kernel_rfl, fun w' hSw => ?_⟩) hS ?_
      · go_simp
      simp only [Act.put, List.setIfInBounds_toArray, List.set_cons_zero, List.set_cons_succ]
      refine wpAnyH_take (i := 16) (oi := ⟨some 74, _, _, _, _, _⟩) (v := .int .u8 (b1 : Int)) rfl (by kernel_rfl) (by kernel_rfl) (by kernel_rfl) (fun _ _ _ h => h) (Or.inl ⟨by kernel_rfl, fun w' hSw => ?_⟩) hS ?_
      · (have c := (hSw.cell (p := ad.add q1) (by rw [block_of_add]; exact hklt)).trans hc1; go_simp)
      simp only [Act.put, List.setIfInBounds_toArray, List.set_cons_zero, List.set_cons_succ]
      refine wpAnyH_take (i := 17) (oi := ⟨some 75, _, _, _, _, _⟩) (v := .int .u32 (b1 : Int)) rfl (by kernel_rfl) (by kernel_rfl) (by kernel_rfl) (fun _ _ _ h => h) (Or.inl ⟨by kernel_rfl, fun w' hSw => ?_⟩) hS ?_
      · go_simp
      simp only [Act.put, List.setIfInBounds_toArray, List.set_cons_zero, List.set_cons_succ]
      refine wpAnyH_take (i := 18) (oi := ⟨some 76, _, _, _, _, _⟩) (v := .int .u32 ((b1 : Int) * 65536)) rfl (by kernel_rfl) (by kernel_rfl) (by kernel_rfl) (fun _ _ _ h => h) (Or.inl ⟨by kernel_rfl, fun w' hSw => ?_⟩) hS ?_
      · go_simp
      simp only [Act.put, List.setIfInBounds_toArray, List.set_cons_zero, List.set_cons_succ]
      refine wpAnyH_take (i := 19) (oi := ⟨some 77, _, _, _, _, _⟩) (v := .int .u32 ((b0 : Int) * 16777216 + (b1 : Int) * 65536)) rfl (by kernel_rfl) (by kernel_rfl) (by kernel_rfl) (fun _ _ _ h => h) (Or.inl ⟨by kernel_rfl, fun w' hSw => ?_⟩) hS ?_
      · go_simp
      simp only [Act.put, List.setIfInBounds_toArray, List.set_cons_zero, List.set_cons_succ]
      refine wpAnyH_take (i := 20) (oi := ⟨some 78, _, _, _, _, _⟩) (v := .slice (some ad) 16 c) rfl (by kernel_rfl) (by kernel_rfl) (by kernel_rfl) (fun _ _ _ h => h) (Or.inl ⟨by kernel_rfl, fun w' hSw => ?_⟩) hS ?_
      · go_simp
      simp only [Act.put, List.setIfInBounds_toArray, List.set_cons_zero, List.set_cons_succ]
      refine wpAnyH_take (i := 21) (oi := ⟨some 79, _, _, _, _, _⟩) (v := .int .i64 (k : Int)) rfl (by kernel_rfl) (by kernel_rfl) (by kernel_rfl) (fun _ _ _ h => h) (Or.inl ⟨by kernel_rfl, fun w' hSw => ?_⟩) hS ?_
      · go_simp
      simp only [Act.put, List.setIfInBounds_toArray, List.set_cons_zero, List.set_cons_succ]
      refine wpAnyH_take (i := 22) (oi := ⟨some 80, _, _, _, _, _⟩) (v := .int .i64 (q : Int)) rfl (by kernel_rfl) (by kernel_rfl) (by kernel_rfl) (fun _ _ _ h => h) (Or.inl ⟨by kernel_rfl, fun w' hSw => ?_⟩) hS ?_
      · (go_simp; rw [show 4 * (k : Int) = (q : Int) by have := HQ.out; omega]; exact IntWalk.i64_in _ (by omega))
      simp only [Act.put, List.setIfInBounds_toArray, List.set_cons_zero, List.set_cons_succ]
      refine wpAnyH_take (i := 23) (oi := ⟨some 81, _, _, _, _, _⟩) (v := .int .i64 (q2 : Int)) rfl (by kernel_rfl) (by kernel_rfl) (by kernel_rfl) (fun _ _ _ h => h) (Or.inl ⟨by kernel_rfl, fun w' hSw => ?_⟩) hS ?_
      · (go_simp; rw [show (q : Int) + 2 = (q2 : Int) by have := HQ2.out; omega]; exact IntWalk.i64_in _ (by omega))
      simp only [Act.put, List.setIfInBounds_toArray, List.set_cons_zero, List.set_cons_succ]
      refine wpAnyH_take (i := 24) (oi := ⟨some 82, _, _, _, _, _⟩) (v := .pointer (some (ad.add q2))) rfl (by kernel_rfl) (by kernel_rfl) (by kernel_rfl) (fun _ _ _ h => h) (Or.inl ⟨by kernel_rfl, fun w' hSw => ?_⟩) hS ?_
      · go_simp
      simp only [Act.put, List.setIfInBounds_toArray, List.set_cons_zero, List.set_cons_succ]
      refine wpAnyH_take (i := 25) (oi := ⟨some 83, _, _, _, _, _⟩) (v := .int .u8 (b2 : Int)) rfl (by kernel_rfl) (by kernel_rfl) (by kernel_rfl) (fun _ _ _ h => h) (Or.inl ⟨by kernel_rfl, fun w' hSw => ?_⟩) hS ?_
      · (have c := (hSw.cell (p := ad.add q2) (by rw [block_of_add]; exact hklt)).trans hc2; go_simp)
      simp only [Act.put, List.setIfInBounds_toArray, List.set_cons_zero, List.set_cons_succ]
      refine wpAnyH_take (i := 26) (oi := ⟨some 84, _, _, _, _, _⟩) (v := .int .u32 (b2 : Int)) rfl (by kernel_rfl) (by kernel_rfl) (by kernel_rfl) (fun _ _ _ h => h) (Or.inl ⟨by kernel_rfl, fun w' hSw => ?_⟩) hS ?_
      · go_simp
      simp only [Act.put, List.setIfInBounds_toArray, List.set_cons_zero, List.set_cons_succ]
      refine wpAnyH_take (i := 27) (oi := ⟨some 85, _, _, _, _, _⟩) (v := .int .u32 ((b2 : Int) * 256)) rfl (by kernel_rfl) (by kernel_rfl) (by kernel_rfl) (fun _ _ _ h => h) (Or.inl ⟨by kernel_rfl, fun w' hSw => ?_⟩) hS ?_
      · go_simp
      simp only [Act.put, List.setIfInBounds_toArray, List.set_cons_zero, List.set_cons_succ]
      refine wpAnyH_take (i := 28) (oi := ⟨some 86, _, _, _, _, _⟩) (v := .int .u32 ((b0 : Int) * 16777216 + (b1 : Int) * 65536 + (b2 : Int) * 256)) rfl (by kernel_rfl) (by kernel_rfl) (by kernel_rfl) (fun _ _ _ h => h) (Or.inl ⟨by kernel_rfl, fun w' hSw => ?_⟩) hS ?_
      · go_simp
      simp only [Act.put, List.setIfInBounds_toArray, List.set_cons_zero, List.set_cons_succ]
      refine wpAnyH_take (i := 29) (oi := ⟨some 87, _, _, _, _, _⟩) (v := .slice (some ad) 16 c) rfl (by kernel_rfl) (by kernel_rfl) (by kernel_rfl) (fun _ _ _ h => h) (Or.inl ⟨by kernel_rfl, fun w' hSw => ?_⟩) hS ?_
      · go_simp
      simp only [Act.put, List.setIfInBounds_toArray, List.set_cons_zero, List.set_cons_succ]
      refine wpAnyH_take (i := 30) (oi := ⟨some 88, _, _, _, _, _⟩) (v := .int .i64 (k : Int)) rfl (by kernel_rfl) (by kernel_rfl) (by kernel_rfl) (fun _ _ _ h => h) (Or.inl ⟨by kernel_rfl, fun w' hSw => ?_⟩) hS ?_
      · go_simp
      simp only [Act.put, List.setIfInBounds_toArray, List.set_cons_zero, List.set_cons_succ]
      refine wpAnyH_take (i := 31) (oi := ⟨some 89, _, _, _, _, _⟩) (v := .int .i64 (q : Int)) rfl (by kernel_rfl) (by kernel_rfl) (by kernel_rfl) (fun _ _ _ h => h) (Or.inl ⟨by kernel_rfl, fun w' hSw => ?_⟩) hS ?_
      · (go_simp; rw [show 4 * (k : Int) = (q : Int) by have := HQ.out; omega]; exact IntWalk.i64_in _ (by omega))
      simp only [Act.put, List.setIfInBounds_toArray, List.set_cons_zero, List.set_cons_succ]
      refine wpAnyH_take (i := 32) (oi := ⟨some 90, _, _, _, _, _⟩) (v := .int .i64 (q3 : Int)) rfl (by kernel_rfl) (by kernel_rfl) (by kernel_rfl) (fun _ _ _ h => h) (Or.inl ⟨by kernel_rfl, fun w' hSw => ?_⟩) hS ?_
      · (go_simp; rw [show (q : Int) + 3 = (q3 : Int) by have := HQ3.out; omega]; exact IntWalk.i64_in _ (by omega))
      simp only [Act.put, List.setIfInBounds_toArray, List.set_cons_zero, List.set_cons_succ]
      refine wpAnyH_take (i := 33) (oi := ⟨some 91, _, _, _, _, _⟩) (v := .pointer (some (ad.add q3))) rfl (by kernel_rfl) (by kernel_rfl) (by kernel_rfl) (fun _ _ _ h => h) (Or.inl ⟨by kernel_rfl, fun w' hSw => ?_⟩) hS ?_
      · go_simp
      simp only [Act.put, List.setIfInBounds_toArray, List.set_cons_zero, List.set_cons_succ]
      refine wpAnyH_take (i := 34) (oi := ⟨some 92, _, _, _, _, _⟩) (v := .int .u8 (b3 : Int)) rfl (by kernel_rfl) (by kernel_rfl) (by kernel_rfl) (fun _ _ _ h => h) (Or.inl ⟨by kernel_rfl, fun w' hSw => ?_⟩) hS ?_
      · (have c := (hSw.cell (p := ad.add q3) (by rw [block_of_add]; exact hklt)).trans hc3; go_simp)
      simp only [Act.put, List.setIfInBounds_toArray, List.set_cons_zero, List.set_cons_succ]
      refine wpAnyH_take (i := 35) (oi := ⟨some 93, _, _, _, _, _⟩) (v := .int .u32 (b3 : Int)) rfl (by kernel_rfl) (by kernel_rfl) (by kernel_rfl) (fun _ _ _ h => h) (Or.inl ⟨by kernel_rfl, fun w' hSw => ?_⟩) hS ?_
      · go_simp
      simp only [Act.put, List.setIfInBounds_toArray, List.set_cons_zero, List.set_cons_succ]
      refine wpAnyH_take (i := 36) (oi := ⟨some 94, _, _, _, _, _⟩) (v := .int .u32 (x : Int)) rfl (by kernel_rfl) (by kernel_rfl) (by kernel_rfl) (fun _ _ _ h => h) (Or.inl ⟨by kernel_rfl, fun w' hSw => ?_⟩) hS ?_
      · go_simp
      simp only [Act.put, List.setIfInBounds_toArray, List.set_cons_zero, List.set_cons_succ]
      refine wpAnyH_take (i := 37) (oi := ⟨some 95, _, _, _, _, _⟩) (v := .bool false) rfl (by kernel_rfl) (by kernel_rfl) (by kernel_rfl) (fun _ _ _ h => h) (Or.inl ⟨by kernel_rfl, fun w' hSw => ?_⟩) hS ?_
      · go_simp
      simp only [Act.put, List.setIfInBounds_toArray, List.set_cons_zero, List.set_cons_succ]
      refine wpAnyH_done (by kernel_rfl) ?_ _
      go_wp2_with fail
      go_roundw
      case rel => exact ⟨k + 1, by go_num, by omega, hB.drew⟩
      case measure => simp [intOf]; omega
set_option maxRecDepth 100000 in
set_option maxHeartbeats 8000000 in
theorem keys6_in32 (A : Option Addr) (c : Nat) (l : List Nat) (B : Option Addr) (n1 c1 : Nat) (l1 : List Nat) (w : World) (hl : Bytes w A 32 l) (hl1 : Bytes w B n1 l1) (h1 : n1 ≤ 100) :
    Calls Try.prog 22 #[.slice A 32 c, .slice B n1 c1] w fun e w' => e = .returned (.bool true) ∧ Below w.heap.size w w' := by
  obtain ⟨ad, hA, _⟩ := hl.2.2.2 (by omega)
  subst hA
  have hk : MayK l.length := by rw [hl.1]; exact .inr rfl
  have hwl : (words l).length = 60 := by rw [words_len, hl.1]
  have HC := Box.mk (fun w hl => block_walk B n1 c1 l1 w hl)
  have Hf : Box (∀ i, ofL l1 i < 256) := ⟨ofL_lt hl1.2.2.1⟩
  revert HC Hf
  generalize ofL l1 = f
  intro HC Hf
  have HE : Box (∀ (w : World) (C : Nat), Ciph w C (words l) → Calls Try.prog 61 #[.pointer (some ⟨C, 0, none⟩), .agg (bv f)] w fun e w' => e = .returned (.agg (bv (encK l f))) ∧ Below w.heap.size w w') := ⟨fun w C h => encrypt_key C l f hk Hf.out w h⟩
  have HR : Box (∀ (w : World) (C : Nat), Ciph w C (words l) → Calls Try.prog 65 #[.pointer (some ⟨C, 0, none⟩)] w fun e w' => e = .returned (.int .i64 14) ∧ w = w') := ⟨fun w C h => by have h := rounds_key C l hk w h; rwa [hl.1] at h⟩
  have HKY : Box (∀ (w : World) (C : Nat), Ciph w C (words l) → Calls Try.prog 64 #[.pointer (some ⟨C, 0, none⟩)] w (OwnWQ (words l) w)) := ⟨fun w C h => keys_any C (words l) w h (by omega) (by omega)⟩
  have HH : Box (∀ i, i < 8 → (words l).getD i 0 = keyW l i) := ⟨fun i hi => words_head (by rw [hl.1]; exact hi)⟩
  have HNW : Box (∀ (w : World) (A : Option Addr) (c : Nat), Bytes w A 32 l → 32 ≤ c → Calls Try.prog 59 #[.slice A 32 c] w fun e w' => NewQ l w e w') := ⟨fun w A c h hc => new_any A 32 c l w h hc (.inr rfl)⟩
  clear hk Hf
  revert HE
  generalize encK l f = y
  intro HE
  have hO0 : Own (w.alloc (.cells #[] 5)) w.heap.size (.slice (some ⟨w.heap.size, 0, none⟩) 0 0) [] := own_made w _ (Nat.le_refl _)
  have hl0 : Bytes (w.alloc (.cells #[] 5)) (some ad) 32 l := hl.alloc _
  go_enter Try.func22, Try.ntmps22
  go_wp2_with ((with_reducible show wpList _ _ _ (⟨some 30, _, _, _, _, _⟩ :: _) _ _); refine wp_appA rfl (.tmp 28) (.tmp 29) rfl w.heap.size (.slice (some ⟨w.heap.size, 0, none⟩) 0 0) [] rfl hO0 (some ad) 32 c l rfl hl0 (by simp) (by simp) ?_)
  intro vk w1 hK hgk _
  have hb1 : Below w.heap.size w w1 := grown_below ((Below.refl _ _).alloc (Nat.le_refl _) _) hgk (by simp) (fun k hk => by have hk : some w.heap.size = some k := hk; injection hk with hk; omega)
  clear hO0 hl0 hgk
  obtain ⟨Ak, ck, hvk⟩ := hK.form
  subst hvk
  rw [hl.1] at hK
  obtain ⟨gk, hAk, hgk0, hgk1⟩ := hK.at0 (by omega)
  subst hAk
  have hck : 32 ≤ ck := by
    rcases hK.1.2 with ⟨e, _⟩ | ⟨g, cap, cur, e, _, _, h, _⟩
    · cases e
    · injection e with _ _ e; rw [hl.1] at h; omega
  rw [hl.1]
  go_wp2_with fail
  refine (HNW.out _ _ ck hK.rd hck).mono ?_
  rintro e w2 ⟨C, rfl, hC, hb2, hCF⟩
  have hK2 := hK.below hb2 (Nat.le_refl _)
  have hz2 := hb2.size
  have hb2 := hb1.trans (hb2.mono hb1.size)
  clear hK hC HNW hck
  go_wp2_with fail
  refine (HKY.out _ C hCF.ciph).mono ?_
  rintro e w3 ⟨v8, rfl, h8, hb3⟩
  obtain ⟨A8, c8, hv8⟩ := h8.form
  subst hv8
  rw [hwl] at h8
  obtain ⟨g8, hA8, hg80, hg81⟩ := h8.at0 (by omega)
  subst hA8
  rw [hwl]
  clear HKY
  go_wp2_with fail
  refine (HR.out _ C (hCF.below hb3).ciph).mono ?_
  rintro e w' ⟨rfl, rfl⟩
  go_wp2_with fail
  go_loopw [9] (fun i wr => ∃ (k : Nat), i = .int .i64 (k : Int) ∧ k ≤ 8 ∧ Below w3.heap.size w3 wr) (fun i _ => 8 - (intOf i).toNat)
  case atStart => exact ⟨0, rfl, by omega, Below.refl _ _⟩
  case round =>
    obtain ⟨k, rfl, hk, hB⟩ := hrel
    by_cases hkN : k = 8
    · subst hkN
      have h8 := h8.below hB (Nat.le_refl _)
      have hz3 := hb3.size
      have hz4 := hB.size
      have hb4 := hb3.trans (hB.mono hb3.size)
      clear hB hb3
      go_wp2_with fail
      refine (HC.out _ (hl1.below (hb2.trans (hb4.mono hb2.size)))).mono ?_
      rintro e w5 ⟨rfl, hb5⟩
      have h8 := h8.below hb5 (Nat.le_refl _)
      have hz5 := hb5.size
      have hb5 := hb4.trans (hb5.mono hb4.size)
      clear hb4
      go_wp2_with (first
          | ((with_reducible show wpList _ _ _ (⟨_, Op.store 36 (.tmp 10) (.tmp 97), _, _, _, _⟩ :: _) _ _); refine wp_store_arr rfl (.tmp 10) (.tmp 97) rfl (w5.heap.size) (fun _ => 0) (f) rfl rfl (Arr.zero _ _ rfl) ?_)
          | ((with_reducible show wpList _ _ _ (⟨some 99, Op.load 36 (.tmp 10), _, _, _, _⟩ :: _) _ _); refine wp_load_arr rfl (.tmp 10) rfl (w5.heap.size) (f) rfl ((Arr.zero _ _ rfl).setRow) ?_))
      have hF : Arr ((w5.alloc (.cells #[.int .u8 0, .int .u8 0, .int .u8 0, .int .u8 0, .int .u8 0, .int .u8 0, .int .u8 0, .int .u8 0, .int .u8 0, .int .u8 0, .int .u8 0, .int .u8 0, .int .u8 0, .int .u8 0, .int .u8 0, .int .u8 0] 36)).setRow w5.heap.size (bv f)) w5.heap.size f := (Arr.zero _ _ rfl).setRow
      have hbW : Below w5.heap.size w5 ((w5.alloc (.cells #[.int .u8 0, .int .u8 0, .int .u8 0, .int .u8 0, .int .u8 0, .int .u8 0, .int .u8 0, .int .u8 0, .int .u8 0, .int .u8 0, .int .u8 0, .int .u8 0, .int .u8 0, .int .u8 0, .int .u8 0, .int .u8 0] 36)).setRow w5.heap.size (bv f)) := below_setRow ((Below.refl _ _).alloc (Nat.le_refl _) _) (Nat.le_refl _) _
      revert hF hbW
      generalize ((w5.alloc (.cells #[.int .u8 0, .int .u8 0, .int .u8 0, .int .u8 0, .int .u8 0, .int .u8 0, .int .u8 0, .int .u8 0, .int .u8 0, .int .u8 0, .int .u8 0, .int .u8 0, .int .u8 0, .int .u8 0, .int .u8 0, .int .u8 0] 36)).setRow w5.heap.size (bv f)) = w6
      intro hF hbW
      have h8 := h8.below hbW (Nat.le_refl _)
      have hz6 := hbW.size
      have hb6 := hb5.trans (hbW.mono hb5.size)
      clear hbW hb5
      refine (HE.out _ C (hCF.below hb6).ciph).mono ?_
      rintro e w7 ⟨rfl, hb7⟩
      have h8 := h8.below hb7 (Nat.le_refl _)
      have hF := hF.below hb7 hF.lt
      have hz7 := hb7.size
      have hb7 := hb6.trans (hb7.mono hb6.size)
      clear hb6
      go_wp2_with (first
          | ((with_reducible show wpList _ _ _ (⟨_, Op.store 36 (.tmp 11) (.tmp 100), _, _, _, _⟩ :: _) _ _); refine wp_store_arr rfl (.tmp 11) (.tmp 100) rfl (w7.heap.size) (fun _ => 0) (y) rfl rfl (Arr.zero _ _ rfl) ?_))
      have hY : Arr ((w7.alloc (.cells #[.int .u8 0, .int .u8 0, .int .u8 0, .int .u8 0, .int .u8 0, .int .u8 0, .int .u8 0, .int .u8 0, .int .u8 0, .int .u8 0, .int .u8 0, .int .u8 0, .int .u8 0, .int .u8 0, .int .u8 0, .int .u8 0] 36)).setRow w7.heap.size (bv y)) w7.heap.size y := (Arr.zero _ _ rfl).setRow
      have hF : Arr ((w7.alloc (.cells #[.int .u8 0, .int .u8 0, .int .u8 0, .int .u8 0, .int .u8 0, .int .u8 0, .int .u8 0, .int .u8 0, .int .u8 0, .int .u8 0, .int .u8 0, .int .u8 0, .int .u8 0, .int .u8 0, .int .u8 0, .int .u8 0] 36)).setRow w7.heap.size (bv y)) w5.heap.size f := (hF.alloc _).setRow_far (by have := hF.lt; omega)
      have hbW : Below w7.heap.size w7 ((w7.alloc (.cells #[.int .u8 0, .int .u8 0, .int .u8 0, .int .u8 0, .int .u8 0, .int .u8 0, .int .u8 0, .int .u8 0, .int .u8 0, .int .u8 0, .int .u8 0, .int .u8 0, .int .u8 0, .int .u8 0, .int .u8 0, .int .u8 0] 36)).setRow w7.heap.size (bv y)) := below_setRow ((Below.refl _ _).alloc (Nat.le_refl _) _) (Nat.le_refl _) _
      revert hF hY hbW
      generalize ((w7.alloc (.cells #[.int .u8 0, .int .u8 0, .int .u8 0, .int .u8 0, .int .u8 0, .int .u8 0, .int .u8 0, .int .u8 0, .int .u8 0, .int .u8 0, .int .u8 0, .int .u8 0, .int .u8 0, .int .u8 0, .int .u8 0, .int .u8 0] 36)).setRow w7.heap.size (bv y)) = w8
      intro hY hF hbW
      have h8 := h8.below hbW (Nat.le_refl _)
      have hb8 := hb7.trans (hbW.mono hb7.size)
      clear hbW hb7
      obtain ⟨g10, hg10⟩ : ∃ g, g = w5.heap.size := ⟨_, rfl⟩
      obtain ⟨g11, hg11⟩ : ∃ g, g = w7.heap.size := ⟨_, rfl⟩
      rw [← hg10] at hF ⊢
      rw [← hg11] at hY ⊢
      have n1 : g10 ≠ g8 := by omega
      have n2 : g11 ≠ g8 := by omega
      have n3 : g10 ≠ gk := by omega
      have n4 : g11 ≠ gk := by omega
      clear hg10 hg11 hz3 hz4 hz5 hz6 hz7 hg81
      go_loopw [12] (fun i wr => ∃ (j : Nat) (l' : List Nat), i = .int .i64 (j : Int) ∧ j ≤ 60 ∧ OwnW wr w2.heap.size (.slice (some ⟨g8, 0, none⟩) 60 c8) l' ∧ Arr wr g10 f ∧ Arr wr g11 y ∧ Below w2.heap.size w2 wr) (fun i _ => 60 - (intOf i).toNat)
      case atStart => exact ⟨0, _, rfl, by omega, h8, hF, hY, hb8⟩
      case round =>
        clear h8 hF hY hb8 w8
        obtain ⟨j, l', rfl, hj, h8, hF, hY, hB⟩ := hrel
        by_cases hjL : j = 60
        · subst hjL
          have hK := hK2.below hB (Nat.le_refl _)
          have hCr := hCF.below hB
          have hbr := hb2.trans (hB.mono hb2.size)
          clear hB h8
          go_wp2_with fail
          go_loopw [13] (fun i wr => ∃ (j : Nat) (l' : List Nat), i = .int .i64 (j : Int) ∧ j ≤ 32 ∧ Own wr w.heap.size (.slice (some ⟨gk, 0, none⟩) 32 ck) l' ∧ CiphF wr w1.heap.size C (words l) ∧ Arr wr g10 f ∧ Arr wr g11 y ∧ Below w.heap.size w wr) (fun i _ => 32 - (intOf i).toNat)
          case atStart => exact ⟨0, _, rfl, by omega, hK, hCr, hF, hY, hbr⟩
          case round =>
            clear hK hCr hF hY hbr
            obtain ⟨j, l2, rfl, hj, hK, hCr, hF, hY, hbr⟩ := hrel
            by_cases hjn : j = 32
            · subst hjn
              have hC := hCr.ciph
              clear hK hCr
              go_wp2_with fail
              refine wp_region_held_drew (S := fun w' => Below wr.heap.size wr w') (by kernel_rfl) (Below.refl _ _).drew (fun hS => ?_)
              refine wpAnyH_take (i := 0) (oi := ⟨some 119, _, _, _, _, _⟩) (v := .pointer (some ⟨C, 0, none⟩)) rfl (by kernel_rfl) (by kernel_rfl) (by kernel_rfl) (fun _ _ _ h => h) (Or.inl ⟨by kernel_rfl, fun w' hSw => ?_⟩) hS ?_
              · go_simp
              simp only [Act.put, List.setIfInBounds_toArray, List.set_cons_zero, List.set_cons_succ]
              refine wpAnyH_take (i := 1) (oi := ⟨some 120, _, _, _, _, _⟩) (v := .agg (bv (f))) rfl (by kernel_rfl) (by kernel_rfl) (by kernel_rfl) (fun _ _ _ h => h) (yields_arr (by kernel_rfl) (.tmp 10) rfl (g10) (f) rfl fun w' h => hF.below h hF.lt) hS ?_
              simp only [Act.put, List.setIfInBounds_toArray, List.set_cons_zero, List.set_cons_succ]
              refine wpAnyH_take (i := 3) (oi := ⟨some 122, _, _, _, _, _⟩) (v := .agg (bv (y))) rfl (by kernel_rfl) (by kernel_rfl) (by kernel_rfl) (fun _ _ _ h => h) (yields_arr (by kernel_rfl) (.tmp 11) rfl (g11) (y) rfl fun w' h => hY.below h hY.lt) hS ?_
              simp only [Act.put, List.setIfInBounds_toArray, List.set_cons_zero, List.set_cons_succ]
              refine wpAnyH_ready (rs := [2]) (by kernel_rfl) (by simp) ?_
              refine (AllReadyH.cons (o := ⟨some 121, _, _, _, _, _⟩) rfl (fun K hK => ?_) AllReadyH.nil)
              rw [if_pos (by kernel_rfl)]
              go_simp
              refine (HE.out _ C (hC.below hS)).mono ?_
              rintro e v1 ⟨rfl, hq1⟩
              have hqz1 := hq1.size
              refine hK.out _ _ (hS.trans (hq1.mono (by first | exact hS.size | (have := hS.size; simp at this ⊢; omega)))) (fun hS => ?_)
              clear hK K
              refine wpAnyH_take (i := 4) (oi := ⟨some 123, _, _, _, _, _⟩) (v := .bool true) rfl (by kernel_rfl) (by kernel_rfl) (by kernel_rfl) (fun _ _ _ h => h) (yields_same (by kernel_rfl) (.tmp 121) (.tmp 122) rfl (y) rfl rfl) hS ?_
              simp only [Act.put, List.setIfInBounds_toArray, List.set_cons_zero, List.set_cons_succ]
              refine wpAnyH_take (i := 5) (oi := ⟨some 124, _, _, _, _, _⟩) (v := .bool true) rfl (by kernel_rfl) (by kernel_rfl) (by kernel_rfl) (fun _ _ _ h => h) (Or.inl ⟨by kernel_rfl, fun w' hSw => ?_⟩) hS ?_
              · go_simp
              simp only [Act.put, List.setIfInBounds_toArray, List.set_cons_zero, List.set_cons_succ]
              refine wpAnyH_ready (rs := [6]) (by kernel_rfl) (by simp) ?_
              refine (AllReadyH.cons (o := ⟨some 125, _, _, _, _, _⟩) rfl (fun K hK => ?_) AllReadyH.nil)
              rw [if_pos (by kernel_rfl)]
              go_simp
              refine (awake6 _).mono ?_
              rintro e v2 ⟨rfl, hq2⟩
              have hqz2 := hq2.size
              refine hK.out _ _ (hS.trans (hq2.mono (by first | exact hS.size | (have := hS.size; simp at this ⊢; omega)))) (fun hS => ?_)
              clear hK K
              refine wpAnyH_take (i := 7) (oi := ⟨some 126, _, _, _, _, _⟩) (v := .bool true) rfl (by kernel_rfl) (by kernel_rfl) (by kernel_rfl) (fun _ _ _ h => h) (Or.inl ⟨by kernel_rfl, fun w' hSw => ?_⟩) hS ?_
              · go_simp
              simp only [Act.put, List.setIfInBounds_toArray, List.set_cons_zero, List.set_cons_succ]
              refine wpAnyH_take (i := 8) (oi := ⟨some 4, _, _, _, _, _⟩) (v := .bool true) rfl (by kernel_rfl) (by kernel_rfl) (by kernel_rfl) (fun _ _ _ h => h) (Or.inl ⟨by kernel_rfl, fun w' hSw => ?_⟩) hS ?_
              · go_simp
              simp only [Act.put, List.setIfInBounds_toArray, List.set_cons_zero, List.set_cons_succ]
              refine wpAnyH_done (by kernel_rfl) ?_ _
              go_wp2_with fail
              go_ret
              exact ⟨rfl, hbr.trans (hS.mono hbr.size)⟩
            · have hj2 : j < 32 := by omega
              clear hjn
              have hc := hK.cellAt hj2
              have hfz := hK.freeAt j
              have q0 : (0 : Int) ≤ (j : Int) := by omega
              have q1 : (j : Int) < 32 := by omega
              have hst := hK.stored j 0 (by decide)
              have hCs := hCr.setCell ⟨gk, j, none⟩ (.int .u8 0) hgk1
              have hFs := hF.far (p := ⟨gk, j, none⟩) n3 (.int .u8 0)
              have hYs := hY.far (p := ⟨gk, j, none⟩) n4 (.int .u8 0)
              have hbs := hbr.setCell (p := ⟨gk, j, none⟩) hgk0 (.int .u8 0)
              clear hK hCr hF hY hbr
              go_wp2_with fail
              go_roundw
              case rel => exact ⟨j + 1, _, by go_num, by omega, hst, hCs, hFs, hYs, hbs⟩
              case measure => simp [intOf]; omega
        · have hj2 : j < 60 := by omega
          clear hjL
          have hc := h8.cellAt hj2
          have hfz := h8.freeAt j
          have q0 : (0 : Int) ≤ (j : Int) := by omega
          have q1 : (j : Int) < 60 := by omega
          have hst := h8.stored j 0 (by decide)
          have hFs := hF.far (p := ⟨g8, j, none⟩) n1 (.int .u32 0)
          have hYs := hY.far (p := ⟨g8, j, none⟩) n2 (.int .u32 0)
          have hbs := hB.setCell (p := ⟨g8, j, none⟩) hg80 (.int .u32 0)
          clear h8 hF hY hB
          go_wp2_with fail
          go_roundw
          case rel => exact ⟨j + 1, _, by go_num, by omega, hst, hFs, hYs, hbs⟩
          case measure => simp [intOf]; omega
    · have hk2 : k < 8 := by omega
      clear hkN
      have hlr := hl.below (hb2.trans ((hb3.trans (hB.mono hb3.size)).mono hb2.size))
      obtain ⟨b0, b1, b2, b3, x, t0, t1, t2, t3, hx, hkw, o1, o2, o3, hc0, hc1, hc2, hc3⟩ := key_word' hlr (show 4 * k + 4 ≤ 32 by omega)
      have hklt := hlr.blk
      have hc8 := (h8.below hB (Nat.le_refl _)).cellAt (show k < 60 by omega)
      rw [HH.out k hk2, ← hkw] at hc8
      have h8lt : g8 < wr.heap.size := by have := hB.size; omega
      obtain ⟨q, hq⟩ : ∃ q, q = 4 * k := ⟨_, rfl⟩
      obtain ⟨q1, hq1⟩ : ∃ q1, q1 = 4 * k + 1 := ⟨_, rfl⟩
      obtain ⟨q2, hq2⟩ : ∃ q2, q2 = 4 * k + 2 := ⟨_, rfl⟩
      obtain ⟨q3, hq3⟩ : ∃ q3, q3 = 4 * k + 3 := ⟨_, rfl⟩
      rw [← hq] at hc0
      rw [← hq1] at hc1
      rw [← hq2] at hc2
      rw [← hq3] at hc3
      have HQ : Box (q = 4 * k) := ⟨hq⟩
      have HQ1 : Box (q1 = q + 1) := ⟨by omega⟩
      have HQ2 : Box (q2 = q + 2) := ⟨by omega⟩
      have HQ3 : Box (q3 = q + 3) := ⟨by omega⟩
      have a0 : (0 : Int) ≤ (q : Int) := by omega
      have a1 : (0 : Int) ≤ (q1 : Int) := by omega
      have a2 : (0 : Int) ≤ (q2 : Int) := by omega
      have a3 : (0 : Int) ≤ (q3 : Int) := by omega
      have z0 : (q : Int) < 32 := by omega
      have z1 : (q1 : Int) < 32 := by omega
      have z2 : (q2 : Int) < 32 := by omega
      have z3 : (q3 : Int) < 32 := by omega
      have kk0 : (0 : Int) ≤ (k : Int) := by omega
      have kk1 : (k : Int) < 60 := by omega
      clear hq hq1 hq2 hq3 hkw hlr
      have v0 := u32_nat b0 (by omega)
      have v1 := u32_nat b1 (by omega)
      have v2 := u32_nat b2 (by omega)
      have v3 := u32_nat b3 (by omega)
      have u0 : IntKind.u32.wrap ((b0 : Int) * 16777216) = (b0 : Int) * 16777216 := by have := u32_nat (b0 * 16777216) (by omega); rw [Int.natCast_mul] at this; exact this
      have u1 : IntKind.u32.wrap ((b1 : Int) * 65536) = (b1 : Int) * 65536 := by have := u32_nat (b1 * 65536) (by omega); rw [Int.natCast_mul] at this; exact this
      have u2 : IntKind.u32.wrap ((b2 : Int) * 256) = (b2 : Int) * 256 := by have := u32_nat (b2 * 256) (by omega); rw [Int.natCast_mul] at this; exact this
      go_wp2_with fail
      refine wp_region_held_drew (S := fun w' => Below wr.heap.size wr w') (by kernel_rfl) (Below.refl _ _).drew (fun hS => ?_)
      refine wpAnyH_take (i := 0) (oi := ⟨some 58, _, _, _, _, _⟩) (v := .slice (some ⟨g8, 0, none⟩) 60 c8) rfl (by kernel_rfl) (by kernel_rfl) (by kernel_rfl) (fun _ _ _ h => h) (Or.inl ⟨by kernel_rfl, fun w' hSw => ?_⟩) hS ?_
      · go_simp
      simp only [Act.put, List.setIfInBounds_toArray, List.set_cons_zero, List.set_cons_succ]
      refine wpAnyH_take (i := 1) (oi := ⟨some 59, _, _, _, _, _⟩) (v := .int .i64 (k : Int)) rfl (by kernel_rfl) (by kernel_rfl) (by kernel_rfl) (fun _ _ _ h => h) (Or.inl ⟨by kernel_rfl, fun w' hSw => ?_⟩) hS ?_
      · go_simp
      simp only [Act.put, List.setIfInBounds_toArray, List.set_cons_zero, List.set_cons_succ]
      refine wpAnyH_take (i := 2) (oi := ⟨some 60, _, _, _, _, _⟩) (v := .pointer (some ⟨g8, k, none⟩)) rfl (by kernel_rfl) (by kernel_rfl) (by kernel_rfl) (fun _ _ _ h => h) (Or.inl ⟨by kernel_rfl, fun w' hSw => ?_⟩) hS ?_
      · go_simp
      simp only [Act.put, List.setIfInBounds_toArray, List.set_cons_zero, List.set_cons_succ]
      refine wpAnyH_take (i := 3) (oi := ⟨some 61, _, _, _, _, _⟩) (v := .int .u32 (x : Int)) rfl (by kernel_rfl) (by kernel_rfl) (by kernel_rfl) (fun _ _ _ h => h) (Or.inl ⟨by kernel_rfl, fun w' hSw => ?_⟩) hS ?_
      · (have c := (hSw.cell (p := ⟨g8, k, none⟩) h8lt).trans hc8; go_simp)
      simp only [Act.put, List.setIfInBounds_toArray, List.set_cons_zero, List.set_cons_succ]
      refine wpAnyH_take (i := 4) (oi := ⟨some 62, _, _, _, _, _⟩) (v := .slice (some ad) 32 c) rfl (by kernel_rfl) (by kernel_rfl) (by kernel_rfl) (fun _ _ _ h => h) (Or.inl ⟨by kernel_rfl, fun w' hSw => ?_⟩) hS ?_
      · go_simp
      simp only [Act.put, List.setIfInBounds_toArray, List.set_cons_zero, List.set_cons_succ]
      refine wpAnyH_take (i := 5) (oi := ⟨some 63, _, _, _, _, _⟩) (v := .int .i64 (k : Int)) rfl (by kernel_rfl) (by kernel_rfl) (by kernel_rfl) (fun _ _ _ h => h) (Or.inl ⟨by kernel_rfl, fun w' hSw => ?_⟩) hS ?_
      · go_simp
      simp only [Act.put, List.setIfInBounds_toArray, List.set_cons_zero, List.set_cons_succ]
      refine wpAnyH_take (i := 6) (oi := ⟨some 64, _, _, _, _, _⟩) (v := .int .i64 (q : Int)) rfl (by kernel_rfl) (by kernel_rfl) (by kernel_rfl) (fun _ _ _ h => h) (Or.inl ⟨by kernel_rfl, fun w' hSw => ?_⟩) hS ?_
      · (go_simp; rw [show 4 * (k : Int) = (q : Int) by have := HQ.out; omega]; exact IntWalk.i64_in _ (by omega))
      simp only [Act.put, List.setIfInBounds_toArray, List.set_cons_zero, List.set_cons_succ]
      refine wpAnyH_take (i := 7) (oi := ⟨some 65, _, _, _, _, _⟩) (v := .pointer (some (ad.add q))) rfl (by kernel_rfl) (by kernel_rfl) (by kernel_rfl) (fun _ _ _ h => h) (Or.inl ⟨by kernel_rfl, fun w' hSw => ?_⟩) hS ?_
      · go_simp
      simp only [Act.put, List.setIfInBounds_toArray, List.set_cons_zero, List.set_cons_succ]
      refine wpAnyH_take (i := 8) (oi := ⟨some 66, _, _, _, _, _⟩) (v := .int .u8 (b0 : Int)) rfl (by kernel_rfl) (by kernel_rfl) (by kernel_rfl) (fun _ _ _ h => h) (Or.inl ⟨by kernel_rfl, fun w' hSw => ?_⟩) hS ?_
      · (have c := (hSw.cell (p := ad.add q) (by rw [block_of_add]; exact hklt)).trans hc0; go_simp)
      simp only [Act.put, List.setIfInBounds_toArray, List.set_cons_zero, List.set_cons_succ]
      refine wpAnyH_take (i := 9) (oi := ⟨some 67, _, _, _, _, _⟩) (v := .int .u32 (b0 : Int)) rfl (by kernel_rfl) (by kernel_rfl) (by kernel_rfl) (fun _ _ _ h => h) (Or.inl ⟨by kernel_rfl, fun w' hSw => ?_⟩) hS ?_
      · go_simp
      simp only [Act.put, List.setIfInBounds_toArray, List.set_cons_zero, List.set_cons_succ]
      refine wpAnyH_take (i := 10) (oi := ⟨some 68, _, _, _, _, _⟩) (v := .int .u32 ((b0 : Int) * 16777216)) rfl (by kernel_rfl) (by kernel_rfl) (by kernel_rfl) (fun _ _ _ h => h) (Or.inl ⟨by kernel_rfl, fun w' hSw => ?_⟩) hS ?_
      · go_simp
      simp only [Act.put, List.setIfInBounds_toArray, List.set_cons_zero, List.set_cons_succ]
      refine wpAnyH_take (i := 11) (oi := ⟨some 69, _, _, _, _, _⟩) (v := .slice (some ad) 32 c) rfl (by kernel_rfl) (by kernel_rfl) (by kernel_rfl) (fun _ _ _ h => h) (Or.inl ⟨by kernel_rfl, fun w' hSw => ?_⟩) hS ?_
      · go_simp
      simp only [Act.put, List.setIfInBounds_toArray, List.set_cons_zero, List.set_cons_succ]
      refine wpAnyH_take (i := 12) (oi := ⟨some 70, _, _, _, _, _⟩) (v := .int .i64 (k : Int)) rfl (by kernel_rfl) (by kernel_rfl) (by kernel_rfl) (fun _ _ _ h => h) (Or.inl ⟨by kernel_rfl, fun w' hSw => ?_⟩) hS ?_
      · go_simp
      simp only [Act.put, List.setIfInBounds_toArray, List.set_cons_zero, List.set_cons_succ]
      refine wpAnyH_take (i := 13) (oi := ⟨some 71, _, _, _, _, _⟩) (v := .int .i64 (q : Int)) rfl (by kernel_rfl) (by kernel_rfl) (by kernel_rfl) (fun _ _ _ h => h) (Or.inl ⟨by kernel_rfl, fun w' hSw => ?_⟩) hS ?_
      · (go_simp; rw [show 4 * (k : Int) = (q : Int) by have := HQ.out; omega]; exact IntWalk.i64_in _ (by omega))
      simp only [Act.put, List.setIfInBounds_toArray, List.set_cons_zero, List.set_cons_succ]
      refine wpAnyH_take (i := 14) (oi := ⟨some 72, _, _, _, _, _⟩) (v := .int .i64 (q1 : Int)) rfl (by kernel_rfl) (by kernel_rfl) (by kernel_rfl) (fun _ _ _ h => h) (Or.inl ⟨by kernel_rfl, fun w' hSw => ?_⟩) hS ?_
      · (go_simp; rw [show (q : Int) + 1 = (q1 : Int) by have := HQ1.out; omega]; exact IntWalk.i64_in _ (by omega))
      simp only [Act.put, List.setIfInBounds_toArray, List.set_cons_zero, List.set_cons_succ]
      refine wpAnyH_take (i := 15) (oi := ⟨some 73, _, _, _, _, _⟩) (v := .pointer (some (ad.add q1))) rfl (by kernel_rfl) (by kernel_rfl) (by kernel_rfl) (fun _ _ _ h => h) (Or.inl ⟨by kernel_rfl, fun w' hSw => ?_⟩) hS ?_
      · go_simp
      simp only [Act.put, List.setIfInBounds_toArray, List.set_cons_zero, List.set_cons_succ]
      refine wpAnyH_take (i := 16) (oi := ⟨some 74, _, _, _, _, _⟩) (v := .int .u8 (b1 : Int)) rfl (by kernel_rfl) (by kernel_rfl) (by kernel_rfl) (fun _ _ _ h => h) (Or.inl ⟨by kernel_rfl, fun w' hSw => ?_⟩) hS ?_
      · (have c := (hSw.cell (p := ad.add q1) (by rw [block_of_add]; exact hklt)).trans hc1; go_simp)
      simp only [Act.put, List.setIfInBounds_toArray, List.set_cons_zero, List.set_cons_succ]
      refine wpAnyH_take (i := 17) (oi := ⟨some 75, _, _, _, _, _⟩) (v := .int .u32 (b1 : Int)) rfl (by kernel_rfl) (by kernel_rfl) (by kernel_rfl) (fun _ _ _ h => h) (Or.inl ⟨by kernel_rfl, fun w' hSw => ?_⟩) hS ?_
      · go_simp
      simp only [Act.put, List.setIfInBounds_toArray, List.set_cons_zero, List.set_cons_succ]
      refine wpAnyH_take (i := 18) (oi := ⟨some 76, _, _, _, _, _⟩) (v := .int .u32 ((b1 : Int) * 65536)) rfl (by kernel_rfl) (by kernel_rfl) (by kernel_rfl) (fun _ _ _ h => h) (Or.inl ⟨by kernel_rfl, fun w' hSw => ?_⟩) hS ?_
      · go_simp
      simp only [Act.put, List.setIfInBounds_toArray, List.set_cons_zero, List.set_cons_succ]
      refine wpAnyH_take (i := 19) (oi := ⟨some 77, _, _, _, _, _⟩) (v := .int .u32 ((b0 : Int) * 16777216 + (b1 : Int) * 65536)) rfl (by kernel_rfl) (by kernel_rfl) (by kernel_rfl) (fun _ _ _ h => h) (Or.inl ⟨by kernel_rfl, fun w' hSw => ?_⟩) hS ?_
      · go_simp
      simp only [Act.put, List.setIfInBounds_toArray, List.set_cons_zero, List.set_cons_succ]
      refine wpAnyH_take (i := 20) (oi := ⟨some 78, _, _, _, _, _⟩) (v := .slice (some ad) 32 c) rfl (by kernel_rfl) (by kernel_rfl) (by kernel_rfl) (fun _ _ _ h => h) (Or.inl ⟨by kernel_rfl, fun w' hSw => ?_⟩) hS ?_
      · go_simp
      simp only [Act.put, List.setIfInBounds_toArray, List.set_cons_zero, List.set_cons_succ]
      refine wpAnyH_take (i := 21) (oi := ⟨some 79, _, _, _, _, _⟩) (v := .int .i64 (k : Int)) rfl (by kernel_rfl) (by kernel_rfl) (by kernel_rfl) (fun _ _ _ h => h) (Or.inl ⟨by kernel_rfl, fun w' hSw => ?_⟩) hS ?_
      · go_simp
      simp only [Act.put, List.setIfInBounds_toArray, List.set_cons_zero, List.set_cons_succ]
      refine wpAnyH_take (i := 22) (oi := ⟨some 80, _, _, _, _, _⟩) (v := .int .i64 (q : Int)) rfl (by kernel_rfl) (by kernel_rfl) (by kernel_rfl) (fun _ _ _ h => h) (Or.inl ⟨by kernel_rfl, fun w' hSw => ?_⟩) hS ?_
      · (go_simp; rw [show 4 * (k : Int) = (q : Int) by have := HQ.out; omega]; exact IntWalk.i64_in _ (by omega))
      simp only [Act.put, List.setIfInBounds_toArray, List.set_cons_zero, List.set_cons_succ]
      refine wpAnyH_take (i := 23) (oi := ⟨some 81, _, _, _, _, _⟩) (v := .int .i64 (q2 : Int)) rfl (by kernel_rfl) (by kernel_rfl) (by kernel_rfl) (fun _ _ _ h => h) (Or.inl ⟨by kernel_rfl, fun w' hSw => ?_⟩) hS ?_
      · (go_simp; rw [show (q : Int) + 2 = (q2 : Int) by have := HQ2.out; omega]; exact IntWalk.i64_in _ (by omega))
      simp only [Act.put, List.setIfInBounds_toArray, List.set_cons_zero, List.set_cons_succ]
      refine wpAnyH_take (i := 24) (oi := ⟨some 82, _, _, _, _, _⟩) (v := .pointer (some (ad.add q2))) rfl (by kernel_rfl) (by kernel_rfl) (by kernel_rfl) (fun _ _ _ h => h) (Or.inl ⟨by kernel_rfl, fun w' hSw => ?_⟩) hS ?_
      · go_simp
      simp only [Act.put, List.setIfInBounds_toArray, List.set_cons_zero, List.set_cons_succ]
      refine wpAnyH_take (i := 25) (oi := ⟨some 83, _, _, _, _, _⟩) (v := .int .u8 (b2 : Int)) rfl (by kernel_rfl) (by kernel_rfl) (by kernel_rfl) (fun _ _ _ h => h) (Or.inl ⟨by kernel_rfl, fun w' hSw => ?_⟩) hS ?_
      · (have c := (hSw.cell (p := ad.add q2) (by rw [block_of_add]; exact hklt)).trans hc2; go_simp)
      simp only [Act.put, List.setIfInBounds_toArray, List.set_cons_zero, List.set_cons_succ]
      refine wpAnyH_take (i := 26) (oi := ⟨some 84, _, _, _, _, _⟩) (v := .int .u32 (b2 : Int)) rfl (by kernel_rfl) (by kernel_rfl) (by kernel_rfl) (fun _ _ _ h => h) (Or.inl ⟨by kernel_rfl, fun w' hSw => ?_⟩) hS ?_
      · go_simp
      simp only [Act.put, List.setIfInBounds_toArray, List.set_cons_zero, List.set_cons_succ]
      refine wpAnyH_take (i := 27) (oi := ⟨some 85, _, _, _, _, _⟩) (v := .int .u32 ((b2 : Int) * 256)) rfl (by kernel_rfl) (by kernel_rfl) (by kernel_rfl) (fun _ _ _ h => h) (Or.inl ⟨by kernel_rfl, fun w' hSw => ?_⟩) hS ?_
      · go_simp
      simp only [Act.put, List.setIfInBounds_toArray, List.set_cons_zero, List.set_cons_succ]
      refine wpAnyH_take (i := 28) (oi := ⟨some 86, _, _, _, _, _⟩) (v := .int .u32 ((b0 : Int) * 16777216 + (b1 : Int) * 65536 + (b2 : Int) * 256)) rfl (by kernel_rfl) (by kernel_rfl) (by kernel_rfl) (fun _ _ _ h => h) (Or.inl ⟨by kernel_rfl, fun w' hSw => ?_⟩) hS ?_
      · go_simp
      simp only [Act.put, List.setIfInBounds_toArray, List.set_cons_zero, List.set_cons_succ]
      refine wpAnyH_take (i := 29) (oi := ⟨some 87, _, _, _, _, _⟩) (v := .slice (some ad) 32 c) rfl (by kernel_rfl) (by kernel_rfl) (by kernel_rfl) (fun _ _ _ h => h) (Or.inl ⟨by kernel_rfl, fun w' hSw => ?_⟩) hS ?_
      · go_simp
      simp only [Act.put, List.setIfInBounds_toArray, List.set_cons_zero, List.set_cons_succ]
      refine wpAnyH_take (i := 30) (oi := ⟨some 88, _, _, _, _, _⟩) (v := .int .i64 (k : Int)) rfl (by kernel_rfl) (by kernel_rfl) (by kernel_rfl) (fun _ _ _ h => h) (Or.inl ⟨by kernel_rfl, fun w' hSw => ?_⟩) hS ?_
      · go_simp
      simp only [Act.put, List.setIfInBounds_toArray, List.set_cons_zero, List.set_cons_succ]
      refine wpAnyH_take (i := 31) (oi := ⟨some 89, _, _, _, _, _⟩) (v := .int .i64 (q : Int)) rfl (by kernel_rfl) (by kernel_rfl) (by kernel_rfl) (fun _ _ _ h => h) (Or.inl ⟨by kernel_rfl, fun w' hSw => ?_⟩) hS ?_
      · (go_simp; rw [show 4 * (k : Int) = (q : Int) by have := HQ.out; omega]; exact IntWalk.i64_in _ (by omega))
      simp only [Act.put, List.setIfInBounds_toArray, List.set_cons_zero, List.set_cons_succ]
      refine wpAnyH_take (i := 32) (oi := ⟨some 90, _, _, _, _, _⟩) (v := .int .i64 (q3 : Int)) rfl (by kernel_rfl) (by kernel_rfl) (by kernel_rfl) (fun _ _ _ h => h) (Or.inl ⟨by kernel_rfl, fun w' hSw => ?_⟩) hS ?_
      · (go_simp; rw [show (q : Int) + 3 = (q3 : Int) by have := HQ3.out; omega]; exact IntWalk.i64_in _ (by omega))
      simp only [Act.put, List.setIfInBounds_toArray, List.set_cons_zero, List.set_cons_succ]
      refine wpAnyH_take (i := 33) (oi := ⟨some 91, _, _, _, _, _⟩) (v := .pointer (some (ad.add q3))) rfl (by kernel_rfl) (by kernel_rfl) (by kernel_rfl) (fun _ _ _ h => h) (Or.inl ⟨by kernel_rfl, fun w' hSw => ?_⟩) hS ?_
      · go_simp
      simp only [Act.put, List.setIfInBounds_toArray, List.set_cons_zero, List.set_cons_succ]
      refine wpAnyH_take (i := 34) (oi := ⟨some 92, _, _, _, _, _⟩) (v := .int .u8 (b3 : Int)) rfl (by kernel_rfl) (by kernel_rfl) (by kernel_rfl) (fun _ _ _ h => h) (Or.inl ⟨by kernel_rfl, fun w' hSw => ?_⟩) hS ?_
      · (have c := (hSw.cell (p := ad.add q3) (by rw [block_of_add]; exact hklt)).trans hc3; go_simp)
      simp only [Act.put, List.setIfInBounds_toArray, List.set_cons_zero, List.set_cons_succ]
      refine wpAnyH_take (i := 35) (oi := ⟨some 93, _, _, _, _, _⟩) (v := .int .u32 (b3 : Int)) rfl (by kernel_rfl) (by kernel_rfl) (by kernel_rfl) (fun _ _ _ h => h) (Or.inl ⟨by kernel_rfl, fun w' hSw => ?_⟩) hS ?_
      · go_simp
      simp only [Act.put, List.setIfInBounds_toArray, List.set_cons_zero, List.set_cons_succ]
      refine wpAnyH_take (i := 36) (oi := ⟨some 94, _, _, _, _, _⟩) (v := .int .u32 (x : Int)) rfl (by kernel_rfl) (by kernel_rfl) (by kernel_rfl) (fun _ _ _ h => h) (Or.inl ⟨by kernel_rfl, fun w' hSw => ?_⟩) hS ?_
      · go_simp
      simp only [Act.put, List.setIfInBounds_toArray, List.set_cons_zero, List.set_cons_succ]
      refine wpAnyH_take (i := 37) (oi := ⟨some 95, _, _, _, _, _⟩) (v := .bool false) rfl (by kernel_rfl) (by kernel_rfl) (by kernel_rfl) (fun _ _ _ h => h) (Or.inl ⟨by kernel_rfl, fun w' hSw => ?_⟩) hS ?_
      · go_simp
      simp only [Act.put, List.setIfInBounds_toArray, List.set_cons_zero, List.set_cons_succ]
      refine wpAnyH_done (by kernel_rfl) ?_ _
      go_wp2_with fail
      go_roundw
      case rel => exact ⟨k + 1, by go_num, by omega, hB.drew⟩
      case measure => simp [intOf]; omega
theorem aesKeys_walk {w : World} (A : Option Addr) (n c : Nat) (l : List Nat) (_hc : n ≤ c) (hl : Bytes w A n l) (B : Option Addr) (n1 c1 : Nat) (l1 : List Nat) (_hc1 : n1 ≤ c1) (hl1 : Bytes w B n1 l1) :
    Calls Try.prog 22 #[.slice A n c, .slice B n1 c1] w fun e w' => e = .returned (.bool true) ∧ Below w.heap.size w w' := by
  by_cases h16 : n = 16
  · subst h16
    by_cases h1 : n1 ≤ 100
    · exact keys6_in16 A c l B n1 c1 l1 w hl hl1 h1
    · exact keys6_out16 A 16 c B n1 c1 w rfl (by omega)
  · by_cases h32 : n = 32
    · subst h32
      by_cases h1 : n1 ≤ 100
      · exact keys6_in32 A c l B n1 c1 l1 w hl hl1 h1
      · exact keys6_out32 A 32 c B n1 c1 w rfl rfl (by omega)
    · exact keys6_outN A n c B n1 c1 w (by simp; omega) (by simp; omega)
end Go.Proofs.Ytibfihjcjohadaa
