/-
  The walk of the law on sums of blocks: it returns true, whatever the input, and writes nothing that was there.
-/
import Derived.Test.YtibfihjcjohadaaLaws
import Derived.Test.YtibfihjcjohadaaL7a
namespace Go.Proofs.Ytibfihjcjohadaa
open Go.RowKit Go.Op
open Twk (byt dbl hlv tm byt_lt dbl_lt hlv_lt tm_lt up down xor_lt128 byt_xor dbl_xor)
/-- what Short tells: if yes, the rows are few -/
def ShortQ (n : Nat) (w : World) (e : Ending) (w' : World) : Prop := ∃ b : Bool, e = .returned (.bool b) ∧ (b = true → n ≤ 1000) ∧ w = w'
set_option maxRecDepth 100000 in
set_option maxHeartbeats 1000000 in
theorem short_any (A : Option Addr) (n c : Nat) (ls : List (List Nat)) (w : World) (hl : RowsB w A n ls) :
    Calls Try.prog 48 #[.slice A n c, .int .i64 1000] w (ShortQ n w) := by
  have hn := hl.2.1
  unfold maxLen at hn
  go_enter Try.func48, Try.ntmps48
  go_wp2_with fail
  go_loop [5, 6] (fun s i => ∃ (k m : Nat), i = .int .i64 (k : Int) ∧ s = .int .i64 (m : Int) ∧ k ≤ n ∧ n ≤ m ∧ m ≤ 9223372036854775807) (fun _ i => n - (intOf i).toNat)
  case atStart => exact ⟨0, n, rfl, rfl, by omega, by omega, by omega⟩
  case round =>
    obtain ⟨k, m, rfl, rfl, hk, hm, hm2⟩ := hrel
    by_cases h1 : k < n
    · by_cases h2 : m ≤ 1000
      · obtain ⟨ad, B, q, cq, l, rfl, hls, hc, hq, hB⟩ := hl.2.2 k h1
        have hql := hB.len
        have HLS := Lib.hid hls
        clear hls
        by_cases h3 : q ≤ 1000
        · go_wp2_with fail
          go_round
          case rel => exact ⟨k + 1, m + q, by go_num, by go_num, by omega, by omega, by omega⟩
          case measure => simp [intOf]; omega
        · go_wp2_with fail
          go_ret
          exact ⟨false, rfl, by simp, rfl⟩
      · go_wp2_with fail
        go_ret
        exact ⟨decide ((m : Int) ≤ 1000), rfl, by simp; omega, rfl⟩
    · have e : k = n := by omega
      subst e
      go_wp2_with fail
      go_ret
      exact ⟨decide ((m : Int) ≤ 1000), rfl, by simp; omega, rfl⟩
theorem foldl_nxor (l : List Nat) : ∀ a, l.foldl (· ^^^ ·) a = a ^^^ nsum l := by
  unfold nsum
  induction l with
  | nil => intro a; simp
  | cons x l ih => intro a; rw [List.foldl_cons, List.foldl_cons, ih, ih (0 ^^^ x)]; simp [Nat.xor_assoc]
theorem nsum_append (l m : List Nat) : nsum (l ++ m) = nsum l ^^^ nsum m := by
  rw [← foldl_nxor]; unfold nsum; rw [List.foldl_append]
theorem nsum_cons (x : Nat) (l : List Nat) : nsum (x :: l) = x ^^^ nsum l := by
  rw [← foldl_nxor]; unfold nsum; rw [List.foldl_cons, Nat.zero_xor]
theorem nsum_reverse (l : List Nat) : nsum l.reverse = nsum l := by
  induction l with
  | nil => rfl
  | cons x l ih => rw [List.reverse_cons, nsum_append, ih, nsum_cons, nsum_cons, Nat.xor_comm]; simp [nsum]
theorem nsum_twice (l : List Nat) : nsum (l ++ l) = 0 := by rw [nsum_append, Nat.xor_self]
theorem nsum_dbl (l : List Nat) (h : ∀ x ∈ l, x < 2 ^ 128) : dbl (nsum l) = nsum (l.map dbl) := by
  induction l with
  | nil => exact (by decide : dbl 0 = 0)
  | cons x l ih =>
    have hl : ∀ y ∈ l, y < 2 ^ 128 := fun y hy => h y (by simp [hy])
    rw [List.map_cons, nsum_cons, nsum_cons, dbl_xor (h x (by simp)) (nsum_lt l hl), ih hl]
/-- three rows of the call's own, apart from each other -/
structure T3 (w : World) (base : Nat) (a b c : Value) (la lb lc : List Nat) (wr : World) : Prop where
  oa : OwnB wr base a la
  ob : OwnB wr base b lb
  oc : OwnB wr base c lc
  ab : Apart a b
  ac : Apart a c
  bc : Apart b c
  bel : Below base w wr
  sz : base ≤ wr.heap.size
theorem T3.below {w : World} {base : Nat} {a b c : Value} {la lb lc : List Nat} {w1 w2 : World} (h : T3 w base a b c la lb lc w1) (hb : Below w1.heap.size w1 w2) : T3 w base a b c la lb lc w2 :=
  ⟨h.oa.below hb (Nat.le_refl _), h.ob.below hb (Nat.le_refl _), h.oc.below hb (Nat.le_refl _), h.ab, h.ac, h.bc, h.bel.trans (hb.mono h.sz), Nat.le_trans h.sz hb.size⟩
theorem Apart.keep {v u : Value} {w w' : World} {base : Nat} {l : List Nat} (h : OwnB w base u l) (hu : Apart v u) (hg : w.grownBy w' v.ownBlock) : OwnB w' base u l := h.kept hg hu.symm.ne
theorem T3.app1 {w : World} {base : Nat} {a b c a' : Value} {la lb lc la' : List Nat} {w1 w2 : World} (h : T3 w base a b c la lb lc w1) (h1 : OwnB w2 base a' la') (hg : w1.grownBy w2 a.ownBlock) (hv : a'.ownBlock = a.ownBlock ∨ a'.ownBlock = some w1.heap.size) : T3 w base a' b c la' lb lc w2 :=
  ⟨h1, h.ab.keep h.ob hg, h.ac.keep h.oc hg, h.ab.grown hv (fun k hk => (h.ob.ge k hk).2), h.ac.grown hv (fun k hk => (h.oc.ge k hk).2), h.bc, grown_below h.bel hg h.sz (fun k hk => (h.oa.ge k hk).1), Nat.le_trans h.sz hg.size⟩
theorem T3.app2 {w : World} {base : Nat} {a b c b' : Value} {la lb lc lb' : List Nat} {w1 w2 : World} (h : T3 w base a b c la lb lc w1) (h1 : OwnB w2 base b' lb') (hg : w1.grownBy w2 b.ownBlock) (hv : b'.ownBlock = b.ownBlock ∨ b'.ownBlock = some w1.heap.size) : T3 w base a b' c la lb' lc w2 :=
  ⟨h.ab.symm.keep h.oa hg, h1, h.bc.keep h.oc hg, (h.ab.symm.grown hv (fun k hk => (h.oa.ge k hk).2)).symm, h.ac, h.bc.grown hv (fun k hk => (h.oc.ge k hk).2), grown_below h.bel hg h.sz (fun k hk => (h.ob.ge k hk).1), Nat.le_trans h.sz hg.size⟩
/-- the third row is made anew, in a block that was not there -/
theorem T3.new3 {w : World} {base g : Nat} {a b c c' v : Value} {la lb lc lc' : List Nat} {w1 w2 : World} (h : T3 w base a b c la lb lc w1) (h1 : OwnB w2 base c' lc') (hg : w1.grownBy w2 v.ownBlock) (hv : c'.ownBlock = v.ownBlock ∨ c'.ownBlock = some w1.heap.size) (hvb : v.ownBlock = some g) (ha : ∀ k, a.ownBlock = some k → k < g) (hb : ∀ k, b.ownBlock = some k → k < g) (hgb : base ≤ g) : T3 w base a b c' la lb lc' w2 := by
  have aa : Apart v a := fun k h1 h2 => by rw [hvb] at h1; injection h1 with h1; have := ha k h2; omega
  have ab : Apart v b := fun k h1 h2 => by rw [hvb] at h1; injection h1 with h1; have := hb k h2; omega
  exact ⟨aa.keep h.oa hg, ab.keep h.ob hg, h1, h.ab, (aa.grown hv (fun k hk => (h.oa.ge k hk).2)).symm, (ab.grown hv (fun k hk => (h.ob.ge k hk).2)).symm, grown_below h.bel hg h.sz (fun k hk => by rw [hvb] at hk; injection hk with hk; omega), Nat.le_trans h.sz hg.size⟩
theorem OwnB.rd {w : World} {base m c : Nat} {A : Option Addr} {l : List Nat} (h : OwnB w base (.slice A m c) l) : Blocks w A m l := by
  obtain ⟨A', c', e, hB⟩ := h.blocks
  injection e with e1 e2 e3
  subst e1 e2
  exact hB
theorem below_alloc1 (w : World) (o : Obj) : Below w.heap.size w (w.alloc o) := (Below.refl _ _).alloc (Nat.le_refl _) _
theorem below_put (w : World) (o : Obj) (c : Array Value) : Below w.heap.size w ((w.alloc o).setRow w.heap.size c) := below_setRow (below_alloc1 w o) (Nat.le_refl _) _
set_option maxRecDepth 100000 in
set_option maxHeartbeats 4000000 in
theorem tweakSums_walk {w : World} (A : Option Addr) (n c : Nat) (ls : List (List Nat)) (_hc : n ≤ c) (hl : RowsB w A n ls) :
    Calls Try.prog 10 #[.slice A n c] w fun e w' => e = .returned (.bool true) ∧ Below w.heap.size w w' := by
  have hn := hl.2.1
  unfold maxLen at hn
  have HS := Box.mk (fun w hl => short_any A n c ls w hl)
  go_enter Try.func10, Try.ntmps10
  go_wp2_with fail
  refine (HS.out _ hl).mono ?_
  rintro e w' ⟨b, rfl, hb, rfl⟩
  cases b
  · go_wp2_with fail
    refine (awake7 _).mono ?_
    rintro e w' ⟨rfl, hbel⟩
    go_wp2_with fail
    go_ret
    exact ⟨rfl, hbel⟩
  · have hn1 : n ≤ 1000 := hb rfl
    clear hb HS
    go_wp2_with fail
    go_loopw [3, 4, 5, 6] (fun a b c i wr => ∃ (k : Nat) (la : List Nat), i = .int .i64 (k : Int) ∧ k ≤ n ∧ Box (la.length = k) ∧ T3 w w.heap.size a b c la (la.map dbl) la.reverse wr) (fun _ _ _ i _ => n - (intOf i).toNat)
    case atStart => exact ⟨0, [], rfl, by omega, ⟨rfl⟩, ⟨ownB_nil _ _, ownB_nil _ _, ownB_nil _ _, (fun g h => by cases h), (fun g h => by cases h), (fun g h => by cases h), Below.refl _ _, Nat.le_refl _⟩⟩
    case round =>
      obtain ⟨k, la, rfl, hk, HL, hT⟩ := hrel
      by_cases h1 : k < n
      · obtain ⟨ad, B, q, cq, l, rfl, hls, hcl, hq, hB⟩ := (hl.below hT.bel).2.2 k h1
        have HLS := Box.mk hls
        clear hls
        have hX := numL_lt hB.2.2.1
        have HC := Box.mk (fun w hl => block_any B q cq l w hl)
        revert hX HC
        generalize numL l = X
        intro hX HC
        obtain ⟨A3, c3, e3, _⟩ := hT.oc.blocks
        rw [List.length_reverse] at e3
        subst e3
        go_wp2_with fail
        refine (HC.out _ hB).mono ?_
        rintro e w1 ⟨rfl, hb1⟩
        have hT1 := hT.below hb1
        clear hb1 hT HC
        have hna : some w1.heap.size ≠ u3.ownBlock := fun e => by have := (hT1.oa.ge _ e.symm).2; omega
        have hnb : some w1.heap.size ≠ u4.ownBlock := fun e => by have := (hT1.ob.ge _ e.symm).2; omega
        have hb1 := hT1.sz
        have hlt := hk
        have hll := HL.out
        have HLEN : Box (la.length ≤ 1000) := ⟨by omega⟩
        clear hll
        go_wp2_with (first
        | ((with_reducible show wpList _ _ _ (⟨_, Op.store 36 (.tmp 7) (.tmp 22), _, _, _, _⟩ :: _) _ _); refine wp_store_arr rfl (.tmp 7) (.tmp 22) rfl (w1.heap.size) (fun _ => 0) (byt X) rfl rfl (Arr.zero _ _ rfl) ?_)
        | ((with_reducible show wpList _ _ _ (⟨some 24, Op.load 36 (.tmp 7), _, _, _, _⟩ :: _) _ _); have hT2 := hT1.below (below_put w1 zero16 (bv (byt X))); have hA2 : Arr ((w1.alloc zero16).setRow w1.heap.size (bv (byt X))) w1.heap.size (byt X) := (Arr.zero _ _ rfl).setRow; revert hT2 hA2; unfold zero16; generalize (w1.alloc _).setRow w1.heap.size (bv (byt X)) = w2; intro hT2 hA2; refine wp_load_arr rfl (.tmp 7) rfl (w1.heap.size) (byt X) rfl (hA2) ?_)
        | ((with_reducible show wpList _ _ _ (⟨some 25, Op.buildSlice 46 1 _, _, _, _, _⟩ :: _) _ _); refine wpList_one rfl (.tmp 24) rfl (byt X) rfl ?_)
        | ((with_reducible show wpList _ _ _ (⟨some 26, Op.call _, _, _, _, _⟩ :: _) _ _); refine wp_appB rfl (.tmp 23) (.tmp 25) rfl (w.heap.size) _ (la) rfl (hT2.oa.alloc _) (some ⟨w2.heap.size, 0, none⟩) (1) (1) ([X]) rfl (blocks_one _ _ X rfl hX) (by have := HLEN.out; omega) (by have := hT2.sz; simp; omega) ?_; intro a3 w3 h1 h2 h3; have hT3 := (hT2.below (below_alloc1 w2 _)).app1 h1 h2 h3; have hA3 := (hA2.alloc _).grown h2 hna; clear h1 h2 h3 hT2 hA2)
        | ((with_reducible show wpList _ _ _ (⟨some 28, Op.load 36 (.tmp 7), _, _, _, _⟩ :: _) _ _); refine wp_load_arr rfl (.tmp 7) rfl (w1.heap.size) (byt X) rfl (hA3) ?_))
    
        refine (double_any X hX _).mono ?_
        rintro e w4 ⟨rfl, hb4⟩
        have hT4 := hT3.below hb4
        have hA4 := hA3.below hb4 hA3.lt
        clear hT3 hA3 hb4
        go_wp2_with (first
        | ((with_reducible show wpList _ _ _ (⟨some 30, Op.buildSlice 46 1 _, _, _, _, _⟩ :: _) _ _); refine wpList_one rfl (.tmp 29) rfl (byt (dbl X)) rfl ?_)
        | ((with_reducible show wpList _ _ _ (⟨some 31, Op.call _, _, _, _, _⟩ :: _) _ _); refine wp_appB rfl (.tmp 27) (.tmp 30) rfl (w.heap.size) _ (la.map dbl) rfl (hT4.ob.alloc _) (some ⟨w4.heap.size, 0, none⟩) (1) (1) ([dbl X]) rfl (blocks_one _ _ (dbl X) rfl (dbl_lt hX)) (by rw [List.length_map]; have := HLEN.out; omega) (by have := hT4.sz; simp; omega) ?_; intro b5 w5 h1 h2 h3; have hT5 := (hT4.below (below_alloc1 w4 _)).app2 h1 h2 h3; have hA5 := (hA4.alloc _).grown h2 hnb; clear h1 h2 h3 hT4 hA4)
        | ((with_reducible show wpList _ _ _ (⟨some 32, Op.load 36 (.tmp 7), _, _, _, _⟩ :: _) _ _); refine wp_load_arr rfl (.tmp 7) rfl (w1.heap.size) (byt X) rfl (hA5) ?_)
        | ((with_reducible show wpList _ _ _ (⟨some 33, Op.buildSlice 46 1 _, _, _, _, _⟩ :: _) _ _); refine wpList_one rfl (.tmp 32) rfl (byt X) rfl ?_)
        | ((with_reducible show wpList _ _ _ (⟨some 35, Op.call _, _, _, _, _⟩ :: _) _ _); refine wp_appB rfl (.tmp 33) (.tmp 34) rfl (w.heap.size) _ ([X]) rfl (ownB_one w5 w.heap.size w5.heap.size X rfl hT5.sz hX) (A3) (la.length) (c3) (la.reverse) rfl ((hT5.oc.rd).alloc _) (by have := HLEN.out; simp; omega) (by have := hT5.sz; simp; omega) ?_; intro c6 w6 h1 h2 h3; have hT6 := (hT5.below (below_alloc1 w5 _)).new3 h1 h2 h3 rfl (fun k hk => (hT5.oa.ge k hk).2) (fun k hk => (hT5.ob.ge k hk).2) hT5.sz; clear h1 h2 h3 hT5 hA5))
    
        go_roundw
        case rel => exact ⟨k + 1, la ++ [X], by go_num, by omega, ⟨by simp [HL.out]⟩, by rw [List.map_append, List.reverse_append]; exact hT6⟩
        case measure => simp [intOf]; omega
      · obtain rfl : k = n := by omega
        obtain ⟨A1, c1, e1, _⟩ := hT.oa.blocks
        obtain ⟨A2, c2, e2, _⟩ := hT.ob.blocks
        obtain ⟨A3, c3, e3, _⟩ := hT.oc.blocks
        rw [List.length_reverse] at e3
        rw [List.length_map] at e2
        subst e1 e2 e3
        have hx := nsum_lt la hT.oa.2.2
        have hll := HL.out
        have HLEN : Box (la.length ≤ 1000) := ⟨by omega⟩
        clear hll
        have HD := Box.mk (nsum_dbl la hT.oa.2.2)
        go_wp2_with fail
        refine (xor_any A1 _ c1 la _ hT.oa.rd).mono ?_
        rintro e w1 ⟨rfl, hb1⟩
        have hT1 := hT.below hb1
        clear hT hb1
        go_wp2_with fail
        refine (double_any (nsum la) hx _).mono ?_
        rw [HD.out]
        rintro e w2 ⟨rfl, hb2⟩
        have hT2 := hT1.below hb2
        clear hT1 hb2
        go_wp2_with fail
        refine (xor_any A2 _ c2 (la.map dbl) _ hT2.ob.rd).mono ?_
        rintro e w3 ⟨rfl, hb3⟩
        have hT3 := hT2.below hb3
        clear hT2 hb3
        go_wp2_with (first
        | ((with_reducible show wpList _ _ _ (⟨some 41, Op.binOp BinOp.eql 36 (.tmp 38) (.tmp 40) 36, _, _, _, _⟩ :: _) _ _); refine wpList_same rfl (.tmp 38) (.tmp 40) rfl (byt (nsum (la.map dbl))) rfl rfl ?_))
    
        refine (xor_any A1 _ c1 la _ hT3.oa.rd).mono ?_
        rintro e w4 ⟨rfl, hb4⟩
        have hT4 := hT3.below hb4
        clear hT3 hb4
        go_wp2_with fail
        refine (xor_any A3 _ c3 la.reverse _ hT4.oc.rd).mono ?_
        rw [nsum_reverse]
        rintro e w5 ⟨rfl, hb5⟩
        have hT5 := hT4.below hb5
        clear hT4 hb5
        go_wp2_with (first
        | ((with_reducible show wpList _ _ _ (⟨some 47, Op.binOp BinOp.eql 36 (.tmp 44) (.tmp 46) 36, _, _, _, _⟩ :: _) _ _); refine wpList_unguard (by kernel_rfl) ?_; refine wpList_same rfl (.tmp 44) (.tmp 46) rfl (byt (nsum la)) rfl rfl ?_)
        | ((with_reducible show wpList _ _ _ (⟨some 52, Op.call _, _, _, _, _⟩ :: _) _ _); refine wpList_unguard (by kernel_rfl) ?_; refine wp_appB rfl (.tmp 50) (.tmp 51) rfl w.heap.size _ la rfl hT5.oa A1 la.length c1 la rfl hT5.oa.rd (by have := HLEN.out; omega) hT5.sz ?_; intro a6 w6 h1 h2 h3; have hT6 := hT5.app1 h1 h2 h3; clear h1 h2 h3 hT5; obtain ⟨A6, c6, e6, _⟩ := hT6.oa.blocks; rw [List.length_append] at e6; subst e6))
    
        refine (xor_any A6 _ c6 (la ++ la) _ hT6.oa.rd).mono ?_
        rw [nsum_twice]
        rintro e w7 ⟨rfl, hb7⟩
        have hT7 := hT6.below hb7
        clear hT6 hb7
        go_wp2_with (first
        | ((with_reducible show wpList _ _ _ (⟨some 54, Op.build 36 #[], _, _, _, _⟩ :: _) _ _); refine wpList_unguard (by kernel_rfl) ?_; refine wpList_noughts rfl rfl ?_)
        | ((with_reducible show wpList _ _ _ (⟨some 55, Op.binOp BinOp.eql 36 (.tmp 53) (.tmp 54) 36, _, _, _, _⟩ :: _) _ _); refine wpList_unguard (by kernel_rfl) ?_; refine wpList_same rfl (.tmp 53) (.tmp 54) rfl (byt 0) rfl rfl ?_))
    
        refine (awake7 _).mono ?_
        rintro e w8 ⟨rfl, hb8⟩
        go_wp2_with fail
        go_ret
        exact ⟨rfl, hT7.bel.trans (hb8.mono hT7.sz)⟩
end Go.Proofs.Ytibfihjcjohadaa
