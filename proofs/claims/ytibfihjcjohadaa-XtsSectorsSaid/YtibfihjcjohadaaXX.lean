/-
  The walk of the reference's Xts, either way. Conditions: what may be, or is refused.
-/
import Derived.Test.YtibfihjcjohadaaXR
import Derived.Test.YtibfihjcjohadaaXK
namespace Go.Proofs.Ytibfihjcjohadaa
open Go.RowKit Go.Op
open Aes (words words_len)
open Twk (byt byt_xor xor_lt128)
theorem wpo_appA {o : Oper} {a : Act} {w : World} {K : Act → World → Prop} {Q : Exit → Act → World → Prop} (s x : Operand)
    (ho : o.op = .call { callee := .builtin .append, args := #[s, x], argTypes := #[29, 29] })
    (base : Nat) (v : Value) (l : List Nat) (hs : a.eval s = v) (hown : Own w base v l)
    (A : Option Addr) (m c : Nat) (news : List Nat) (hx : a.eval x = .slice A m c) (hnews : Bytes w A m news) (hlen : l.length + m ≤ 1099511627776) (hbase : base ≤ w.heap.size)
    (h : ∀ v' w', Own w' base v' (l ++ news) → w.grownBy w' v.ownBlock → (v'.ownBlock = v.ownBlock ∨ v'.ownBlock = some w.heap.size) → K (a.put o.dst v') w') : o.wp Try.prog a w K Q := by
  obtain ⟨v', w', hr, h2, h3, h5⟩ := run_appA w o.type base v l hown A m c news hnews hlen hbase
  unfold Oper.wp execOp
  simp only [ho, resolve, invoke, builtin, Sem.run_bind, Sem.run_pure, Result.andThen_ok, List.map_toArray, List.map_cons, List.map_nil, hs, hx, hr]
  exact h v' w' h2 h3 h5
theorem Own.setRow {w : World} {base g : Nat} {v : Value} {l : List Nat} (h : Own w base v l) (hne : v.ownBlock ≠ some g) (c : Array Value) : Own (w.setRow g c) base v l :=
  h.kept (row := some g) ⟨rfl, rfl, rfl, by simp [World.setRow], fun i _ hi => by
    simp only [World.setRow]
    rw [Array.getElem?_modify, if_neg (fun e => hi (by rw [e]))]⟩ (.inr hne)
/-- what the region reads that adds a byte of the data and one of a tweak -/
structure S71 (p p2 : Addr) (g j x t : Nat) (w' : World) : Prop where
  cx : w'.cell? p = some (.int .u8 (x : Int))
  cy : w'.cell? p2 = some (.int .u8 (t : Int))
  cb : w'.cell? ⟨g, j, none⟩ = some (.int .u8 0)
  fb : w'.frozen? ⟨g, j, none⟩ = false
/-- what the region reads that adds a byte of a block and one of a tweak -/
structure S72 (g j y : Nat) (p : Addr) (t : Nat) (w' : World) : Prop where
  cy : w'.cell? ⟨g, j, none⟩ = some (.int .u8 (y : Int))
  cx : w'.cell? p = some (.int .u8 (t : Int))
theorem S72.alloc {g j y t : Nat} {p : Addr} {w : World} (h : S72 g j y p t w) (o : Obj) : S72 g j y p t (w.alloc o) := by
  have hb : Below w.heap.size w (w.alloc o) := (Below.refl _ _).alloc (Nat.le_refl _) _
  exact ⟨(hb.cell (World.block_lt_of_cell? _ _ h.cy)).trans h.cy, (hb.cell (World.block_lt_of_cell? _ _ h.cx)).trans h.cx⟩
theorem take_snoc {f : Nat → Nat} {j : Nat} (hj : j < 16) : (listB f).take (j + 1) = (listB f).take j ++ [f j] := by
  rw [List.take_succ_eq_append_getElem (by rw [listB_len]; exact hj)]
  congr 1
  have h := listB_get (f := f) hj
  rw [List.getD_eq_getElem?_getD, List.getElem?_eq_getElem (by rw [listB_len]; exact hj)] at h
  simpa using h
/-- what is refused -/
def NoRowB (w : World) (e : Ending) (w' : World) : Prop := e = .returned (.tuple #[.slice none 0 0, .bool false]) ∧ Below w.heap.size w w'
/-- a row that is told, and that it may be -/
def YesRowB (l : List Nat) (n : Nat) (w : World) (e : Ending) (w' : World) : Prop := ∃ A c, e = .returned (.tuple #[.slice A n c, .bool true]) ∧ Own w' w.heap.size (.slice A n c) l ∧ n ≤ c ∧ Below w.heap.size w w'
set_option maxRecDepth 100000 in
set_option maxHeartbeats 1000000 in
theorem rxts_noA (X : Nat) (A : Option Addr) (n c : Nat) (u : Int) (B : Option Addr) (m c1 : Nat) (b : Bool) (w : World) (h : ¬ MayX n u) :
    Calls Try.prog 71 #[.pointer (some ⟨X, 0, none⟩), .slice A n c, .int .i64 u, .slice B m c1, .bool b] w (NoRowB w) := by
  have HM := Box.mk (fun w => rmay_no A n c u w h)
  clear h
  go_enter Try.func71, Try.ntmps71
  go_wp2_with fail
  refine (HM.out _).mono ?_
  rintro e w1 ⟨rfl, rfl⟩
  go_wp2_with fail
  go_ret2
  exact ⟨rfl, Below.refl _ _⟩
set_option maxRecDepth 100000 in
set_option maxHeartbeats 1000000 in
theorem rxts_noB (X : Nat) (A : Option Addr) (n c : Nat) (u : Int) (B : Option Addr) (m c1 : Nat) (b : Bool) (w : World) (h : MayX n u) (h1 : ((m : Int) % 16 != 0) = true) :
    Calls Try.prog 71 #[.pointer (some ⟨X, 0, none⟩), .slice A n c, .int .i64 u, .slice B m c1, .bool b] w (NoRowB w) := by
  have HM := Box.mk (fun w => rmay_yes A n c u w h)
  clear h
  go_enter Try.func71, Try.ntmps71
  go_wp2_with fail
  refine (HM.out _).mono ?_
  rintro e w1 ⟨rfl, rfl⟩
  go_wp2_with fail
  go_ret2
  exact ⟨rfl, Below.refl _ _⟩
set_option maxRecDepth 100000 in
set_option maxHeartbeats 1000000 in
theorem rxts_noC (X : Nat) (A : Option Addr) (n c : Nat) (u : Int) (B : Option Addr) (m c1 : Nat) (b : Bool) (w : World) (h : MayX n u) (h1 : ((m : Int) % 16 != 0) = false) (h2 : 4096 < m) :
    Calls Try.prog 71 #[.pointer (some ⟨X, 0, none⟩), .slice A n c, .int .i64 u, .slice B m c1, .bool b] w (NoRowB w) := by
  have HM := Box.mk (fun w => rmay_yes A n c u w h)
  clear h
  go_enter Try.func71, Try.ntmps71
  go_wp2_with fail
  refine (HM.out _).mono ?_
  rintro e w1 ⟨rfl, rfl⟩
  go_wp2_with fail
  go_ret2
  exact ⟨rfl, Below.refl _ _⟩
theorem rxts_no (X : Nat) (A : Option Addr) (n c : Nat) (u : Int) (B : Option Addr) (m c1 : Nat) (b : Bool) (w : World) (h : ¬ MayD n u m) : Calls Try.prog 71 #[.pointer (some ⟨X, 0, none⟩), .slice A n c, .int .i64 u, .slice B m c1, .bool b] w (NoRowB w) := by
  unfold MayD at h
  by_cases h1 : MayX n u
  · by_cases h2 : m % 16 = 0
    · exact rxts_noC X A n c u B m c1 b w h1 (by simp; omega) (Nat.lt_of_not_le fun h5 => h ⟨h1, h2, h5⟩)
    · exact rxts_noB X A n c u B m c1 b w h1 (by simp; omega)
  · exact rxts_noA X A n c u B m c1 b w h1
set_option maxRecDepth 100000 in
set_option maxHeartbeats 8000000 in
theorem rxts_e32 (X : Nat) (ad0 : Addr) (c : Nat) (l : List Nat) (u : Nat) (B : Option Addr) (m c1 : Nat) (d : List Nat) (w : World) (hl : Bytes w (some ad0) 32 l) (hc : 32 ≤ c) (hd : Bytes w B m d) (_hc1 : m ≤ c1) (hM : MayX 32 (u : Int)) (hm16 : m % 16 = 0) (hm2 : m ≤ 4096) (hX : BoxM w X) :
    Calls Try.prog 71 #[.pointer (some ⟨X, 0, none⟩), .slice (some ad0) 32 c, .int .i64 (u : Int), .slice B m c1, .bool false] w (YesRowB (xtL false (half1 l) (half2 l) u d (m / 16)) m w) := by
  obtain ⟨nb, hnb⟩ : ∃ nb, m / 16 = nb := ⟨_, rfl⟩
  rw [hnb]
  have HNB : Box (m = 16 * nb) := ⟨by omega⟩
  have hni : (m : Int) / 16 = (nb : Int) := by omega
  have hnbl : nb ≤ 256 := by omega
  have a2 : ((m : Int) % 16 != 0) = false := by simp; omega
  have hk1 : MayK (half1 l).length := half1_may (by rw [hl.1]; exact hM.1)
  have HM := Box.mk (fun w => rmay_yes (some ad0) 32 c (u : Int) w hM)
  have HTW : Box (∀ (w : World), Bytes w (some ad0) 32 l → BoxM w X → Calls Try.prog 75 #[.pointer (some ⟨X, 0, none⟩), .slice (some ad0) 32 c, .int .i64 (u : Int), .int .i64 (nb : Int)] w (TwQ (half2 l) u nb w)) := ⟨fun w h hX => rtw_any X (some ad0) 32 c l u nb w h hc hM (by omega) hX⟩
  have HN1 : Box (∀ (w : World), Bytes w (some ad0) 32 l → BoxM w X → Calls Try.prog 63 #[.pointer (some ⟨X, 0, none⟩), .slice (some ad0) 16 c] w fun e w' => RnewQ (half1 l) X w e w') := ⟨fun w h hX => by
    have e1 : half1 l = l.take 16 := by unfold half1; rw [hl.1]
    rw [e1]
    exact rnew_any X _ 16 c (l.take 16) _ (h.take (by decide)) hX (by decide)⟩
  generalize half1 l = k1 at hk1 HN1 ⊢
  generalize half2 l = k2 at HTW ⊢
  have HF0 : Box (∀ (C x : Nat) (w : World), Rciph w C X (words k1) → Calls Try.prog 66 #[.pointer (some ⟨C, 0, none⟩), .agg (bv (byt x))] w fun e w' => e = .returned (.agg (bv (byt (encN k1 x)))) ∧ Below w.heap.size w w') := ⟨fun C x w h => rencN C X k1 x hk1 w h⟩
  clear hnb hk1 hM
  go_enter Try.func71, Try.ntmps71
  go_wp2_with fail
  refine (HM.out _).mono ?_
  rintro e w1 ⟨rfl, rfl⟩
  go_wp2_with fail
  refine (HN1.out _ hl hX).mono ?_
  rintro e w2 ⟨C, rfl, hC, hb2, _⟩
  go_wp2_with fail
  refine (HTW.out _ (hl.below hb2) (hX.below hb2 hX.lt)).mono ?_
  rintro e w5 ⟨vt, rfl, hT, hb5⟩
  have hC := hC.below hb5
  have hw5 := hb2.trans (hb5.mono hb2.size)
  have hd5 := hd.below hw5
  obtain ⟨At, ct, hvt, hTb⟩ := hT.blocks
  subst hvt
  rw [twL_len] at hTb ⊢
  clear hT hb2 hb5 hl hX hd HM HN1 HTW
  go_wp2_with fail
  go_loopw [14, 15, 16, 17, 18] (fun o i _a _b _c wr => ∃ (k : Nat), i = .int .i64 (k : Int) ∧ k ≤ nb ∧ Own wr w5.heap.size o (xtL false k1 k2 u d k) ∧ Below w5.heap.size w5 wr) (fun _ i _ _ _ _ => nb - (intOf i).toNat)
  case atStart => exact ⟨0, rfl, by omega, own_nil _ _, Below.refl _ _⟩
  case round =>
    obtain ⟨k, rfl, hk, hO, hB⟩ := hrel
    have hO : Own wr w5.heap.size u14 (xtL false k1 k2 u d k) := hO
    by_cases hkn : k = nb
    · subst hkn
      have hO2 : Own wr w.heap.size _ _ := hO.le hw5.size
      obtain ⟨Ao, co, hvo⟩ := hO2.form
      subst hvo
      rw [xtL_len] at hO2 ⊢
      have hcap := hO2.cap
      have hm' := HNB.out
      clear hO
      go_wp2_with fail
      go_ret2
      rw [← hm'] at hO2 hcap ⊢
      exact ⟨_, _, rfl, hO2, hcap, hw5.trans (hB.mono hw5.size)⟩
    · have hk2 : k < nb := by omega
      clear hkn
      have hdk : decide ((k : Int) < (nb : Int)) = true := decide_eq_true (by omega)
      have hm0 : 0 < m := by have := HNB.out; omega
      obtain ⟨ad, hBe, _⟩ := hd5.2.2.2 hm0
      subst hBe
      obtain ⟨tb, ot, t, hAt, htd, htl, _, _⟩ := (hTb.below hB).at_ hk2
      subst hAt
      have HTD := Box.mk htd
      have htw : twN k2 u k = t := by rw [← twL_get k2 u hk2]; exact htd
      have hdl := hd5.2.2.1
      obtain ⟨x, hx⟩ : ∃ x, datN d k = x := ⟨_, rfl⟩
      have hxl : x < 2 ^ 128 := by rw [← hx]; exact datN_lt hdl k
      have HXJ : Box (∀ j, j < 16 → d.getD (16 * k + j) 0 = byt x j) := ⟨fun j hj => by rw [← hx, datN, byt_numF (datF_lt hdl k) 16 j hj]; rfl⟩
      have hoB : ∀ b, u14.ownBlock = some b → b < wr.heap.size := fun b h => (hO.ge b h).2
      have HXL : Box (xtL false k1 k2 u d (k + 1) = xtL false k1 k2 u d k ++ listB (byt (encN k1 (x ^^^ t) ^^^ t))) := ⟨by rw [xtL]; unfold xtB; rw [hx, htw]; rfl⟩
      obtain ⟨ol, hol⟩ : ∃ ol, xtL false k1 k2 u d k = ol := ⟨_, rfl⟩
      have HOL : Box (ol.length ≤ 4096) := ⟨by rw [← hol, xtL_len]; omega⟩
      rw [hol] at hO HXL
      have hO : Own wr w5.heap.size u14 ol := hO
      have HDL := Box.mk hdl
      clear hx htd htw hol hdl
      go_wp2_with fail
      obtain ⟨wo, rfl⟩ : ∃ wo : World, wo = wr := ⟨_, rfl⟩
      obtain ⟨g, hg⟩ : ∃ g, g = wo.heap.size := ⟨_, rfl⟩
      have hA0 : Arr (wo.alloc (.cells #[.int .u8 0, .int .u8 0, .int .u8 0, .int .u8 0, .int .u8 0, .int .u8 0, .int .u8 0, .int .u8 0, .int .u8 0, .int .u8 0, .int .u8 0, .int .u8 0, .int .u8 0, .int .u8 0, .int .u8 0, .int .u8 0] 36)) g (fun _ => 0) := Arr.zero _ _ hg
      have hB0 : Below wo.heap.size wo (wo.alloc (.cells #[.int .u8 0, .int .u8 0, .int .u8 0, .int .u8 0, .int .u8 0, .int .u8 0, .int .u8 0, .int .u8 0, .int .u8 0, .int .u8 0, .int .u8 0, .int .u8 0, .int .u8 0, .int .u8 0, .int .u8 0, .int .u8 0] 36)) := (Below.refl _ _).alloc (Nat.le_refl _) _
      rw [← hg]
      have HG := Box.mk hg
      clear hg
      go_loopw [17] (fun i wr => ∃ (j : Nat) (h : Nat → Nat), i = .int .i64 (j : Int) ∧ j ≤ 16 ∧ Box (∀ i, h i = if i < j then byt x i ^^^ byt t i else 0) ∧ Arr wr g h ∧ Below wo.heap.size wo wr) (fun i _ => 16 - (intOf i).toNat)
      case atStart => exact ⟨0, fun _ => 0, rfl, by omega, ⟨fun i => by simp⟩, hA0, hB0⟩
      case round =>
        clear hA0 hB0
        obtain ⟨j, h, rfl, hj, H, hA, hB1⟩ := hrel
        by_cases hj16 : j = 16
        · subst hj16
          have hA2 : Arr wr g (byt (x ^^^ t)) := hA.congr fun i hi => by rw [H.out i, if_pos hi, byt_xor]
          have hBr := hB.trans (hB1.mono hB.size)
          have HF : Box (∀ (w : World), Rciph w C X (words k1) → Calls Try.prog 66 #[.pointer (some ⟨C, 0, none⟩), .agg (bv (byt (x ^^^ t)))] w fun e w' => e = .returned (.agg (bv (byt (encN k1 (x ^^^ t))))) ∧ Below w.heap.size w w') := ⟨fun w h => HF0.out C (x ^^^ t) w h⟩
          obtain ⟨y, hy⟩ : ∃ y, encN k1 (x ^^^ t) = y := ⟨_, rfl⟩
          rw [hy] at HF HXL
          have hO2 := hO.below hB1 (Nat.le_refl _)
          have hgw : w5.heap.size ≤ g := by rw [HG.out]; exact hB.size
          clear hA H hy hB1 hB
          go_wp2_with (first
              | ((with_reducible show wpList _ _ _ (⟨some 79, Op.load 36 (.tmp 16), _, _, _, _⟩ :: _) _ _); refine wp_load_arr rfl (.tmp 16) rfl (g) (byt (x ^^^ t)) rfl (hA2) ?_))
          refine (HF.out _ (hC.below hBr)).mono ?_
          rintro e w6 ⟨rfl, hb6⟩
          have hA3 := hA2.below hb6 hA2.lt
          have hO3 := hO2.below hb6 (Nat.le_refl _)
          have hB6 := hBr.trans (hb6.mono hBr.size)
          clear hA2 hO2 hBr hb6 HF
          go_wp2_with (first
              | ((with_reducible show wpList _ _ _ (⟨_, Op.store 36 (.tmp 16) (.tmp 80), _, _, _, _⟩ :: _) _ _); refine wp_store_arr rfl (.tmp 16) (.tmp 80) rfl (g) (byt (x ^^^ t)) (byt y) rfl rfl (hA3) ?_))
          have hA4 : Arr (w6.setRow g (bv (byt y))) g (byt y) := hA3.setRow
          have hO4 := hO3.setRow (g := g) (fun h => by have := hoB _ h; have := HG.out; omega) (bv (byt y))
          have hB7 := below_setRow hB6 hgw (bv (byt y))
          revert hA4 hO4 hB7
          generalize w6.setRow g (bv (byt y)) = w7
          intro hA4 hO4 hB7
          clear hA3 hO3 hB6
          go_loopw [14, 18] (fun o i wr => ∃ (j : Nat), i = .int .i64 (j : Int) ∧ j ≤ 16 ∧ Own wr w5.heap.size o (ol ++ (listB (byt (y ^^^ t))).take j) ∧ Arr wr g (byt y) ∧ (∀ b, o.ownBlock = some b → b ≠ g) ∧ Below w5.heap.size w5 wr) (fun _ i _ => 16 - (intOf i).toNat)
          case atStart => exact ⟨0, rfl, by omega, by simpa using hO4, hA4, fun b h => by have := hoB _ h; have := HG.out; omega, hB7⟩
          case round =>
            clear hA4 hO4 hB7 hoB hO
            obtain ⟨j, rfl, hj, hO, hA, hob, hB⟩ := hrel
            have hO : Own wr w5.heap.size u14 (ol ++ (listB (byt (y ^^^ t))).take j) := hO
            by_cases hj16 : j = 16
            · subst hj16
              rw [show (listB (byt (y ^^^ t))).take 16 = listB (byt (y ^^^ t)) from List.take_of_length_le (by rw [listB_len]; exact Nat.le_refl _), ← HXL.out] at hO
              go_wp2_with fail
              go_roundw
              case rel => exact ⟨k + 1, by go_num, by omega, hO, hB⟩
              case measure => simp [intOf]; omega
            · have hj2 : j < 16 := by omega
              clear hj16
              obtain ⟨ol2, hol2⟩ : ∃ l, ol ++ (listB (byt (y ^^^ t))).take j = l := ⟨_, rfl⟩
              have HOL2 : Box (ol2.length ≤ 5000) := ⟨by rw [← hol2, List.length_append, List.length_take, listB_len]; have := HOL.out; omega⟩
              obtain ⟨y1, hy1⟩ : ∃ y1, byt y j = y1 := ⟨_, rfl⟩
              obtain ⟨t1, ht1⟩ : ∃ t1, byt t j = t1 := ⟨_, rfl⟩
              have hy1l : y1 < 256 := by rw [← hy1]; exact Twk.byt_lt _ _
              have ht1l : t1 < 256 := by rw [← ht1]; exact Twk.byt_lt _ _
              have hyt : y1 ^^^ t1 < 256 := xor_lt' hy1l ht1l
              have hxr := u8_xor_nat y1 t1 hy1l ht1l
              have HZ : Box (ol2 ++ [y1 ^^^ t1] = ol ++ (listB (byt (y ^^^ t))).take (j + 1)) := ⟨by rw [take_snoc hj2, byt_xor, hy1, ht1, ← hol2, List.append_assoc]⟩
              have hcb := hA.cell (k := j) hj2
              rw [hy1] at hcb
              have hcy := (hTb.below hB).cellAt hk2 HTD.out hj2
              rw [add_off] at hcy
              rw [ht1] at hcy
              rw [hol2] at hO
              have hO : Own wr w5.heap.size u14 ol2 := hO
              have hSS : S72 g j y1 ⟨tb, ot + k * 16 + j, none⟩ t1 wr.drew := ⟨hcb, hcy⟩
              have HY1 := Box.mk hy1
              have HT1 := Box.mk ht1
              clear hol2 hy1 ht1 hcb hcy
              go_wp2_with fail
              refine wp_region_Z 13 13 (S72 g j y1 ⟨tb, ot + k * 16 + j, none⟩ t1) (fun _ => True) (by kernel_rfl) ?_
              have hS : _ ∧ True := ⟨hSS, trivial⟩
              refine wpAnyZ_any (i := 0) (oi := ⟨some 85, _, _, _, _, _⟩) (v := u14) rfl (by kernel_rfl) (by kernel_rfl) (by kernel_rfl) (by kernel_rfl) (fun _ _ _ h => h) (Or.inl ⟨by kernel_rfl, fun w' _ => ?_⟩) ⟨.inr hS.1, .inr hS.2⟩ ?_
              · go_simp
              simp only [Act.put, List.setIfInBounds_toArray, List.set_cons_zero, List.set_cons_succ]
              refine wpAnyZ_any (i := 1) (oi := ⟨some 86, _, _, _, _, _⟩) (v := .int .i64 (j : Int)) rfl (by kernel_rfl) (by kernel_rfl) (by kernel_rfl) (by kernel_rfl) (fun _ _ _ h => h) (Or.inl ⟨by kernel_rfl, fun w' _ => ?_⟩) ⟨.inr hS.1, .inr hS.2⟩ ?_
              · go_simp
              simp only [Act.put, List.setIfInBounds_toArray, List.set_cons_zero, List.set_cons_succ]
              refine wpAnyZ_any (i := 2) (oi := ⟨some 87, _, _, _, _, _⟩) (v := .pointer (some ⟨g, j, none⟩)) rfl (by kernel_rfl) (by kernel_rfl) (by kernel_rfl) (by kernel_rfl) (fun _ _ _ h => h) (Or.inl ⟨by kernel_rfl, fun w' _ => ?_⟩) ⟨.inr hS.1, .inr hS.2⟩ ?_
              · go_simp
              simp only [Act.put, List.setIfInBounds_toArray, List.set_cons_zero, List.set_cons_succ]
              refine wpAnyZ_take (i := 3) (oi := ⟨some 88, _, _, _, _, _⟩) (v := .int .u8 (y1 : Int)) rfl (by kernel_rfl) (by kernel_rfl) (by kernel_rfl) (by kernel_rfl) (fun _ _ _ h => h) (Or.inl ⟨by kernel_rfl, fun w' hSw => ?_⟩) hS ?_
              · (have c := hSw.cy; go_simp)
              simp only [Act.put, List.setIfInBounds_toArray, List.set_cons_zero, List.set_cons_succ]
              refine wpAnyZ_any (i := 4) (oi := ⟨some 89, _, _, _, _, _⟩) (v := .slice (some ⟨tb, ot, none⟩) nb ct) rfl (by kernel_rfl) (by kernel_rfl) (by kernel_rfl) (by kernel_rfl) (fun _ _ _ h => h) (Or.inl ⟨by kernel_rfl, fun w' _ => ?_⟩) ⟨.inr hS.1, .inr hS.2⟩ ?_
              · go_simp
              simp only [Act.put, List.setIfInBounds_toArray, List.set_cons_zero, List.set_cons_succ]
              refine wpAnyZ_any (i := 5) (oi := ⟨some 90, _, _, _, _, _⟩) (v := .int .i64 (k : Int)) rfl (by kernel_rfl) (by kernel_rfl) (by kernel_rfl) (by kernel_rfl) (fun _ _ _ h => h) (Or.inl ⟨by kernel_rfl, fun w' _ => ?_⟩) ⟨.inr hS.1, .inr hS.2⟩ ?_
              · go_simp
              simp only [Act.put, List.setIfInBounds_toArray, List.set_cons_zero, List.set_cons_succ]
              refine wpAnyZ_any (i := 6) (oi := ⟨some 91, _, _, _, _, _⟩) (v := .int .i64 (j : Int)) rfl (by kernel_rfl) (by kernel_rfl) (by kernel_rfl) (by kernel_rfl) (fun _ _ _ h => h) (Or.inl ⟨by kernel_rfl, fun w' _ => ?_⟩) ⟨.inr hS.1, .inr hS.2⟩ ?_
              · go_simp
              simp only [Act.put, List.setIfInBounds_toArray, List.set_cons_zero, List.set_cons_succ]
              refine wpAnyZ_any (i := 7) (oi := ⟨some 92, _, _, _, _, _⟩) (v := .pointer (some ⟨tb, ot + k * 16, none⟩)) rfl (by kernel_rfl) (by kernel_rfl) (by kernel_rfl) (by kernel_rfl) (fun _ _ _ h => h) (Or.inl ⟨by kernel_rfl, fun w' _ => ?_⟩) ⟨.inr hS.1, .inr hS.2⟩ ?_
              · go_simp
              simp only [Act.put, List.setIfInBounds_toArray, List.set_cons_zero, List.set_cons_succ]
              refine wpAnyZ_any (i := 8) (oi := ⟨some 93, _, _, _, _, _⟩) (v := .pointer (some ⟨tb, ot + k * 16 + j, none⟩)) rfl (by kernel_rfl) (by kernel_rfl) (by kernel_rfl) (by kernel_rfl) (fun _ _ _ h => h) (Or.inl ⟨by kernel_rfl, fun w' _ => ?_⟩) ⟨.inr hS.1, .inr hS.2⟩ ?_
              · go_simp
              simp only [Act.put, List.setIfInBounds_toArray, List.set_cons_zero, List.set_cons_succ]
              refine wpAnyZ_take (i := 9) (oi := ⟨some 94, _, _, _, _, _⟩) (v := .int .u8 (t1 : Int)) rfl (by kernel_rfl) (by kernel_rfl) (by kernel_rfl) (by kernel_rfl) (fun _ _ _ h => h) (Or.inl ⟨by kernel_rfl, fun w' hSw => ?_⟩) hS ?_
              · (have c := hSw.cx; go_simp)
              simp only [Act.put, List.setIfInBounds_toArray, List.set_cons_zero, List.set_cons_succ]
              refine wpAnyZ_any (i := 10) (oi := ⟨some 95, _, _, _, _, _⟩) (v := .int .u8 ((y1 ^^^ t1 : Nat) : Int)) rfl (by kernel_rfl) (by kernel_rfl) (by kernel_rfl) (by kernel_rfl) (fun _ _ _ h => h) (Or.inl ⟨by kernel_rfl, fun w' _ => ?_⟩) ⟨.inr hS.1, .inr hS.2⟩ ?_
              · go_simp
              simp only [Act.put, List.setIfInBounds_toArray, List.set_cons_zero, List.set_cons_succ]
              refine wpAnyZ_one (i := 11) (o := ⟨some 96, _, _, _, _, _⟩) (by kernel_rfl) rfl (by kernel_rfl) (fun K hK => ?_)
              go_simp
              have hS := (show _ ∧ True from ⟨hS.1.alloc (.cells #[.int .u8 ((y1 ^^^ t1 : Nat) : Int)] 5), trivial⟩)
              refine hK.out _ _ ⟨.inr hS.1, .inr hS.2⟩ ?_
              clear hK K
              refine wpAnyZ_one (i := 12) (o := ⟨some 97, _, _, _, _, _⟩) (by kernel_rfl) rfl (by kernel_rfl) (fun K hK => ?_)
              refine wpo_appA (.tmp 85) (.tmp 96) rfl w5.heap.size u14 ol2 rfl ((hO.below (Below.refl _ _).drew (Nat.le_refl _)).alloc _) (some ⟨wr.heap.size, 0, none⟩) 1 1 [y1 ^^^ t1] rfl (bytes_one _ _ _ 5 rfl hyt) (by have := HOL2.out; omega) (by have := hB.size; simp; omega) ?_
              intro v2 w8 k1 k2 k3
              have hBn : Below w5.heap.size w5 w8 := grown_below (hB.drew.alloc hB.size _) k2 (by have := hB.size; simp; omega) (fun b h => (hO.ge b h).1)
              have hAn : Arr w8 g (byt y) := (hA.drewN 1 |>.alloc _).grown k2 (fun h => hob _ h.symm rfl)
              have hS97 : S72 g j y1 ⟨tb, ot + k * 16 + j, none⟩ t1 w8 := ⟨by rw [← HY1.out]; exact hAn.cell hj2, by have h := (hTb.below hBn).cellAt hk2 HTD.out hj2; rwa [add_off, HT1.out] at h⟩
              have hS := (show _ ∧ True from ⟨hS97, trivial⟩)
              refine hK.out _ _ ⟨.inr hS.1, .inr hS.2⟩ ?_
              clear hK K
              simp only [Act.put, List.setIfInBounds_toArray, List.set_cons_zero, List.set_cons_succ]
              refine wpAnyZ_one (i := 13) (o := ⟨some 14, _, _, _, _, _⟩) (by kernel_rfl) rfl (by kernel_rfl) (fun K hK => ?_)
              go_simp
              refine hK.out _ _ ⟨.inl (show _ = true by kernel_rfl), .inl (show _ = true by kernel_rfl)⟩ ?_
              clear hK K hS
              refine wpAnyZ_done (by kernel_rfl) ?_ _
              go_wp2_with fail
              have hob' : ∀ b, v2.ownBlock = some b → b ≠ g := fun b h => by
                rcases k3 with k3 | k3
                · exact hob b (by rw [← k3]; exact h)
                · rw [k3] at h
                  injection h with h
                  have := hA.lt
                  simp at h
                  omega
              go_roundw
              case rel => exact ⟨j + 1, by go_num, by omega, by rw [← HZ.out]; exact k1, hAn, hob', hBn⟩
              case measure => simp [intOf]; omega
        · have hj2 : j < 16 := by omega
          clear hj16
          obtain ⟨q, hq⟩ : ∃ q, q = 16 * k + j := ⟨_, rfl⟩
          have HQ := Box.mk hq
          have hqm : q < m := by have := HNB.out; omega
          have hqc : (q : Int) < (m : Int) := by omega
          have q0 : (0 : Int) ≤ (q : Int) := by omega
          have hkb : k ≤ 256 := by omega
          obtain ⟨x1, hx1⟩ : ∃ x1, byt x j = x1 := ⟨_, rfl⟩
          obtain ⟨t1, ht1⟩ : ∃ t1, byt t j = t1 := ⟨_, rfl⟩
          have hx1l : x1 < 256 := by rw [← hx1]; exact Twk.byt_lt _ _
          have ht1l : t1 < 256 := by rw [← ht1]; exact Twk.byt_lt _ _
          have hxr := u8_xor_nat x1 t1 hx1l ht1l
          have hBr := hB.trans (hB1.mono hB.size)
          have hcx : wr.cell? (ad.add q) = some (.int .u8 (x1 : Int)) := by
            obtain ⟨ad', e, hcc⟩ := (hd5.below hBr).2.2.2 hm0
            injection e with e
            subst e
            rw [hcc q hqm, hq, HXJ.out j hj2, hx1]
          have hcy := (hTb.below hBr).cellAt hk2 HTD.out hj2
          rw [add_off] at hcy
          rw [ht1] at hcy
          have hcb := hA.cell hj2
          rw [H.out j, if_neg (by omega)] at hcb
          have hSS : S71 (ad.add q) ⟨tb, ot + k * 16 + j, none⟩ g j x1 t1 wr.drew := ⟨hcx, hcy, hcb, hA.free j⟩
          clear hq hcx hcy hcb
          go_wp2_with fail
          refine wp_region_Z 16 16 (S71 (ad.add q) ⟨tb, ot + k * 16 + j, none⟩ g j x1 t1) (fun _ => True) (by kernel_rfl) ?_
          have hS : _ ∧ True := ⟨hSS, trivial⟩
          refine wpAnyZ_any (i := 0) (oi := ⟨some 58, _, _, _, _, _⟩) (v := .int .i64 (j : Int)) rfl (by kernel_rfl) (by kernel_rfl) (by kernel_rfl) (by kernel_rfl) (fun _ _ _ h => h) (Or.inl ⟨by kernel_rfl, fun w' _ => ?_⟩) ⟨.inr hS.1, .inr hS.2⟩ ?_
          · go_simp
          simp only [Act.put, List.setIfInBounds_toArray, List.set_cons_zero, List.set_cons_succ]
          refine wpAnyZ_any (i := 1) (oi := ⟨some 59, _, _, _, _, _⟩) (v := .slice (some ad) m c1) rfl (by kernel_rfl) (by kernel_rfl) (by kernel_rfl) (by kernel_rfl) (fun _ _ _ h => h) (Or.inl ⟨by kernel_rfl, fun w' _ => ?_⟩) ⟨.inr hS.1, .inr hS.2⟩ ?_
          · go_simp
          simp only [Act.put, List.setIfInBounds_toArray, List.set_cons_zero, List.set_cons_succ]
          refine wpAnyZ_any (i := 2) (oi := ⟨some 60, _, _, _, _, _⟩) (v := .int .i64 (k : Int)) rfl (by kernel_rfl) (by kernel_rfl) (by kernel_rfl) (by kernel_rfl) (fun _ _ _ h => h) (Or.inl ⟨by kernel_rfl, fun w' _ => ?_⟩) ⟨.inr hS.1, .inr hS.2⟩ ?_
          · go_simp
          simp only [Act.put, List.setIfInBounds_toArray, List.set_cons_zero, List.set_cons_succ]
          refine wpAnyZ_any (i := 3) (oi := ⟨some 61, _, _, _, _, _⟩) (v := .int .i64 (16 * (k : Int))) rfl (by kernel_rfl) (by kernel_rfl) (by kernel_rfl) (by kernel_rfl) (fun _ _ _ h => h) (Or.inl ⟨by kernel_rfl, fun w' _ => ?_⟩) ⟨.inr hS.1, .inr hS.2⟩ ?_
          · (go_simp; exact IntWalk.i64_in _ (by omega))
          simp only [Act.put, List.setIfInBounds_toArray, List.set_cons_zero, List.set_cons_succ]
          refine wpAnyZ_any (i := 4) (oi := ⟨some 62, _, _, _, _, _⟩) (v := .int .i64 (j : Int)) rfl (by kernel_rfl) (by kernel_rfl) (by kernel_rfl) (by kernel_rfl) (fun _ _ _ h => h) (Or.inl ⟨by kernel_rfl, fun w' _ => ?_⟩) ⟨.inr hS.1, .inr hS.2⟩ ?_
          · go_simp
          simp only [Act.put, List.setIfInBounds_toArray, List.set_cons_zero, List.set_cons_succ]
          refine wpAnyZ_any (i := 5) (oi := ⟨some 63, _, _, _, _, _⟩) (v := .int .i64 (q : Int)) rfl (by kernel_rfl) (by kernel_rfl) (by kernel_rfl) (by kernel_rfl) (fun _ _ _ h => h) (Or.inl ⟨by kernel_rfl, fun w' _ => ?_⟩) ⟨.inr hS.1, .inr hS.2⟩ ?_
          · (go_simp; rw [show 16 * (k : Int) + (j : Int) = (q : Int) by have := HQ.out; omega]; exact IntWalk.i64_in _ (by omega))
          simp only [Act.put, List.setIfInBounds_toArray, List.set_cons_zero, List.set_cons_succ]
          refine wpAnyZ_any (i := 6) (oi := ⟨some 64, _, _, _, _, _⟩) (v := .pointer (some (ad.add q))) rfl (by kernel_rfl) (by kernel_rfl) (by kernel_rfl) (by kernel_rfl) (fun _ _ _ h => h) (Or.inl ⟨by kernel_rfl, fun w' _ => ?_⟩) ⟨.inr hS.1, .inr hS.2⟩ ?_
          · go_simp
          simp only [Act.put, List.setIfInBounds_toArray, List.set_cons_zero, List.set_cons_succ]
          refine wpAnyZ_take (i := 7) (oi := ⟨some 65, _, _, _, _, _⟩) (v := .int .u8 (x1 : Int)) rfl (by kernel_rfl) (by kernel_rfl) (by kernel_rfl) (by kernel_rfl) (fun _ _ _ h => h) (Or.inl ⟨by kernel_rfl, fun w' hSw => ?_⟩) hS ?_
          · (have c := hSw.cx; go_simp)
          simp only [Act.put, List.setIfInBounds_toArray, List.set_cons_zero, List.set_cons_succ]
          refine wpAnyZ_any (i := 8) (oi := ⟨some 66, _, _, _, _, _⟩) (v := .slice (some ⟨tb, ot, none⟩) nb ct) rfl (by kernel_rfl) (by kernel_rfl) (by kernel_rfl) (by kernel_rfl) (fun _ _ _ h => h) (Or.inl ⟨by kernel_rfl, fun w' _ => ?_⟩) ⟨.inr hS.1, .inr hS.2⟩ ?_
          · go_simp
          simp only [Act.put, List.setIfInBounds_toArray, List.set_cons_zero, List.set_cons_succ]
          refine wpAnyZ_any (i := 9) (oi := ⟨some 67, _, _, _, _, _⟩) (v := .int .i64 (k : Int)) rfl (by kernel_rfl) (by kernel_rfl) (by kernel_rfl) (by kernel_rfl) (fun _ _ _ h => h) (Or.inl ⟨by kernel_rfl, fun w' _ => ?_⟩) ⟨.inr hS.1, .inr hS.2⟩ ?_
          · go_simp
          simp only [Act.put, List.setIfInBounds_toArray, List.set_cons_zero, List.set_cons_succ]
          refine wpAnyZ_any (i := 10) (oi := ⟨some 68, _, _, _, _, _⟩) (v := .int .i64 (j : Int)) rfl (by kernel_rfl) (by kernel_rfl) (by kernel_rfl) (by kernel_rfl) (fun _ _ _ h => h) (Or.inl ⟨by kernel_rfl, fun w' _ => ?_⟩) ⟨.inr hS.1, .inr hS.2⟩ ?_
          · go_simp
          simp only [Act.put, List.setIfInBounds_toArray, List.set_cons_zero, List.set_cons_succ]
          refine wpAnyZ_any (i := 11) (oi := ⟨some 69, _, _, _, _, _⟩) (v := .pointer (some ⟨tb, ot + k * 16, none⟩)) rfl (by kernel_rfl) (by kernel_rfl) (by kernel_rfl) (by kernel_rfl) (fun _ _ _ h => h) (Or.inl ⟨by kernel_rfl, fun w' _ => ?_⟩) ⟨.inr hS.1, .inr hS.2⟩ ?_
          · go_simp
          simp only [Act.put, List.setIfInBounds_toArray, List.set_cons_zero, List.set_cons_succ]
          refine wpAnyZ_any (i := 12) (oi := ⟨some 70, _, _, _, _, _⟩) (v := .pointer (some ⟨tb, ot + k * 16 + j, none⟩)) rfl (by kernel_rfl) (by kernel_rfl) (by kernel_rfl) (by kernel_rfl) (fun _ _ _ h => h) (Or.inl ⟨by kernel_rfl, fun w' _ => ?_⟩) ⟨.inr hS.1, .inr hS.2⟩ ?_
          · go_simp
          simp only [Act.put, List.setIfInBounds_toArray, List.set_cons_zero, List.set_cons_succ]
          refine wpAnyZ_take (i := 13) (oi := ⟨some 71, _, _, _, _, _⟩) (v := .int .u8 (t1 : Int)) rfl (by kernel_rfl) (by kernel_rfl) (by kernel_rfl) (by kernel_rfl) (fun _ _ _ h => h) (Or.inl ⟨by kernel_rfl, fun w' hSw => ?_⟩) hS ?_
          · (have c := hSw.cy; go_simp)
          simp only [Act.put, List.setIfInBounds_toArray, List.set_cons_zero, List.set_cons_succ]
          refine wpAnyZ_any (i := 14) (oi := ⟨some 72, _, _, _, _, _⟩) (v := .int .u8 ((x1 ^^^ t1 : Nat) : Int)) rfl (by kernel_rfl) (by kernel_rfl) (by kernel_rfl) (by kernel_rfl) (fun _ _ _ h => h) (Or.inl ⟨by kernel_rfl, fun w' _ => ?_⟩) ⟨.inr hS.1, .inr hS.2⟩ ?_
          · go_simp
          simp only [Act.put, List.setIfInBounds_toArray, List.set_cons_zero, List.set_cons_succ]
          refine wpAnyZ_any (i := 15) (oi := ⟨some 73, _, _, _, _, _⟩) (v := .pointer (some ⟨g, j, none⟩)) rfl (by kernel_rfl) (by kernel_rfl) (by kernel_rfl) (by kernel_rfl) (fun _ _ _ h => h) (Or.inl ⟨by kernel_rfl, fun w' _ => ?_⟩) ⟨.inr hS.1, .inr hS.2⟩ ?_
          · go_simp
          simp only [Act.put, List.setIfInBounds_toArray, List.set_cons_zero, List.set_cons_succ]
          refine wpAnyZ_one (i := 16) (o := ⟨none, _, _, _, _, _⟩) (by kernel_rfl) rfl (by kernel_rfl) (fun K hK => ?_)
          have c := hS.1.cb
          have hfz := hS.1.fb
          go_simp
          refine hK.out _ _ ⟨.inl (show _ = true by kernel_rfl), .inl (show _ = true by kernel_rfl)⟩ ?_
          clear hK K hS
          refine wpAnyZ_done (by kernel_rfl) ?_ _
          go_wp2_with fail
          go_roundw
          case rel =>
            refine ⟨j + 1, upd h j (x1 ^^^ t1), by go_num, by omega, ⟨fun i => ?_⟩, (Arr.set hA).drew, (hB1.setCell (by rw [HG.out]; exact Nat.le_refl _) _).drew⟩
            unfold upd
            by_cases e : i = j
            · subst e
              rw [if_pos rfl, if_pos (by omega), hx1, ht1]
            · rw [if_neg e, H.out i]
              by_cases hjk : i < j
              · rw [if_pos hjk, if_pos (by omega)]
              · rw [if_neg hjk, if_neg (by omega)]
          case measure => simp [intOf]; omega
set_option maxRecDepth 100000 in
set_option maxHeartbeats 8000000 in
theorem rxts_e64 (X : Nat) (ad0 : Addr) (c : Nat) (l : List Nat) (u : Nat) (B : Option Addr) (m c1 : Nat) (d : List Nat) (w : World) (hl : Bytes w (some ad0) 64 l) (hc : 64 ≤ c) (hd : Bytes w B m d) (_hc1 : m ≤ c1) (hM : MayX 64 (u : Int)) (hm16 : m % 16 = 0) (hm2 : m ≤ 4096) (hX : BoxM w X) :
    Calls Try.prog 71 #[.pointer (some ⟨X, 0, none⟩), .slice (some ad0) 64 c, .int .i64 (u : Int), .slice B m c1, .bool false] w (YesRowB (xtL false (half1 l) (half2 l) u d (m / 16)) m w) := by
  obtain ⟨nb, hnb⟩ : ∃ nb, m / 16 = nb := ⟨_, rfl⟩
  rw [hnb]
  have HNB : Box (m = 16 * nb) := ⟨by omega⟩
  have hni : (m : Int) / 16 = (nb : Int) := by omega
  have hnbl : nb ≤ 256 := by omega
  have a2 : ((m : Int) % 16 != 0) = false := by simp; omega
  have hk1 : MayK (half1 l).length := half1_may (by rw [hl.1]; exact hM.1)
  have HM := Box.mk (fun w => rmay_yes (some ad0) 64 c (u : Int) w hM)
  have HTW : Box (∀ (w : World), Bytes w (some ad0) 64 l → BoxM w X → Calls Try.prog 75 #[.pointer (some ⟨X, 0, none⟩), .slice (some ad0) 64 c, .int .i64 (u : Int), .int .i64 (nb : Int)] w (TwQ (half2 l) u nb w)) := ⟨fun w h hX => rtw_any X (some ad0) 64 c l u nb w h hc hM (by omega) hX⟩
  have HN1 : Box (∀ (w : World), Bytes w (some ad0) 64 l → BoxM w X → Calls Try.prog 63 #[.pointer (some ⟨X, 0, none⟩), .slice (some ad0) 32 c] w fun e w' => RnewQ (half1 l) X w e w') := ⟨fun w h hX => by
    have e1 : half1 l = l.take 32 := by unfold half1; rw [hl.1]
    rw [e1]
    exact rnew_any X _ 32 c (l.take 32) _ (h.take (by decide)) hX (by decide)⟩
  generalize half1 l = k1 at hk1 HN1 ⊢
  generalize half2 l = k2 at HTW ⊢
  have HF0 : Box (∀ (C x : Nat) (w : World), Rciph w C X (words k1) → Calls Try.prog 66 #[.pointer (some ⟨C, 0, none⟩), .agg (bv (byt x))] w fun e w' => e = .returned (.agg (bv (byt (encN k1 x)))) ∧ Below w.heap.size w w') := ⟨fun C x w h => rencN C X k1 x hk1 w h⟩
  clear hnb hk1 hM
  go_enter Try.func71, Try.ntmps71
  go_wp2_with fail
  refine (HM.out _).mono ?_
  rintro e w1 ⟨rfl, rfl⟩
  go_wp2_with fail
  refine (HN1.out _ hl hX).mono ?_
  rintro e w2 ⟨C, rfl, hC, hb2, _⟩
  go_wp2_with fail
  refine (HTW.out _ (hl.below hb2) (hX.below hb2 hX.lt)).mono ?_
  rintro e w5 ⟨vt, rfl, hT, hb5⟩
  have hC := hC.below hb5
  have hw5 := hb2.trans (hb5.mono hb2.size)
  have hd5 := hd.below hw5
  obtain ⟨At, ct, hvt, hTb⟩ := hT.blocks
  subst hvt
  rw [twL_len] at hTb ⊢
  clear hT hb2 hb5 hl hX hd HM HN1 HTW
  go_wp2_with fail
  go_loopw [14, 15, 16, 17, 18] (fun o i _a _b _c wr => ∃ (k : Nat), i = .int .i64 (k : Int) ∧ k ≤ nb ∧ Own wr w5.heap.size o (xtL false k1 k2 u d k) ∧ Below w5.heap.size w5 wr) (fun _ i _ _ _ _ => nb - (intOf i).toNat)
  case atStart => exact ⟨0, rfl, by omega, own_nil _ _, Below.refl _ _⟩
  case round =>
    obtain ⟨k, rfl, hk, hO, hB⟩ := hrel
    have hO : Own wr w5.heap.size u14 (xtL false k1 k2 u d k) := hO
    by_cases hkn : k = nb
    · subst hkn
      have hO2 : Own wr w.heap.size _ _ := hO.le hw5.size
      obtain ⟨Ao, co, hvo⟩ := hO2.form
      subst hvo
      rw [xtL_len] at hO2 ⊢
      have hcap := hO2.cap
      have hm' := HNB.out
      clear hO
      go_wp2_with fail
      go_ret2
      rw [← hm'] at hO2 hcap ⊢
      exact ⟨_, _, rfl, hO2, hcap, hw5.trans (hB.mono hw5.size)⟩
    · have hk2 : k < nb := by omega
      clear hkn
      have hdk : decide ((k : Int) < (nb : Int)) = true := decide_eq_true (by omega)
      have hm0 : 0 < m := by have := HNB.out; omega
      obtain ⟨ad, hBe, _⟩ := hd5.2.2.2 hm0
      subst hBe
      obtain ⟨tb, ot, t, hAt, htd, htl, _, _⟩ := (hTb.below hB).at_ hk2
      subst hAt
      have HTD := Box.mk htd
      have htw : twN k2 u k = t := by rw [← twL_get k2 u hk2]; exact htd
      have hdl := hd5.2.2.1
      obtain ⟨x, hx⟩ : ∃ x, datN d k = x := ⟨_, rfl⟩
      have hxl : x < 2 ^ 128 := by rw [← hx]; exact datN_lt hdl k
      have HXJ : Box (∀ j, j < 16 → d.getD (16 * k + j) 0 = byt x j) := ⟨fun j hj => by rw [← hx, datN, byt_numF (datF_lt hdl k) 16 j hj]; rfl⟩
      have hoB : ∀ b, u14.ownBlock = some b → b < wr.heap.size := fun b h => (hO.ge b h).2
      have HXL : Box (xtL false k1 k2 u d (k + 1) = xtL false k1 k2 u d k ++ listB (byt (encN k1 (x ^^^ t) ^^^ t))) := ⟨by rw [xtL]; unfold xtB; rw [hx, htw]; rfl⟩
      obtain ⟨ol, hol⟩ : ∃ ol, xtL false k1 k2 u d k = ol := ⟨_, rfl⟩
      have HOL : Box (ol.length ≤ 4096) := ⟨by rw [← hol, xtL_len]; omega⟩
      rw [hol] at hO HXL
      have hO : Own wr w5.heap.size u14 ol := hO
      have HDL := Box.mk hdl
      clear hx htd htw hol hdl
      go_wp2_with fail
      obtain ⟨wo, rfl⟩ : ∃ wo : World, wo = wr := ⟨_, rfl⟩
      obtain ⟨g, hg⟩ : ∃ g, g = wo.heap.size := ⟨_, rfl⟩
      have hA0 : Arr (wo.alloc (.cells #[.int .u8 0, .int .u8 0, .int .u8 0, .int .u8 0, .int .u8 0, .int .u8 0, .int .u8 0, .int .u8 0, .int .u8 0, .int .u8 0, .int .u8 0, .int .u8 0, .int .u8 0, .int .u8 0, .int .u8 0, .int .u8 0] 36)) g (fun _ => 0) := Arr.zero _ _ hg
      have hB0 : Below wo.heap.size wo (wo.alloc (.cells #[.int .u8 0, .int .u8 0, .int .u8 0, .int .u8 0, .int .u8 0, .int .u8 0, .int .u8 0, .int .u8 0, .int .u8 0, .int .u8 0, .int .u8 0, .int .u8 0, .int .u8 0, .int .u8 0, .int .u8 0, .int .u8 0] 36)) := (Below.refl _ _).alloc (Nat.le_refl _) _
      rw [← hg]
      have HG := Box.mk hg
      clear hg
      go_loopw [17] (fun i wr => ∃ (j : Nat) (h : Nat → Nat), i = .int .i64 (j : Int) ∧ j ≤ 16 ∧ Box (∀ i, h i = if i < j then byt x i ^^^ byt t i else 0) ∧ Arr wr g h ∧ Below wo.heap.size wo wr) (fun i _ => 16 - (intOf i).toNat)
      case atStart => exact ⟨0, fun _ => 0, rfl, by omega, ⟨fun i => by simp⟩, hA0, hB0⟩
      case round =>
        clear hA0 hB0
        obtain ⟨j, h, rfl, hj, H, hA, hB1⟩ := hrel
        by_cases hj16 : j = 16
        · subst hj16
          have hA2 : Arr wr g (byt (x ^^^ t)) := hA.congr fun i hi => by rw [H.out i, if_pos hi, byt_xor]
          have hBr := hB.trans (hB1.mono hB.size)
          have HF : Box (∀ (w : World), Rciph w C X (words k1) → Calls Try.prog 66 #[.pointer (some ⟨C, 0, none⟩), .agg (bv (byt (x ^^^ t)))] w fun e w' => e = .returned (.agg (bv (byt (encN k1 (x ^^^ t))))) ∧ Below w.heap.size w w') := ⟨fun w h => HF0.out C (x ^^^ t) w h⟩
          obtain ⟨y, hy⟩ : ∃ y, encN k1 (x ^^^ t) = y := ⟨_, rfl⟩
          rw [hy] at HF HXL
          have hO2 := hO.below hB1 (Nat.le_refl _)
          have hgw : w5.heap.size ≤ g := by rw [HG.out]; exact hB.size
          clear hA H hy hB1 hB
          go_wp2_with (first
              | ((with_reducible show wpList _ _ _ (⟨some 79, Op.load 36 (.tmp 16), _, _, _, _⟩ :: _) _ _); refine wp_load_arr rfl (.tmp 16) rfl (g) (byt (x ^^^ t)) rfl (hA2) ?_))
          refine (HF.out _ (hC.below hBr)).mono ?_
          rintro e w6 ⟨rfl, hb6⟩
          have hA3 := hA2.below hb6 hA2.lt
          have hO3 := hO2.below hb6 (Nat.le_refl _)
          have hB6 := hBr.trans (hb6.mono hBr.size)
          clear hA2 hO2 hBr hb6 HF
          go_wp2_with (first
              | ((with_reducible show wpList _ _ _ (⟨_, Op.store 36 (.tmp 16) (.tmp 80), _, _, _, _⟩ :: _) _ _); refine wp_store_arr rfl (.tmp 16) (.tmp 80) rfl (g) (byt (x ^^^ t)) (byt y) rfl rfl (hA3) ?_))
          have hA4 : Arr (w6.setRow g (bv (byt y))) g (byt y) := hA3.setRow
          have hO4 := hO3.setRow (g := g) (fun h => by have := hoB _ h; have := HG.out; omega) (bv (byt y))
          have hB7 := below_setRow hB6 hgw (bv (byt y))
          revert hA4 hO4 hB7
          generalize w6.setRow g (bv (byt y)) = w7
          intro hA4 hO4 hB7
          clear hA3 hO3 hB6
          go_loopw [14, 18] (fun o i wr => ∃ (j : Nat), i = .int .i64 (j : Int) ∧ j ≤ 16 ∧ Own wr w5.heap.size o (ol ++ (listB (byt (y ^^^ t))).take j) ∧ Arr wr g (byt y) ∧ (∀ b, o.ownBlock = some b → b ≠ g) ∧ Below w5.heap.size w5 wr) (fun _ i _ => 16 - (intOf i).toNat)
          case atStart => exact ⟨0, rfl, by omega, by simpa using hO4, hA4, fun b h => by have := hoB _ h; have := HG.out; omega, hB7⟩
          case round =>
            clear hA4 hO4 hB7 hoB hO
            obtain ⟨j, rfl, hj, hO, hA, hob, hB⟩ := hrel
            have hO : Own wr w5.heap.size u14 (ol ++ (listB (byt (y ^^^ t))).take j) := hO
            by_cases hj16 : j = 16
            · subst hj16
              rw [show (listB (byt (y ^^^ t))).take 16 = listB (byt (y ^^^ t)) from List.take_of_length_le (by rw [listB_len]; exact Nat.le_refl _), ← HXL.out] at hO
              go_wp2_with fail
              go_roundw
              case rel => exact ⟨k + 1, by go_num, by omega, hO, hB⟩
              case measure => simp [intOf]; omega
            · have hj2 : j < 16 := by omega
              clear hj16
              obtain ⟨ol2, hol2⟩ : ∃ l, ol ++ (listB (byt (y ^^^ t))).take j = l := ⟨_, rfl⟩
              have HOL2 : Box (ol2.length ≤ 5000) := ⟨by rw [← hol2, List.length_append, List.length_take, listB_len]; have := HOL.out; omega⟩
              obtain ⟨y1, hy1⟩ : ∃ y1, byt y j = y1 := ⟨_, rfl⟩
              obtain ⟨t1, ht1⟩ : ∃ t1, byt t j = t1 := ⟨_, rfl⟩
              have hy1l : y1 < 256 := by rw [← hy1]; exact Twk.byt_lt _ _
              have ht1l : t1 < 256 := by rw [← ht1]; exact Twk.byt_lt _ _
              have hyt : y1 ^^^ t1 < 256 := xor_lt' hy1l ht1l
              have hxr := u8_xor_nat y1 t1 hy1l ht1l
              have HZ : Box (ol2 ++ [y1 ^^^ t1] = ol ++ (listB (byt (y ^^^ t))).take (j + 1)) := ⟨by rw [take_snoc hj2, byt_xor, hy1, ht1, ← hol2, List.append_assoc]⟩
              have hcb := hA.cell (k := j) hj2
              rw [hy1] at hcb
              have hcy := (hTb.below hB).cellAt hk2 HTD.out hj2
              rw [add_off] at hcy
              rw [ht1] at hcy
              rw [hol2] at hO
              have hO : Own wr w5.heap.size u14 ol2 := hO
              have hSS : S72 g j y1 ⟨tb, ot + k * 16 + j, none⟩ t1 wr.drew := ⟨hcb, hcy⟩
              have HY1 := Box.mk hy1
              have HT1 := Box.mk ht1
              clear hol2 hy1 ht1 hcb hcy
              go_wp2_with fail
              refine wp_region_Z 13 13 (S72 g j y1 ⟨tb, ot + k * 16 + j, none⟩ t1) (fun _ => True) (by kernel_rfl) ?_
              have hS : _ ∧ True := ⟨hSS, trivial⟩
              refine wpAnyZ_any (i := 0) (oi := ⟨some 85, _, _, _, _, _⟩) (v := u14) rfl (by kernel_rfl) (by kernel_rfl) (by kernel_rfl) (by kernel_rfl) (fun _ _ _ h => h) (Or.inl ⟨by kernel_rfl, fun w' _ => ?_⟩) ⟨.inr hS.1, .inr hS.2⟩ ?_
              · go_simp
              simp only [Act.put, List.setIfInBounds_toArray, List.set_cons_zero, List.set_cons_succ]
              refine wpAnyZ_any (i := 1) (oi := ⟨some 86, _, _, _, _, _⟩) (v := .int .i64 (j : Int)) rfl (by kernel_rfl) (by kernel_rfl) (by kernel_rfl) (by kernel_rfl) (fun _ _ _ h => h) (Or.inl ⟨by kernel_rfl, fun w' _ => ?_⟩) ⟨.inr hS.1, .inr hS.2⟩ ?_
              · go_simp
              simp only [Act.put, List.setIfInBounds_toArray, List.set_cons_zero, List.set_cons_succ]
              refine wpAnyZ_any (i := 2) (oi := ⟨some 87, _, _, _, _, _⟩) (v := .pointer (some ⟨g, j, none⟩)) rfl (by kernel_rfl) (by kernel_rfl) (by kernel_rfl) (by kernel_rfl) (fun _ _ _ h => h) (Or.inl ⟨by kernel_rfl, fun w' _ => ?_⟩) ⟨.inr hS.1, .inr hS.2⟩ ?_
              · go_simp
              simp only [Act.put, List.setIfInBounds_toArray, List.set_cons_zero, List.set_cons_succ]
              refine wpAnyZ_take (i := 3) (oi := ⟨some 88, _, _, _, _, _⟩) (v := .int .u8 (y1 : Int)) rfl (by kernel_rfl) (by kernel_rfl) (by kernel_rfl) (by kernel_rfl) (fun _ _ _ h => h) (Or.inl ⟨by kernel_rfl, fun w' hSw => ?_⟩) hS ?_
              · (have c := hSw.cy; go_simp)
              simp only [Act.put, List.setIfInBounds_toArray, List.set_cons_zero, List.set_cons_succ]
              refine wpAnyZ_any (i := 4) (oi := ⟨some 89, _, _, _, _, _⟩) (v := .slice (some ⟨tb, ot, none⟩) nb ct) rfl (by kernel_rfl) (by kernel_rfl) (by kernel_rfl) (by kernel_rfl) (fun _ _ _ h => h) (Or.inl ⟨by kernel_rfl, fun w' _ => ?_⟩) ⟨.inr hS.1, .inr hS.2⟩ ?_
              · go_simp
              simp only [Act.put, List.setIfInBounds_toArray, List.set_cons_zero, List.set_cons_succ]
              refine wpAnyZ_any (i := 5) (oi := ⟨some 90, _, _, _, _, _⟩) (v := .int .i64 (k : Int)) rfl (by kernel_rfl) (by kernel_rfl) (by kernel_rfl) (by kernel_rfl) (fun _ _ _ h => h) (Or.inl ⟨by kernel_rfl, fun w' _ => ?_⟩) ⟨.inr hS.1, .inr hS.2⟩ ?_
              · go_simp
              simp only [Act.put, List.setIfInBounds_toArray, List.set_cons_zero, List.set_cons_succ]
              refine wpAnyZ_any (i := 6) (oi := ⟨some 91, _, _, _, _, _⟩) (v := .int .i64 (j : Int)) rfl (by kernel_rfl) (by kernel_rfl) (by kernel_rfl) (by kernel_rfl) (fun _ _ _ h => h) (Or.inl ⟨by kernel_rfl, fun w' _ => ?_⟩) ⟨.inr hS.1, .inr hS.2⟩ ?_
              · go_simp
              simp only [Act.put, List.setIfInBounds_toArray, List.set_cons_zero, List.set_cons_succ]
              refine wpAnyZ_any (i := 7) (oi := ⟨some 92, _, _, _, _, _⟩) (v := .pointer (some ⟨tb, ot + k * 16, none⟩)) rfl (by kernel_rfl) (by kernel_rfl) (by kernel_rfl) (by kernel_rfl) (fun _ _ _ h => h) (Or.inl ⟨by kernel_rfl, fun w' _ => ?_⟩) ⟨.inr hS.1, .inr hS.2⟩ ?_
              · go_simp
              simp only [Act.put, List.setIfInBounds_toArray, List.set_cons_zero, List.set_cons_succ]
              refine wpAnyZ_any (i := 8) (oi := ⟨some 93, _, _, _, _, _⟩) (v := .pointer (some ⟨tb, ot + k * 16 + j, none⟩)) rfl (by kernel_rfl) (by kernel_rfl) (by kernel_rfl) (by kernel_rfl) (fun _ _ _ h => h) (Or.inl ⟨by kernel_rfl, fun w' _ => ?_⟩) ⟨.inr hS.1, .inr hS.2⟩ ?_
              · go_simp
              simp only [Act.put, List.setIfInBounds_toArray, List.set_cons_zero, List.set_cons_succ]
              refine wpAnyZ_take (i := 9) (oi := ⟨some 94, _, _, _, _, _⟩) (v := .int .u8 (t1 : Int)) rfl (by kernel_rfl) (by kernel_rfl) (by kernel_rfl) (by kernel_rfl) (fun _ _ _ h => h) (Or.inl ⟨by kernel_rfl, fun w' hSw => ?_⟩) hS ?_
              · (have c := hSw.cx; go_simp)
              simp only [Act.put, List.setIfInBounds_toArray, List.set_cons_zero, List.set_cons_succ]
              refine wpAnyZ_any (i := 10) (oi := ⟨some 95, _, _, _, _, _⟩) (v := .int .u8 ((y1 ^^^ t1 : Nat) : Int)) rfl (by kernel_rfl) (by kernel_rfl) (by kernel_rfl) (by kernel_rfl) (fun _ _ _ h => h) (Or.inl ⟨by kernel_rfl, fun w' _ => ?_⟩) ⟨.inr hS.1, .inr hS.2⟩ ?_
              · go_simp
              simp only [Act.put, List.setIfInBounds_toArray, List.set_cons_zero, List.set_cons_succ]
              refine wpAnyZ_one (i := 11) (o := ⟨some 96, _, _, _, _, _⟩) (by kernel_rfl) rfl (by kernel_rfl) (fun K hK => ?_)
              go_simp
              have hS := (show _ ∧ True from ⟨hS.1.alloc (.cells #[.int .u8 ((y1 ^^^ t1 : Nat) : Int)] 5), trivial⟩)
              refine hK.out _ _ ⟨.inr hS.1, .inr hS.2⟩ ?_
              clear hK K
              refine wpAnyZ_one (i := 12) (o := ⟨some 97, _, _, _, _, _⟩) (by kernel_rfl) rfl (by kernel_rfl) (fun K hK => ?_)
              refine wpo_appA (.tmp 85) (.tmp 96) rfl w5.heap.size u14 ol2 rfl ((hO.below (Below.refl _ _).drew (Nat.le_refl _)).alloc _) (some ⟨wr.heap.size, 0, none⟩) 1 1 [y1 ^^^ t1] rfl (bytes_one _ _ _ 5 rfl hyt) (by have := HOL2.out; omega) (by have := hB.size; simp; omega) ?_
              intro v2 w8 k1 k2 k3
              have hBn : Below w5.heap.size w5 w8 := grown_below (hB.drew.alloc hB.size _) k2 (by have := hB.size; simp; omega) (fun b h => (hO.ge b h).1)
              have hAn : Arr w8 g (byt y) := (hA.drewN 1 |>.alloc _).grown k2 (fun h => hob _ h.symm rfl)
              have hS97 : S72 g j y1 ⟨tb, ot + k * 16 + j, none⟩ t1 w8 := ⟨by rw [← HY1.out]; exact hAn.cell hj2, by have h := (hTb.below hBn).cellAt hk2 HTD.out hj2; rwa [add_off, HT1.out] at h⟩
              have hS := (show _ ∧ True from ⟨hS97, trivial⟩)
              refine hK.out _ _ ⟨.inr hS.1, .inr hS.2⟩ ?_
              clear hK K
              simp only [Act.put, List.setIfInBounds_toArray, List.set_cons_zero, List.set_cons_succ]
              refine wpAnyZ_one (i := 13) (o := ⟨some 14, _, _, _, _, _⟩) (by kernel_rfl) rfl (by kernel_rfl) (fun K hK => ?_)
              go_simp
              refine hK.out _ _ ⟨.inl (show _ = true by kernel_rfl), .inl (show _ = true by kernel_rfl)⟩ ?_
              clear hK K hS
              refine wpAnyZ_done (by kernel_rfl) ?_ _
              go_wp2_with fail
              have hob' : ∀ b, v2.ownBlock = some b → b ≠ g := fun b h => by
                rcases k3 with k3 | k3
                · exact hob b (by rw [← k3]; exact h)
                · rw [k3] at h
                  injection h with h
                  have := hA.lt
                  simp at h
                  omega
              go_roundw
              case rel => exact ⟨j + 1, by go_num, by omega, by rw [← HZ.out]; exact k1, hAn, hob', hBn⟩
              case measure => simp [intOf]; omega
        · have hj2 : j < 16 := by omega
          clear hj16
          obtain ⟨q, hq⟩ : ∃ q, q = 16 * k + j := ⟨_, rfl⟩
          have HQ := Box.mk hq
          have hqm : q < m := by have := HNB.out; omega
          have hqc : (q : Int) < (m : Int) := by omega
          have q0 : (0 : Int) ≤ (q : Int) := by omega
          have hkb : k ≤ 256 := by omega
          obtain ⟨x1, hx1⟩ : ∃ x1, byt x j = x1 := ⟨_, rfl⟩
          obtain ⟨t1, ht1⟩ : ∃ t1, byt t j = t1 := ⟨_, rfl⟩
          have hx1l : x1 < 256 := by rw [← hx1]; exact Twk.byt_lt _ _
          have ht1l : t1 < 256 := by rw [← ht1]; exact Twk.byt_lt _ _
          have hxr := u8_xor_nat x1 t1 hx1l ht1l
          have hBr := hB.trans (hB1.mono hB.size)
          have hcx : wr.cell? (ad.add q) = some (.int .u8 (x1 : Int)) := by
            obtain ⟨ad', e, hcc⟩ := (hd5.below hBr).2.2.2 hm0
            injection e with e
            subst e
            rw [hcc q hqm, hq, HXJ.out j hj2, hx1]
          have hcy := (hTb.below hBr).cellAt hk2 HTD.out hj2
          rw [add_off] at hcy
          rw [ht1] at hcy
          have hcb := hA.cell hj2
          rw [H.out j, if_neg (by omega)] at hcb
          have hSS : S71 (ad.add q) ⟨tb, ot + k * 16 + j, none⟩ g j x1 t1 wr.drew := ⟨hcx, hcy, hcb, hA.free j⟩
          clear hq hcx hcy hcb
          go_wp2_with fail
          refine wp_region_Z 16 16 (S71 (ad.add q) ⟨tb, ot + k * 16 + j, none⟩ g j x1 t1) (fun _ => True) (by kernel_rfl) ?_
          have hS : _ ∧ True := ⟨hSS, trivial⟩
          refine wpAnyZ_any (i := 0) (oi := ⟨some 58, _, _, _, _, _⟩) (v := .int .i64 (j : Int)) rfl (by kernel_rfl) (by kernel_rfl) (by kernel_rfl) (by kernel_rfl) (fun _ _ _ h => h) (Or.inl ⟨by kernel_rfl, fun w' _ => ?_⟩) ⟨.inr hS.1, .inr hS.2⟩ ?_
          · go_simp
          simp only [Act.put, List.setIfInBounds_toArray, List.set_cons_zero, List.set_cons_succ]
          refine wpAnyZ_any (i := 1) (oi := ⟨some 59, _, _, _, _, _⟩) (v := .slice (some ad) m c1) rfl (by kernel_rfl) (by kernel_rfl) (by kernel_rfl) (by kernel_rfl) (fun _ _ _ h => h) (Or.inl ⟨by kernel_rfl, fun w' _ => ?_⟩) ⟨.inr hS.1, .inr hS.2⟩ ?_
          · go_simp
          simp only [Act.put, List.setIfInBounds_toArray, List.set_cons_zero, List.set_cons_succ]
          refine wpAnyZ_any (i := 2) (oi := ⟨some 60, _, _, _, _, _⟩) (v := .int .i64 (k : Int)) rfl (by kernel_rfl) (by kernel_rfl) (by kernel_rfl) (by kernel_rfl) (fun _ _ _ h => h) (Or.inl ⟨by kernel_rfl, fun w' _ => ?_⟩) ⟨.inr hS.1, .inr hS.2⟩ ?_
          · go_simp
          simp only [Act.put, List.setIfInBounds_toArray, List.set_cons_zero, List.set_cons_succ]
          refine wpAnyZ_any (i := 3) (oi := ⟨some 61, _, _, _, _, _⟩) (v := .int .i64 (16 * (k : Int))) rfl (by kernel_rfl) (by kernel_rfl) (by kernel_rfl) (by kernel_rfl) (fun _ _ _ h => h) (Or.inl ⟨by kernel_rfl, fun w' _ => ?_⟩) ⟨.inr hS.1, .inr hS.2⟩ ?_
          · (go_simp; exact IntWalk.i64_in _ (by omega))
          simp only [Act.put, List.setIfInBounds_toArray, List.set_cons_zero, List.set_cons_succ]
          refine wpAnyZ_any (i := 4) (oi := ⟨some 62, _, _, _, _, _⟩) (v := .int .i64 (j : Int)) rfl (by kernel_rfl) (by kernel_rfl) (by kernel_rfl) (by kernel_rfl) (fun _ _ _ h => h) (Or.inl ⟨by kernel_rfl, fun w' _ => ?_⟩) ⟨.inr hS.1, .inr hS.2⟩ ?_
          · go_simp
          simp only [Act.put, List.setIfInBounds_toArray, List.set_cons_zero, List.set_cons_succ]
          refine wpAnyZ_any (i := 5) (oi := ⟨some 63, _, _, _, _, _⟩) (v := .int .i64 (q : Int)) rfl (by kernel_rfl) (by kernel_rfl) (by kernel_rfl) (by kernel_rfl) (fun _ _ _ h => h) (Or.inl ⟨by kernel_rfl, fun w' _ => ?_⟩) ⟨.inr hS.1, .inr hS.2⟩ ?_
          · (go_simp; rw [show 16 * (k : Int) + (j : Int) = (q : Int) by have := HQ.out; omega]; exact IntWalk.i64_in _ (by omega))
          simp only [Act.put, List.setIfInBounds_toArray, List.set_cons_zero, List.set_cons_succ]
          refine wpAnyZ_any (i := 6) (oi := ⟨some 64, _, _, _, _, _⟩) (v := .pointer (some (ad.add q))) rfl (by kernel_rfl) (by kernel_rfl) (by kernel_rfl) (by kernel_rfl) (fun _ _ _ h => h) (Or.inl ⟨by kernel_rfl, fun w' _ => ?_⟩) ⟨.inr hS.1, .inr hS.2⟩ ?_
          · go_simp
          simp only [Act.put, List.setIfInBounds_toArray, List.set_cons_zero, List.set_cons_succ]
          refine wpAnyZ_take (i := 7) (oi := ⟨some 65, _, _, _, _, _⟩) (v := .int .u8 (x1 : Int)) rfl (by kernel_rfl) (by kernel_rfl) (by kernel_rfl) (by kernel_rfl) (fun _ _ _ h => h) (Or.inl ⟨by kernel_rfl, fun w' hSw => ?_⟩) hS ?_
          · (have c := hSw.cx; go_simp)
          simp only [Act.put, List.setIfInBounds_toArray, List.set_cons_zero, List.set_cons_succ]
          refine wpAnyZ_any (i := 8) (oi := ⟨some 66, _, _, _, _, _⟩) (v := .slice (some ⟨tb, ot, none⟩) nb ct) rfl (by kernel_rfl) (by kernel_rfl) (by kernel_rfl) (by kernel_rfl) (fun _ _ _ h => h) (Or.inl ⟨by kernel_rfl, fun w' _ => ?_⟩) ⟨.inr hS.1, .inr hS.2⟩ ?_
          · go_simp
          simp only [Act.put, List.setIfInBounds_toArray, List.set_cons_zero, List.set_cons_succ]
          refine wpAnyZ_any (i := 9) (oi := ⟨some 67, _, _, _, _, _⟩) (v := .int .i64 (k : Int)) rfl (by kernel_rfl) (by kernel_rfl) (by kernel_rfl) (by kernel_rfl) (fun _ _ _ h => h) (Or.inl ⟨by kernel_rfl, fun w' _ => ?_⟩) ⟨.inr hS.1, .inr hS.2⟩ ?_
          · go_simp
          simp only [Act.put, List.setIfInBounds_toArray, List.set_cons_zero, List.set_cons_succ]
          refine wpAnyZ_any (i := 10) (oi := ⟨some 68, _, _, _, _, _⟩) (v := .int .i64 (j : Int)) rfl (by kernel_rfl) (by kernel_rfl) (by kernel_rfl) (by kernel_rfl) (fun _ _ _ h => h) (Or.inl ⟨by kernel_rfl, fun w' _ => ?_⟩) ⟨.inr hS.1, .inr hS.2⟩ ?_
          · go_simp
          simp only [Act.put, List.setIfInBounds_toArray, List.set_cons_zero, List.set_cons_succ]
          refine wpAnyZ_any (i := 11) (oi := ⟨some 69, _, _, _, _, _⟩) (v := .pointer (some ⟨tb, ot + k * 16, none⟩)) rfl (by kernel_rfl) (by kernel_rfl) (by kernel_rfl) (by kernel_rfl) (fun _ _ _ h => h) (Or.inl ⟨by kernel_rfl, fun w' _ => ?_⟩) ⟨.inr hS.1, .inr hS.2⟩ ?_
          · go_simp
          simp only [Act.put, List.setIfInBounds_toArray, List.set_cons_zero, List.set_cons_succ]
          refine wpAnyZ_any (i := 12) (oi := ⟨some 70, _, _, _, _, _⟩) (v := .pointer (some ⟨tb, ot + k * 16 + j, none⟩)) rfl (by kernel_rfl) (by kernel_rfl) (by kernel_rfl) (by kernel_rfl) (fun _ _ _ h => h) (Or.inl ⟨by kernel_rfl, fun w' _ => ?_⟩) ⟨.inr hS.1, .inr hS.2⟩ ?_
          · go_simp
          simp only [Act.put, List.setIfInBounds_toArray, List.set_cons_zero, List.set_cons_succ]
          refine wpAnyZ_take (i := 13) (oi := ⟨some 71, _, _, _, _, _⟩) (v := .int .u8 (t1 : Int)) rfl (by kernel_rfl) (by kernel_rfl) (by kernel_rfl) (by kernel_rfl) (fun _ _ _ h => h) (Or.inl ⟨by kernel_rfl, fun w' hSw => ?_⟩) hS ?_
          · (have c := hSw.cy; go_simp)
          simp only [Act.put, List.setIfInBounds_toArray, List.set_cons_zero, List.set_cons_succ]
          refine wpAnyZ_any (i := 14) (oi := ⟨some 72, _, _, _, _, _⟩) (v := .int .u8 ((x1 ^^^ t1 : Nat) : Int)) rfl (by kernel_rfl) (by kernel_rfl) (by kernel_rfl) (by kernel_rfl) (fun _ _ _ h => h) (Or.inl ⟨by kernel_rfl, fun w' _ => ?_⟩) ⟨.inr hS.1, .inr hS.2⟩ ?_
          · go_simp
          simp only [Act.put, List.setIfInBounds_toArray, List.set_cons_zero, List.set_cons_succ]
          refine wpAnyZ_any (i := 15) (oi := ⟨some 73, _, _, _, _, _⟩) (v := .pointer (some ⟨g, j, none⟩)) rfl (by kernel_rfl) (by kernel_rfl) (by kernel_rfl) (by kernel_rfl) (fun _ _ _ h => h) (Or.inl ⟨by kernel_rfl, fun w' _ => ?_⟩) ⟨.inr hS.1, .inr hS.2⟩ ?_
          · go_simp
          simp only [Act.put, List.setIfInBounds_toArray, List.set_cons_zero, List.set_cons_succ]
          refine wpAnyZ_one (i := 16) (o := ⟨none, _, _, _, _, _⟩) (by kernel_rfl) rfl (by kernel_rfl) (fun K hK => ?_)
          have c := hS.1.cb
          have hfz := hS.1.fb
          go_simp
          refine hK.out _ _ ⟨.inl (show _ = true by kernel_rfl), .inl (show _ = true by kernel_rfl)⟩ ?_
          clear hK K hS
          refine wpAnyZ_done (by kernel_rfl) ?_ _
          go_wp2_with fail
          go_roundw
          case rel =>
            refine ⟨j + 1, upd h j (x1 ^^^ t1), by go_num, by omega, ⟨fun i => ?_⟩, (Arr.set hA).drew, (hB1.setCell (by rw [HG.out]; exact Nat.le_refl _) _).drew⟩
            unfold upd
            by_cases e : i = j
            · subst e
              rw [if_pos rfl, if_pos (by omega), hx1, ht1]
            · rw [if_neg e, H.out i]
              by_cases hjk : i < j
              · rw [if_pos hjk, if_pos (by omega)]
              · rw [if_neg hjk, if_neg (by omega)]
          case measure => simp [intOf]; omega
set_option maxRecDepth 100000 in
set_option maxHeartbeats 8000000 in
theorem rxts_d32 (X : Nat) (ad0 : Addr) (c : Nat) (l : List Nat) (u : Nat) (B : Option Addr) (m c1 : Nat) (d : List Nat) (w : World) (hl : Bytes w (some ad0) 32 l) (hc : 32 ≤ c) (hd : Bytes w B m d) (_hc1 : m ≤ c1) (hM : MayX 32 (u : Int)) (hm16 : m % 16 = 0) (hm2 : m ≤ 4096) (hX : BoxM w X) :
    Calls Try.prog 71 #[.pointer (some ⟨X, 0, none⟩), .slice (some ad0) 32 c, .int .i64 (u : Int), .slice B m c1, .bool true] w (YesRowB (xtL true (half1 l) (half2 l) u d (m / 16)) m w) := by
  obtain ⟨nb, hnb⟩ : ∃ nb, m / 16 = nb := ⟨_, rfl⟩
  rw [hnb]
  have HNB : Box (m = 16 * nb) := ⟨by omega⟩
  have hni : (m : Int) / 16 = (nb : Int) := by omega
  have hnbl : nb ≤ 256 := by omega
  have a2 : ((m : Int) % 16 != 0) = false := by simp; omega
  have hk1 : MayK (half1 l).length := half1_may (by rw [hl.1]; exact hM.1)
  have HM := Box.mk (fun w => rmay_yes (some ad0) 32 c (u : Int) w hM)
  have HTW : Box (∀ (w : World), Bytes w (some ad0) 32 l → BoxM w X → Calls Try.prog 75 #[.pointer (some ⟨X, 0, none⟩), .slice (some ad0) 32 c, .int .i64 (u : Int), .int .i64 (nb : Int)] w (TwQ (half2 l) u nb w)) := ⟨fun w h hX => rtw_any X (some ad0) 32 c l u nb w h hc hM (by omega) hX⟩
  have HN1 : Box (∀ (w : World), Bytes w (some ad0) 32 l → BoxM w X → Calls Try.prog 63 #[.pointer (some ⟨X, 0, none⟩), .slice (some ad0) 16 c] w fun e w' => RnewQ (half1 l) X w e w') := ⟨fun w h hX => by
    have e1 : half1 l = l.take 16 := by unfold half1; rw [hl.1]
    rw [e1]
    exact rnew_any X _ 16 c (l.take 16) _ (h.take (by decide)) hX (by decide)⟩
  generalize half1 l = k1 at hk1 HN1 ⊢
  generalize half2 l = k2 at HTW ⊢
  have HF0 : Box (∀ (C x : Nat) (w : World), Rciph w C X (words k1) → Calls Try.prog 67 #[.pointer (some ⟨C, 0, none⟩), .agg (bv (byt x))] w fun e w' => e = .returned (.agg (bv (byt (decN k1 x)))) ∧ Below w.heap.size w w') := ⟨fun C x w h => rdecN C X k1 x hk1 w h⟩
  clear hnb hk1 hM
  go_enter Try.func71, Try.ntmps71
  go_wp2_with fail
  refine (HM.out _).mono ?_
  rintro e w1 ⟨rfl, rfl⟩
  go_wp2_with fail
  refine (HN1.out _ hl hX).mono ?_
  rintro e w2 ⟨C, rfl, hC, hb2, _⟩
  go_wp2_with fail
  refine (HTW.out _ (hl.below hb2) (hX.below hb2 hX.lt)).mono ?_
  rintro e w5 ⟨vt, rfl, hT, hb5⟩
  have hC := hC.below hb5
  have hw5 := hb2.trans (hb5.mono hb2.size)
  have hd5 := hd.below hw5
  obtain ⟨At, ct, hvt, hTb⟩ := hT.blocks
  subst hvt
  rw [twL_len] at hTb ⊢
  clear hT hb2 hb5 hl hX hd HM HN1 HTW
  go_wp2_with fail
  go_loopw [14, 15, 16, 17, 18] (fun o i _a _b _c wr => ∃ (k : Nat), i = .int .i64 (k : Int) ∧ k ≤ nb ∧ Own wr w5.heap.size o (xtL true k1 k2 u d k) ∧ Below w5.heap.size w5 wr) (fun _ i _ _ _ _ => nb - (intOf i).toNat)
  case atStart => exact ⟨0, rfl, by omega, own_nil _ _, Below.refl _ _⟩
  case round =>
    obtain ⟨k, rfl, hk, hO, hB⟩ := hrel
    have hO : Own wr w5.heap.size u14 (xtL true k1 k2 u d k) := hO
    by_cases hkn : k = nb
    · subst hkn
      have hO2 : Own wr w.heap.size _ _ := hO.le hw5.size
      obtain ⟨Ao, co, hvo⟩ := hO2.form
      subst hvo
      rw [xtL_len] at hO2 ⊢
      have hcap := hO2.cap
      have hm' := HNB.out
      clear hO
      go_wp2_with fail
      go_ret2
      rw [← hm'] at hO2 hcap ⊢
      exact ⟨_, _, rfl, hO2, hcap, hw5.trans (hB.mono hw5.size)⟩
    · have hk2 : k < nb := by omega
      clear hkn
      have hdk : decide ((k : Int) < (nb : Int)) = true := decide_eq_true (by omega)
      have hm0 : 0 < m := by have := HNB.out; omega
      obtain ⟨ad, hBe, _⟩ := hd5.2.2.2 hm0
      subst hBe
      obtain ⟨tb, ot, t, hAt, htd, htl, _, _⟩ := (hTb.below hB).at_ hk2
      subst hAt
      have HTD := Box.mk htd
      have htw : twN k2 u k = t := by rw [← twL_get k2 u hk2]; exact htd
      have hdl := hd5.2.2.1
      obtain ⟨x, hx⟩ : ∃ x, datN d k = x := ⟨_, rfl⟩
      have hxl : x < 2 ^ 128 := by rw [← hx]; exact datN_lt hdl k
      have HXJ : Box (∀ j, j < 16 → d.getD (16 * k + j) 0 = byt x j) := ⟨fun j hj => by rw [← hx, datN, byt_numF (datF_lt hdl k) 16 j hj]; rfl⟩
      have hoB : ∀ b, u14.ownBlock = some b → b < wr.heap.size := fun b h => (hO.ge b h).2
      have HXL : Box (xtL true k1 k2 u d (k + 1) = xtL true k1 k2 u d k ++ listB (byt (decN k1 (x ^^^ t) ^^^ t))) := ⟨by rw [xtL]; unfold xtB; rw [hx, htw]; rfl⟩
      obtain ⟨ol, hol⟩ : ∃ ol, xtL true k1 k2 u d k = ol := ⟨_, rfl⟩
      have HOL : Box (ol.length ≤ 4096) := ⟨by rw [← hol, xtL_len]; omega⟩
      rw [hol] at hO HXL
      have hO : Own wr w5.heap.size u14 ol := hO
      have HDL := Box.mk hdl
      clear hx htd htw hol hdl
      go_wp2_with fail
      obtain ⟨wo, rfl⟩ : ∃ wo : World, wo = wr := ⟨_, rfl⟩
      obtain ⟨g, hg⟩ : ∃ g, g = wo.heap.size := ⟨_, rfl⟩
      have hA0 : Arr (wo.alloc (.cells #[.int .u8 0, .int .u8 0, .int .u8 0, .int .u8 0, .int .u8 0, .int .u8 0, .int .u8 0, .int .u8 0, .int .u8 0, .int .u8 0, .int .u8 0, .int .u8 0, .int .u8 0, .int .u8 0, .int .u8 0, .int .u8 0] 36)) g (fun _ => 0) := Arr.zero _ _ hg
      have hB0 : Below wo.heap.size wo (wo.alloc (.cells #[.int .u8 0, .int .u8 0, .int .u8 0, .int .u8 0, .int .u8 0, .int .u8 0, .int .u8 0, .int .u8 0, .int .u8 0, .int .u8 0, .int .u8 0, .int .u8 0, .int .u8 0, .int .u8 0, .int .u8 0, .int .u8 0] 36)) := (Below.refl _ _).alloc (Nat.le_refl _) _
      rw [← hg]
      have HG := Box.mk hg
      clear hg
      go_loopw [17] (fun i wr => ∃ (j : Nat) (h : Nat → Nat), i = .int .i64 (j : Int) ∧ j ≤ 16 ∧ Box (∀ i, h i = if i < j then byt x i ^^^ byt t i else 0) ∧ Arr wr g h ∧ Below wo.heap.size wo wr) (fun i _ => 16 - (intOf i).toNat)
      case atStart => exact ⟨0, fun _ => 0, rfl, by omega, ⟨fun i => by simp⟩, hA0, hB0⟩
      case round =>
        clear hA0 hB0
        obtain ⟨j, h, rfl, hj, H, hA, hB1⟩ := hrel
        by_cases hj16 : j = 16
        · subst hj16
          have hA2 : Arr wr g (byt (x ^^^ t)) := hA.congr fun i hi => by rw [H.out i, if_pos hi, byt_xor]
          have hBr := hB.trans (hB1.mono hB.size)
          have HF : Box (∀ (w : World), Rciph w C X (words k1) → Calls Try.prog 67 #[.pointer (some ⟨C, 0, none⟩), .agg (bv (byt (x ^^^ t)))] w fun e w' => e = .returned (.agg (bv (byt (decN k1 (x ^^^ t))))) ∧ Below w.heap.size w w') := ⟨fun w h => HF0.out C (x ^^^ t) w h⟩
          obtain ⟨y, hy⟩ : ∃ y, decN k1 (x ^^^ t) = y := ⟨_, rfl⟩
          rw [hy] at HF HXL
          have hO2 := hO.below hB1 (Nat.le_refl _)
          have hgw : w5.heap.size ≤ g := by rw [HG.out]; exact hB.size
          clear hA H hy hB1 hB
          go_wp2_with (first
              | ((with_reducible show wpList _ _ _ (⟨some 76, Op.load 36 (.tmp 16), _, _, _, _⟩ :: _) _ _); refine wp_load_arr rfl (.tmp 16) rfl (g) (byt (x ^^^ t)) rfl (hA2) ?_))
          refine (HF.out _ (hC.below hBr)).mono ?_
          rintro e w6 ⟨rfl, hb6⟩
          have hA3 := hA2.below hb6 hA2.lt
          have hO3 := hO2.below hb6 (Nat.le_refl _)
          have hB6 := hBr.trans (hb6.mono hBr.size)
          clear hA2 hO2 hBr hb6 HF
          go_wp2_with (first
              | ((with_reducible show wpList _ _ _ (⟨_, Op.store 36 (.tmp 16) (.tmp 77), _, _, _, _⟩ :: _) _ _); refine wp_store_arr rfl (.tmp 16) (.tmp 77) rfl (g) (byt (x ^^^ t)) (byt y) rfl rfl (hA3) ?_))
          have hA4 : Arr (w6.setRow g (bv (byt y))) g (byt y) := hA3.setRow
          have hO4 := hO3.setRow (g := g) (fun h => by have := hoB _ h; have := HG.out; omega) (bv (byt y))
          have hB7 := below_setRow hB6 hgw (bv (byt y))
          revert hA4 hO4 hB7
          generalize w6.setRow g (bv (byt y)) = w7
          intro hA4 hO4 hB7
          clear hA3 hO3 hB6
          go_loopw [14, 18] (fun o i wr => ∃ (j : Nat), i = .int .i64 (j : Int) ∧ j ≤ 16 ∧ Own wr w5.heap.size o (ol ++ (listB (byt (y ^^^ t))).take j) ∧ Arr wr g (byt y) ∧ (∀ b, o.ownBlock = some b → b ≠ g) ∧ Below w5.heap.size w5 wr) (fun _ i _ => 16 - (intOf i).toNat)
          case atStart => exact ⟨0, rfl, by omega, by simpa using hO4, hA4, fun b h => by have := hoB _ h; have := HG.out; omega, hB7⟩
          case round =>
            clear hA4 hO4 hB7 hoB hO
            obtain ⟨j, rfl, hj, hO, hA, hob, hB⟩ := hrel
            have hO : Own wr w5.heap.size u14 (ol ++ (listB (byt (y ^^^ t))).take j) := hO
            by_cases hj16 : j = 16
            · subst hj16
              rw [show (listB (byt (y ^^^ t))).take 16 = listB (byt (y ^^^ t)) from List.take_of_length_le (by rw [listB_len]; exact Nat.le_refl _), ← HXL.out] at hO
              go_wp2_with fail
              go_roundw
              case rel => exact ⟨k + 1, by go_num, by omega, hO, hB⟩
              case measure => simp [intOf]; omega
            · have hj2 : j < 16 := by omega
              clear hj16
              obtain ⟨ol2, hol2⟩ : ∃ l, ol ++ (listB (byt (y ^^^ t))).take j = l := ⟨_, rfl⟩
              have HOL2 : Box (ol2.length ≤ 5000) := ⟨by rw [← hol2, List.length_append, List.length_take, listB_len]; have := HOL.out; omega⟩
              obtain ⟨y1, hy1⟩ : ∃ y1, byt y j = y1 := ⟨_, rfl⟩
              obtain ⟨t1, ht1⟩ : ∃ t1, byt t j = t1 := ⟨_, rfl⟩
              have hy1l : y1 < 256 := by rw [← hy1]; exact Twk.byt_lt _ _
              have ht1l : t1 < 256 := by rw [← ht1]; exact Twk.byt_lt _ _
              have hyt : y1 ^^^ t1 < 256 := xor_lt' hy1l ht1l
              have hxr := u8_xor_nat y1 t1 hy1l ht1l
              have HZ : Box (ol2 ++ [y1 ^^^ t1] = ol ++ (listB (byt (y ^^^ t))).take (j + 1)) := ⟨by rw [take_snoc hj2, byt_xor, hy1, ht1, ← hol2, List.append_assoc]⟩
              have hcb := hA.cell (k := j) hj2
              rw [hy1] at hcb
              have hcy := (hTb.below hB).cellAt hk2 HTD.out hj2
              rw [add_off] at hcy
              rw [ht1] at hcy
              rw [hol2] at hO
              have hO : Own wr w5.heap.size u14 ol2 := hO
              have hSS : S72 g j y1 ⟨tb, ot + k * 16 + j, none⟩ t1 wr.drew := ⟨hcb, hcy⟩
              have HY1 := Box.mk hy1
              have HT1 := Box.mk ht1
              clear hol2 hy1 ht1 hcb hcy
              go_wp2_with fail
              refine wp_region_Z 13 13 (S72 g j y1 ⟨tb, ot + k * 16 + j, none⟩ t1) (fun _ => True) (by kernel_rfl) ?_
              have hS : _ ∧ True := ⟨hSS, trivial⟩
              refine wpAnyZ_any (i := 0) (oi := ⟨some 85, _, _, _, _, _⟩) (v := u14) rfl (by kernel_rfl) (by kernel_rfl) (by kernel_rfl) (by kernel_rfl) (fun _ _ _ h => h) (Or.inl ⟨by kernel_rfl, fun w' _ => ?_⟩) ⟨.inr hS.1, .inr hS.2⟩ ?_
              · go_simp
              simp only [Act.put, List.setIfInBounds_toArray, List.set_cons_zero, List.set_cons_succ]
              refine wpAnyZ_any (i := 1) (oi := ⟨some 86, _, _, _, _, _⟩) (v := .int .i64 (j : Int)) rfl (by kernel_rfl) (by kernel_rfl) (by kernel_rfl) (by kernel_rfl) (fun _ _ _ h => h) (Or.inl ⟨by kernel_rfl, fun w' _ => ?_⟩) ⟨.inr hS.1, .inr hS.2⟩ ?_
              · go_simp
              simp only [Act.put, List.setIfInBounds_toArray, List.set_cons_zero, List.set_cons_succ]
              refine wpAnyZ_any (i := 2) (oi := ⟨some 87, _, _, _, _, _⟩) (v := .pointer (some ⟨g, j, none⟩)) rfl (by kernel_rfl) (by kernel_rfl) (by kernel_rfl) (by kernel_rfl) (fun _ _ _ h => h) (Or.inl ⟨by kernel_rfl, fun w' _ => ?_⟩) ⟨.inr hS.1, .inr hS.2⟩ ?_
              · go_simp
              simp only [Act.put, List.setIfInBounds_toArray, List.set_cons_zero, List.set_cons_succ]
              refine wpAnyZ_take (i := 3) (oi := ⟨some 88, _, _, _, _, _⟩) (v := .int .u8 (y1 : Int)) rfl (by kernel_rfl) (by kernel_rfl) (by kernel_rfl) (by kernel_rfl) (fun _ _ _ h => h) (Or.inl ⟨by kernel_rfl, fun w' hSw => ?_⟩) hS ?_
              · (have c := hSw.cy; go_simp)
              simp only [Act.put, List.setIfInBounds_toArray, List.set_cons_zero, List.set_cons_succ]
              refine wpAnyZ_any (i := 4) (oi := ⟨some 89, _, _, _, _, _⟩) (v := .slice (some ⟨tb, ot, none⟩) nb ct) rfl (by kernel_rfl) (by kernel_rfl) (by kernel_rfl) (by kernel_rfl) (fun _ _ _ h => h) (Or.inl ⟨by kernel_rfl, fun w' _ => ?_⟩) ⟨.inr hS.1, .inr hS.2⟩ ?_
              · go_simp
              simp only [Act.put, List.setIfInBounds_toArray, List.set_cons_zero, List.set_cons_succ]
              refine wpAnyZ_any (i := 5) (oi := ⟨some 90, _, _, _, _, _⟩) (v := .int .i64 (k : Int)) rfl (by kernel_rfl) (by kernel_rfl) (by kernel_rfl) (by kernel_rfl) (fun _ _ _ h => h) (Or.inl ⟨by kernel_rfl, fun w' _ => ?_⟩) ⟨.inr hS.1, .inr hS.2⟩ ?_
              · go_simp
              simp only [Act.put, List.setIfInBounds_toArray, List.set_cons_zero, List.set_cons_succ]
              refine wpAnyZ_any (i := 6) (oi := ⟨some 91, _, _, _, _, _⟩) (v := .int .i64 (j : Int)) rfl (by kernel_rfl) (by kernel_rfl) (by kernel_rfl) (by kernel_rfl) (fun _ _ _ h => h) (Or.inl ⟨by kernel_rfl, fun w' _ => ?_⟩) ⟨.inr hS.1, .inr hS.2⟩ ?_
              · go_simp
              simp only [Act.put, List.setIfInBounds_toArray, List.set_cons_zero, List.set_cons_succ]
              refine wpAnyZ_any (i := 7) (oi := ⟨some 92, _, _, _, _, _⟩) (v := .pointer (some ⟨tb, ot + k * 16, none⟩)) rfl (by kernel_rfl) (by kernel_rfl) (by kernel_rfl) (by kernel_rfl) (fun _ _ _ h => h) (Or.inl ⟨by kernel_rfl, fun w' _ => ?_⟩) ⟨.inr hS.1, .inr hS.2⟩ ?_
              · go_simp
              simp only [Act.put, List.setIfInBounds_toArray, List.set_cons_zero, List.set_cons_succ]
              refine wpAnyZ_any (i := 8) (oi := ⟨some 93, _, _, _, _, _⟩) (v := .pointer (some ⟨tb, ot + k * 16 + j, none⟩)) rfl (by kernel_rfl) (by kernel_rfl) (by kernel_rfl) (by kernel_rfl) (fun _ _ _ h => h) (Or.inl ⟨by kernel_rfl, fun w' _ => ?_⟩) ⟨.inr hS.1, .inr hS.2⟩ ?_
              · go_simp
              simp only [Act.put, List.setIfInBounds_toArray, List.set_cons_zero, List.set_cons_succ]
              refine wpAnyZ_take (i := 9) (oi := ⟨some 94, _, _, _, _, _⟩) (v := .int .u8 (t1 : Int)) rfl (by kernel_rfl) (by kernel_rfl) (by kernel_rfl) (by kernel_rfl) (fun _ _ _ h => h) (Or.inl ⟨by kernel_rfl, fun w' hSw => ?_⟩) hS ?_
              · (have c := hSw.cx; go_simp)
              simp only [Act.put, List.setIfInBounds_toArray, List.set_cons_zero, List.set_cons_succ]
              refine wpAnyZ_any (i := 10) (oi := ⟨some 95, _, _, _, _, _⟩) (v := .int .u8 ((y1 ^^^ t1 : Nat) : Int)) rfl (by kernel_rfl) (by kernel_rfl) (by kernel_rfl) (by kernel_rfl) (fun _ _ _ h => h) (Or.inl ⟨by kernel_rfl, fun w' _ => ?_⟩) ⟨.inr hS.1, .inr hS.2⟩ ?_
              · go_simp
              simp only [Act.put, List.setIfInBounds_toArray, List.set_cons_zero, List.set_cons_succ]
              refine wpAnyZ_one (i := 11) (o := ⟨some 96, _, _, _, _, _⟩) (by kernel_rfl) rfl (by kernel_rfl) (fun K hK => ?_)
              go_simp
              have hS := (show _ ∧ True from ⟨hS.1.alloc (.cells #[.int .u8 ((y1 ^^^ t1 : Nat) : Int)] 5), trivial⟩)
              refine hK.out _ _ ⟨.inr hS.1, .inr hS.2⟩ ?_
              clear hK K
              refine wpAnyZ_one (i := 12) (o := ⟨some 97, _, _, _, _, _⟩) (by kernel_rfl) rfl (by kernel_rfl) (fun K hK => ?_)
              refine wpo_appA (.tmp 85) (.tmp 96) rfl w5.heap.size u14 ol2 rfl ((hO.below (Below.refl _ _).drew (Nat.le_refl _)).alloc _) (some ⟨wr.heap.size, 0, none⟩) 1 1 [y1 ^^^ t1] rfl (bytes_one _ _ _ 5 rfl hyt) (by have := HOL2.out; omega) (by have := hB.size; simp; omega) ?_
              intro v2 w8 k1 k2 k3
              have hBn : Below w5.heap.size w5 w8 := grown_below (hB.drew.alloc hB.size _) k2 (by have := hB.size; simp; omega) (fun b h => (hO.ge b h).1)
              have hAn : Arr w8 g (byt y) := (hA.drewN 1 |>.alloc _).grown k2 (fun h => hob _ h.symm rfl)
              have hS97 : S72 g j y1 ⟨tb, ot + k * 16 + j, none⟩ t1 w8 := ⟨by rw [← HY1.out]; exact hAn.cell hj2, by have h := (hTb.below hBn).cellAt hk2 HTD.out hj2; rwa [add_off, HT1.out] at h⟩
              have hS := (show _ ∧ True from ⟨hS97, trivial⟩)
              refine hK.out _ _ ⟨.inr hS.1, .inr hS.2⟩ ?_
              clear hK K
              simp only [Act.put, List.setIfInBounds_toArray, List.set_cons_zero, List.set_cons_succ]
              refine wpAnyZ_one (i := 13) (o := ⟨some 14, _, _, _, _, _⟩) (by kernel_rfl) rfl (by kernel_rfl) (fun K hK => ?_)
              go_simp
              refine hK.out _ _ ⟨.inl (show _ = true by kernel_rfl), .inl (show _ = true by kernel_rfl)⟩ ?_
              clear hK K hS
              refine wpAnyZ_done (by kernel_rfl) ?_ _
              go_wp2_with fail
              have hob' : ∀ b, v2.ownBlock = some b → b ≠ g := fun b h => by
                rcases k3 with k3 | k3
                · exact hob b (by rw [← k3]; exact h)
                · rw [k3] at h
                  injection h with h
                  have := hA.lt
                  simp at h
                  omega
              go_roundw
              case rel => exact ⟨j + 1, by go_num, by omega, by rw [← HZ.out]; exact k1, hAn, hob', hBn⟩
              case measure => simp [intOf]; omega
        · have hj2 : j < 16 := by omega
          clear hj16
          obtain ⟨q, hq⟩ : ∃ q, q = 16 * k + j := ⟨_, rfl⟩
          have HQ := Box.mk hq
          have hqm : q < m := by have := HNB.out; omega
          have hqc : (q : Int) < (m : Int) := by omega
          have q0 : (0 : Int) ≤ (q : Int) := by omega
          have hkb : k ≤ 256 := by omega
          obtain ⟨x1, hx1⟩ : ∃ x1, byt x j = x1 := ⟨_, rfl⟩
          obtain ⟨t1, ht1⟩ : ∃ t1, byt t j = t1 := ⟨_, rfl⟩
          have hx1l : x1 < 256 := by rw [← hx1]; exact Twk.byt_lt _ _
          have ht1l : t1 < 256 := by rw [← ht1]; exact Twk.byt_lt _ _
          have hxr := u8_xor_nat x1 t1 hx1l ht1l
          have hBr := hB.trans (hB1.mono hB.size)
          have hcx : wr.cell? (ad.add q) = some (.int .u8 (x1 : Int)) := by
            obtain ⟨ad', e, hcc⟩ := (hd5.below hBr).2.2.2 hm0
            injection e with e
            subst e
            rw [hcc q hqm, hq, HXJ.out j hj2, hx1]
          have hcy := (hTb.below hBr).cellAt hk2 HTD.out hj2
          rw [add_off] at hcy
          rw [ht1] at hcy
          have hcb := hA.cell hj2
          rw [H.out j, if_neg (by omega)] at hcb
          have hSS : S71 (ad.add q) ⟨tb, ot + k * 16 + j, none⟩ g j x1 t1 wr.drew := ⟨hcx, hcy, hcb, hA.free j⟩
          clear hq hcx hcy hcb
          go_wp2_with fail
          refine wp_region_Z 16 16 (S71 (ad.add q) ⟨tb, ot + k * 16 + j, none⟩ g j x1 t1) (fun _ => True) (by kernel_rfl) ?_
          have hS : _ ∧ True := ⟨hSS, trivial⟩
          refine wpAnyZ_any (i := 0) (oi := ⟨some 58, _, _, _, _, _⟩) (v := .int .i64 (j : Int)) rfl (by kernel_rfl) (by kernel_rfl) (by kernel_rfl) (by kernel_rfl) (fun _ _ _ h => h) (Or.inl ⟨by kernel_rfl, fun w' _ => ?_⟩) ⟨.inr hS.1, .inr hS.2⟩ ?_
          · go_simp
          simp only [Act.put, List.setIfInBounds_toArray, List.set_cons_zero, List.set_cons_succ]
          refine wpAnyZ_any (i := 1) (oi := ⟨some 59, _, _, _, _, _⟩) (v := .slice (some ad) m c1) rfl (by kernel_rfl) (by kernel_rfl) (by kernel_rfl) (by kernel_rfl) (fun _ _ _ h => h) (Or.inl ⟨by kernel_rfl, fun w' _ => ?_⟩) ⟨.inr hS.1, .inr hS.2⟩ ?_
          · go_simp
          simp only [Act.put, List.setIfInBounds_toArray, List.set_cons_zero, List.set_cons_succ]
          refine wpAnyZ_any (i := 2) (oi := ⟨some 60, _, _, _, _, _⟩) (v := .int .i64 (k : Int)) rfl (by kernel_rfl) (by kernel_rfl) (by kernel_rfl) (by kernel_rfl) (fun _ _ _ h => h) (Or.inl ⟨by kernel_rfl, fun w' _ => ?_⟩) ⟨.inr hS.1, .inr hS.2⟩ ?_
          · go_simp
          simp only [Act.put, List.setIfInBounds_toArray, List.set_cons_zero, List.set_cons_succ]
          refine wpAnyZ_any (i := 3) (oi := ⟨some 61, _, _, _, _, _⟩) (v := .int .i64 (16 * (k : Int))) rfl (by kernel_rfl) (by kernel_rfl) (by kernel_rfl) (by kernel_rfl) (fun _ _ _ h => h) (Or.inl ⟨by kernel_rfl, fun w' _ => ?_⟩) ⟨.inr hS.1, .inr hS.2⟩ ?_
          · (go_simp; exact IntWalk.i64_in _ (by omega))
          simp only [Act.put, List.setIfInBounds_toArray, List.set_cons_zero, List.set_cons_succ]
          refine wpAnyZ_any (i := 4) (oi := ⟨some 62, _, _, _, _, _⟩) (v := .int .i64 (j : Int)) rfl (by kernel_rfl) (by kernel_rfl) (by kernel_rfl) (by kernel_rfl) (fun _ _ _ h => h) (Or.inl ⟨by kernel_rfl, fun w' _ => ?_⟩) ⟨.inr hS.1, .inr hS.2⟩ ?_
          · go_simp
          simp only [Act.put, List.setIfInBounds_toArray, List.set_cons_zero, List.set_cons_succ]
          refine wpAnyZ_any (i := 5) (oi := ⟨some 63, _, _, _, _, _⟩) (v := .int .i64 (q : Int)) rfl (by kernel_rfl) (by kernel_rfl) (by kernel_rfl) (by kernel_rfl) (fun _ _ _ h => h) (Or.inl ⟨by kernel_rfl, fun w' _ => ?_⟩) ⟨.inr hS.1, .inr hS.2⟩ ?_
          · (go_simp; rw [show 16 * (k : Int) + (j : Int) = (q : Int) by have := HQ.out; omega]; exact IntWalk.i64_in _ (by omega))
          simp only [Act.put, List.setIfInBounds_toArray, List.set_cons_zero, List.set_cons_succ]
          refine wpAnyZ_any (i := 6) (oi := ⟨some 64, _, _, _, _, _⟩) (v := .pointer (some (ad.add q))) rfl (by kernel_rfl) (by kernel_rfl) (by kernel_rfl) (by kernel_rfl) (fun _ _ _ h => h) (Or.inl ⟨by kernel_rfl, fun w' _ => ?_⟩) ⟨.inr hS.1, .inr hS.2⟩ ?_
          · go_simp
          simp only [Act.put, List.setIfInBounds_toArray, List.set_cons_zero, List.set_cons_succ]
          refine wpAnyZ_take (i := 7) (oi := ⟨some 65, _, _, _, _, _⟩) (v := .int .u8 (x1 : Int)) rfl (by kernel_rfl) (by kernel_rfl) (by kernel_rfl) (by kernel_rfl) (fun _ _ _ h => h) (Or.inl ⟨by kernel_rfl, fun w' hSw => ?_⟩) hS ?_
          · (have c := hSw.cx; go_simp)
          simp only [Act.put, List.setIfInBounds_toArray, List.set_cons_zero, List.set_cons_succ]
          refine wpAnyZ_any (i := 8) (oi := ⟨some 66, _, _, _, _, _⟩) (v := .slice (some ⟨tb, ot, none⟩) nb ct) rfl (by kernel_rfl) (by kernel_rfl) (by kernel_rfl) (by kernel_rfl) (fun _ _ _ h => h) (Or.inl ⟨by kernel_rfl, fun w' _ => ?_⟩) ⟨.inr hS.1, .inr hS.2⟩ ?_
          · go_simp
          simp only [Act.put, List.setIfInBounds_toArray, List.set_cons_zero, List.set_cons_succ]
          refine wpAnyZ_any (i := 9) (oi := ⟨some 67, _, _, _, _, _⟩) (v := .int .i64 (k : Int)) rfl (by kernel_rfl) (by kernel_rfl) (by kernel_rfl) (by kernel_rfl) (fun _ _ _ h => h) (Or.inl ⟨by kernel_rfl, fun w' _ => ?_⟩) ⟨.inr hS.1, .inr hS.2⟩ ?_
          · go_simp
          simp only [Act.put, List.setIfInBounds_toArray, List.set_cons_zero, List.set_cons_succ]
          refine wpAnyZ_any (i := 10) (oi := ⟨some 68, _, _, _, _, _⟩) (v := .int .i64 (j : Int)) rfl (by kernel_rfl) (by kernel_rfl) (by kernel_rfl) (by kernel_rfl) (fun _ _ _ h => h) (Or.inl ⟨by kernel_rfl, fun w' _ => ?_⟩) ⟨.inr hS.1, .inr hS.2⟩ ?_
          · go_simp
          simp only [Act.put, List.setIfInBounds_toArray, List.set_cons_zero, List.set_cons_succ]
          refine wpAnyZ_any (i := 11) (oi := ⟨some 69, _, _, _, _, _⟩) (v := .pointer (some ⟨tb, ot + k * 16, none⟩)) rfl (by kernel_rfl) (by kernel_rfl) (by kernel_rfl) (by kernel_rfl) (fun _ _ _ h => h) (Or.inl ⟨by kernel_rfl, fun w' _ => ?_⟩) ⟨.inr hS.1, .inr hS.2⟩ ?_
          · go_simp
          simp only [Act.put, List.setIfInBounds_toArray, List.set_cons_zero, List.set_cons_succ]
          refine wpAnyZ_any (i := 12) (oi := ⟨some 70, _, _, _, _, _⟩) (v := .pointer (some ⟨tb, ot + k * 16 + j, none⟩)) rfl (by kernel_rfl) (by kernel_rfl) (by kernel_rfl) (by kernel_rfl) (fun _ _ _ h => h) (Or.inl ⟨by kernel_rfl, fun w' _ => ?_⟩) ⟨.inr hS.1, .inr hS.2⟩ ?_
          · go_simp
          simp only [Act.put, List.setIfInBounds_toArray, List.set_cons_zero, List.set_cons_succ]
          refine wpAnyZ_take (i := 13) (oi := ⟨some 71, _, _, _, _, _⟩) (v := .int .u8 (t1 : Int)) rfl (by kernel_rfl) (by kernel_rfl) (by kernel_rfl) (by kernel_rfl) (fun _ _ _ h => h) (Or.inl ⟨by kernel_rfl, fun w' hSw => ?_⟩) hS ?_
          · (have c := hSw.cy; go_simp)
          simp only [Act.put, List.setIfInBounds_toArray, List.set_cons_zero, List.set_cons_succ]
          refine wpAnyZ_any (i := 14) (oi := ⟨some 72, _, _, _, _, _⟩) (v := .int .u8 ((x1 ^^^ t1 : Nat) : Int)) rfl (by kernel_rfl) (by kernel_rfl) (by kernel_rfl) (by kernel_rfl) (fun _ _ _ h => h) (Or.inl ⟨by kernel_rfl, fun w' _ => ?_⟩) ⟨.inr hS.1, .inr hS.2⟩ ?_
          · go_simp
          simp only [Act.put, List.setIfInBounds_toArray, List.set_cons_zero, List.set_cons_succ]
          refine wpAnyZ_any (i := 15) (oi := ⟨some 73, _, _, _, _, _⟩) (v := .pointer (some ⟨g, j, none⟩)) rfl (by kernel_rfl) (by kernel_rfl) (by kernel_rfl) (by kernel_rfl) (fun _ _ _ h => h) (Or.inl ⟨by kernel_rfl, fun w' _ => ?_⟩) ⟨.inr hS.1, .inr hS.2⟩ ?_
          · go_simp
          simp only [Act.put, List.setIfInBounds_toArray, List.set_cons_zero, List.set_cons_succ]
          refine wpAnyZ_one (i := 16) (o := ⟨none, _, _, _, _, _⟩) (by kernel_rfl) rfl (by kernel_rfl) (fun K hK => ?_)
          have c := hS.1.cb
          have hfz := hS.1.fb
          go_simp
          refine hK.out _ _ ⟨.inl (show _ = true by kernel_rfl), .inl (show _ = true by kernel_rfl)⟩ ?_
          clear hK K hS
          refine wpAnyZ_done (by kernel_rfl) ?_ _
          go_wp2_with fail
          go_roundw
          case rel =>
            refine ⟨j + 1, upd h j (x1 ^^^ t1), by go_num, by omega, ⟨fun i => ?_⟩, (Arr.set hA).drew, (hB1.setCell (by rw [HG.out]; exact Nat.le_refl _) _).drew⟩
            unfold upd
            by_cases e : i = j
            · subst e
              rw [if_pos rfl, if_pos (by omega), hx1, ht1]
            · rw [if_neg e, H.out i]
              by_cases hjk : i < j
              · rw [if_pos hjk, if_pos (by omega)]
              · rw [if_neg hjk, if_neg (by omega)]
          case measure => simp [intOf]; omega
set_option maxRecDepth 100000 in
set_option maxHeartbeats 8000000 in
theorem rxts_d64 (X : Nat) (ad0 : Addr) (c : Nat) (l : List Nat) (u : Nat) (B : Option Addr) (m c1 : Nat) (d : List Nat) (w : World) (hl : Bytes w (some ad0) 64 l) (hc : 64 ≤ c) (hd : Bytes w B m d) (_hc1 : m ≤ c1) (hM : MayX 64 (u : Int)) (hm16 : m % 16 = 0) (hm2 : m ≤ 4096) (hX : BoxM w X) :
    Calls Try.prog 71 #[.pointer (some ⟨X, 0, none⟩), .slice (some ad0) 64 c, .int .i64 (u : Int), .slice B m c1, .bool true] w (YesRowB (xtL true (half1 l) (half2 l) u d (m / 16)) m w) := by
  obtain ⟨nb, hnb⟩ : ∃ nb, m / 16 = nb := ⟨_, rfl⟩
  rw [hnb]
  have HNB : Box (m = 16 * nb) := ⟨by omega⟩
  have hni : (m : Int) / 16 = (nb : Int) := by omega
  have hnbl : nb ≤ 256 := by omega
  have a2 : ((m : Int) % 16 != 0) = false := by simp; omega
  have hk1 : MayK (half1 l).length := half1_may (by rw [hl.1]; exact hM.1)
  have HM := Box.mk (fun w => rmay_yes (some ad0) 64 c (u : Int) w hM)
  have HTW : Box (∀ (w : World), Bytes w (some ad0) 64 l → BoxM w X → Calls Try.prog 75 #[.pointer (some ⟨X, 0, none⟩), .slice (some ad0) 64 c, .int .i64 (u : Int), .int .i64 (nb : Int)] w (TwQ (half2 l) u nb w)) := ⟨fun w h hX => rtw_any X (some ad0) 64 c l u nb w h hc hM (by omega) hX⟩
  have HN1 : Box (∀ (w : World), Bytes w (some ad0) 64 l → BoxM w X → Calls Try.prog 63 #[.pointer (some ⟨X, 0, none⟩), .slice (some ad0) 32 c] w fun e w' => RnewQ (half1 l) X w e w') := ⟨fun w h hX => by
    have e1 : half1 l = l.take 32 := by unfold half1; rw [hl.1]
    rw [e1]
    exact rnew_any X _ 32 c (l.take 32) _ (h.take (by decide)) hX (by decide)⟩
  generalize half1 l = k1 at hk1 HN1 ⊢
  generalize half2 l = k2 at HTW ⊢
  have HF0 : Box (∀ (C x : Nat) (w : World), Rciph w C X (words k1) → Calls Try.prog 67 #[.pointer (some ⟨C, 0, none⟩), .agg (bv (byt x))] w fun e w' => e = .returned (.agg (bv (byt (decN k1 x)))) ∧ Below w.heap.size w w') := ⟨fun C x w h => rdecN C X k1 x hk1 w h⟩
  clear hnb hk1 hM
  go_enter Try.func71, Try.ntmps71
  go_wp2_with fail
  refine (HM.out _).mono ?_
  rintro e w1 ⟨rfl, rfl⟩
  go_wp2_with fail
  refine (HN1.out _ hl hX).mono ?_
  rintro e w2 ⟨C, rfl, hC, hb2, _⟩
  go_wp2_with fail
  refine (HTW.out _ (hl.below hb2) (hX.below hb2 hX.lt)).mono ?_
  rintro e w5 ⟨vt, rfl, hT, hb5⟩
  have hC := hC.below hb5
  have hw5 := hb2.trans (hb5.mono hb2.size)
  have hd5 := hd.below hw5
  obtain ⟨At, ct, hvt, hTb⟩ := hT.blocks
  subst hvt
  rw [twL_len] at hTb ⊢
  clear hT hb2 hb5 hl hX hd HM HN1 HTW
  go_wp2_with fail
  go_loopw [14, 15, 16, 17, 18] (fun o i _a _b _c wr => ∃ (k : Nat), i = .int .i64 (k : Int) ∧ k ≤ nb ∧ Own wr w5.heap.size o (xtL true k1 k2 u d k) ∧ Below w5.heap.size w5 wr) (fun _ i _ _ _ _ => nb - (intOf i).toNat)
  case atStart => exact ⟨0, rfl, by omega, own_nil _ _, Below.refl _ _⟩
  case round =>
    obtain ⟨k, rfl, hk, hO, hB⟩ := hrel
    have hO : Own wr w5.heap.size u14 (xtL true k1 k2 u d k) := hO
    by_cases hkn : k = nb
    · subst hkn
      have hO2 : Own wr w.heap.size _ _ := hO.le hw5.size
      obtain ⟨Ao, co, hvo⟩ := hO2.form
      subst hvo
      rw [xtL_len] at hO2 ⊢
      have hcap := hO2.cap
      have hm' := HNB.out
      clear hO
      go_wp2_with fail
      go_ret2
      rw [← hm'] at hO2 hcap ⊢
      exact ⟨_, _, rfl, hO2, hcap, hw5.trans (hB.mono hw5.size)⟩
    · have hk2 : k < nb := by omega
      clear hkn
      have hdk : decide ((k : Int) < (nb : Int)) = true := decide_eq_true (by omega)
      have hm0 : 0 < m := by have := HNB.out; omega
      obtain ⟨ad, hBe, _⟩ := hd5.2.2.2 hm0
      subst hBe
      obtain ⟨tb, ot, t, hAt, htd, htl, _, _⟩ := (hTb.below hB).at_ hk2
      subst hAt
      have HTD := Box.mk htd
      have htw : twN k2 u k = t := by rw [← twL_get k2 u hk2]; exact htd
      have hdl := hd5.2.2.1
      obtain ⟨x, hx⟩ : ∃ x, datN d k = x := ⟨_, rfl⟩
      have hxl : x < 2 ^ 128 := by rw [← hx]; exact datN_lt hdl k
      have HXJ : Box (∀ j, j < 16 → d.getD (16 * k + j) 0 = byt x j) := ⟨fun j hj => by rw [← hx, datN, byt_numF (datF_lt hdl k) 16 j hj]; rfl⟩
      have hoB : ∀ b, u14.ownBlock = some b → b < wr.heap.size := fun b h => (hO.ge b h).2
      have HXL : Box (xtL true k1 k2 u d (k + 1) = xtL true k1 k2 u d k ++ listB (byt (decN k1 (x ^^^ t) ^^^ t))) := ⟨by rw [xtL]; unfold xtB; rw [hx, htw]; rfl⟩
      obtain ⟨ol, hol⟩ : ∃ ol, xtL true k1 k2 u d k = ol := ⟨_, rfl⟩
      have HOL : Box (ol.length ≤ 4096) := ⟨by rw [← hol, xtL_len]; omega⟩
      rw [hol] at hO HXL
      have hO : Own wr w5.heap.size u14 ol := hO
      have HDL := Box.mk hdl
      clear hx htd htw hol hdl
      go_wp2_with fail
      obtain ⟨wo, rfl⟩ : ∃ wo : World, wo = wr := ⟨_, rfl⟩
      obtain ⟨g, hg⟩ : ∃ g, g = wo.heap.size := ⟨_, rfl⟩
      have hA0 : Arr (wo.alloc (.cells #[.int .u8 0, .int .u8 0, .int .u8 0, .int .u8 0, .int .u8 0, .int .u8 0, .int .u8 0, .int .u8 0, .int .u8 0, .int .u8 0, .int .u8 0, .int .u8 0, .int .u8 0, .int .u8 0, .int .u8 0, .int .u8 0] 36)) g (fun _ => 0) := Arr.zero _ _ hg
      have hB0 : Below wo.heap.size wo (wo.alloc (.cells #[.int .u8 0, .int .u8 0, .int .u8 0, .int .u8 0, .int .u8 0, .int .u8 0, .int .u8 0, .int .u8 0, .int .u8 0, .int .u8 0, .int .u8 0, .int .u8 0, .int .u8 0, .int .u8 0, .int .u8 0, .int .u8 0] 36)) := (Below.refl _ _).alloc (Nat.le_refl _) _
      rw [← hg]
      have HG := Box.mk hg
      clear hg
      go_loopw [17] (fun i wr => ∃ (j : Nat) (h : Nat → Nat), i = .int .i64 (j : Int) ∧ j ≤ 16 ∧ Box (∀ i, h i = if i < j then byt x i ^^^ byt t i else 0) ∧ Arr wr g h ∧ Below wo.heap.size wo wr) (fun i _ => 16 - (intOf i).toNat)
      case atStart => exact ⟨0, fun _ => 0, rfl, by omega, ⟨fun i => by simp⟩, hA0, hB0⟩
      case round =>
        clear hA0 hB0
        obtain ⟨j, h, rfl, hj, H, hA, hB1⟩ := hrel
        by_cases hj16 : j = 16
        · subst hj16
          have hA2 : Arr wr g (byt (x ^^^ t)) := hA.congr fun i hi => by rw [H.out i, if_pos hi, byt_xor]
          have hBr := hB.trans (hB1.mono hB.size)
          have HF : Box (∀ (w : World), Rciph w C X (words k1) → Calls Try.prog 67 #[.pointer (some ⟨C, 0, none⟩), .agg (bv (byt (x ^^^ t)))] w fun e w' => e = .returned (.agg (bv (byt (decN k1 (x ^^^ t))))) ∧ Below w.heap.size w w') := ⟨fun w h => HF0.out C (x ^^^ t) w h⟩
          obtain ⟨y, hy⟩ : ∃ y, decN k1 (x ^^^ t) = y := ⟨_, rfl⟩
          rw [hy] at HF HXL
          have hO2 := hO.below hB1 (Nat.le_refl _)
          have hgw : w5.heap.size ≤ g := by rw [HG.out]; exact hB.size
          clear hA H hy hB1 hB
          go_wp2_with (first
              | ((with_reducible show wpList _ _ _ (⟨some 76, Op.load 36 (.tmp 16), _, _, _, _⟩ :: _) _ _); refine wp_load_arr rfl (.tmp 16) rfl (g) (byt (x ^^^ t)) rfl (hA2) ?_))
          refine (HF.out _ (hC.below hBr)).mono ?_
          rintro e w6 ⟨rfl, hb6⟩
          have hA3 := hA2.below hb6 hA2.lt
          have hO3 := hO2.below hb6 (Nat.le_refl _)
          have hB6 := hBr.trans (hb6.mono hBr.size)
          clear hA2 hO2 hBr hb6 HF
          go_wp2_with (first
              | ((with_reducible show wpList _ _ _ (⟨_, Op.store 36 (.tmp 16) (.tmp 77), _, _, _, _⟩ :: _) _ _); refine wp_store_arr rfl (.tmp 16) (.tmp 77) rfl (g) (byt (x ^^^ t)) (byt y) rfl rfl (hA3) ?_))
          have hA4 : Arr (w6.setRow g (bv (byt y))) g (byt y) := hA3.setRow
          have hO4 := hO3.setRow (g := g) (fun h => by have := hoB _ h; have := HG.out; omega) (bv (byt y))
          have hB7 := below_setRow hB6 hgw (bv (byt y))
          revert hA4 hO4 hB7
          generalize w6.setRow g (bv (byt y)) = w7
          intro hA4 hO4 hB7
          clear hA3 hO3 hB6
          go_loopw [14, 18] (fun o i wr => ∃ (j : Nat), i = .int .i64 (j : Int) ∧ j ≤ 16 ∧ Own wr w5.heap.size o (ol ++ (listB (byt (y ^^^ t))).take j) ∧ Arr wr g (byt y) ∧ (∀ b, o.ownBlock = some b → b ≠ g) ∧ Below w5.heap.size w5 wr) (fun _ i _ => 16 - (intOf i).toNat)
          case atStart => exact ⟨0, rfl, by omega, by simpa using hO4, hA4, fun b h => by have := hoB _ h; have := HG.out; omega, hB7⟩
          case round =>
            clear hA4 hO4 hB7 hoB hO
            obtain ⟨j, rfl, hj, hO, hA, hob, hB⟩ := hrel
            have hO : Own wr w5.heap.size u14 (ol ++ (listB (byt (y ^^^ t))).take j) := hO
            by_cases hj16 : j = 16
            · subst hj16
              rw [show (listB (byt (y ^^^ t))).take 16 = listB (byt (y ^^^ t)) from List.take_of_length_le (by rw [listB_len]; exact Nat.le_refl _), ← HXL.out] at hO
              go_wp2_with fail
              go_roundw
              case rel => exact ⟨k + 1, by go_num, by omega, hO, hB⟩
              case measure => simp [intOf]; omega
            · have hj2 : j < 16 := by omega
              clear hj16
              obtain ⟨ol2, hol2⟩ : ∃ l, ol ++ (listB (byt (y ^^^ t))).take j = l := ⟨_, rfl⟩
              have HOL2 : Box (ol2.length ≤ 5000) := ⟨by rw [← hol2, List.length_append, List.length_take, listB_len]; have := HOL.out; omega⟩
              obtain ⟨y1, hy1⟩ : ∃ y1, byt y j = y1 := ⟨_, rfl⟩
              obtain ⟨t1, ht1⟩ : ∃ t1, byt t j = t1 := ⟨_, rfl⟩
              have hy1l : y1 < 256 := by rw [← hy1]; exact Twk.byt_lt _ _
              have ht1l : t1 < 256 := by rw [← ht1]; exact Twk.byt_lt _ _
              have hyt : y1 ^^^ t1 < 256 := xor_lt' hy1l ht1l
              have hxr := u8_xor_nat y1 t1 hy1l ht1l
              have HZ : Box (ol2 ++ [y1 ^^^ t1] = ol ++ (listB (byt (y ^^^ t))).take (j + 1)) := ⟨by rw [take_snoc hj2, byt_xor, hy1, ht1, ← hol2, List.append_assoc]⟩
              have hcb := hA.cell (k := j) hj2
              rw [hy1] at hcb
              have hcy := (hTb.below hB).cellAt hk2 HTD.out hj2
              rw [add_off] at hcy
              rw [ht1] at hcy
              rw [hol2] at hO
              have hO : Own wr w5.heap.size u14 ol2 := hO
              have hSS : S72 g j y1 ⟨tb, ot + k * 16 + j, none⟩ t1 wr.drew := ⟨hcb, hcy⟩
              have HY1 := Box.mk hy1
              have HT1 := Box.mk ht1
              clear hol2 hy1 ht1 hcb hcy
              go_wp2_with fail
              refine wp_region_Z 13 13 (S72 g j y1 ⟨tb, ot + k * 16 + j, none⟩ t1) (fun _ => True) (by kernel_rfl) ?_
              have hS : _ ∧ True := ⟨hSS, trivial⟩
              refine wpAnyZ_any (i := 0) (oi := ⟨some 85, _, _, _, _, _⟩) (v := u14) rfl (by kernel_rfl) (by kernel_rfl) (by kernel_rfl) (by kernel_rfl) (fun _ _ _ h => h) (Or.inl ⟨by kernel_rfl, fun w' _ => ?_⟩) ⟨.inr hS.1, .inr hS.2⟩ ?_
              · go_simp
              simp only [Act.put, List.setIfInBounds_toArray, List.set_cons_zero, List.set_cons_succ]
              refine wpAnyZ_any (i := 1) (oi := ⟨some 86, _, _, _, _, _⟩) (v := .int .i64 (j : Int)) rfl (by kernel_rfl) (by kernel_rfl) (by kernel_rfl) (by kernel_rfl) (fun _ _ _ h => h) (Or.inl ⟨by kernel_rfl, fun w' _ => ?_⟩) ⟨.inr hS.1, .inr hS.2⟩ ?_
              · go_simp
              simp only [Act.put, List.setIfInBounds_toArray, List.set_cons_zero, List.set_cons_succ]
              refine wpAnyZ_any (i := 2) (oi := ⟨some 87, _, _, _, _, _⟩) (v := .pointer (some ⟨g, j, none⟩)) rfl (by kernel_rfl) (by kernel_rfl) (by kernel_rfl) (by kernel_rfl) (fun _ _ _ h => h) (Or.inl ⟨by kernel_rfl, fun w' _ => ?_⟩) ⟨.inr hS.1, .inr hS.2⟩ ?_
              · go_simp
              simp only [Act.put, List.setIfInBounds_toArray, List.set_cons_zero, List.set_cons_succ]
              refine wpAnyZ_take (i := 3) (oi := ⟨some 88, _, _, _, _, _⟩) (v := .int .u8 (y1 : Int)) rfl (by kernel_rfl) (by kernel_rfl) (by kernel_rfl) (by kernel_rfl) (fun _ _ _ h => h) (Or.inl ⟨by kernel_rfl, fun w' hSw => ?_⟩) hS ?_
              · (have c := hSw.cy; go_simp)
              simp only [Act.put, List.setIfInBounds_toArray, List.set_cons_zero, List.set_cons_succ]
              refine wpAnyZ_any (i := 4) (oi := ⟨some 89, _, _, _, _, _⟩) (v := .slice (some ⟨tb, ot, none⟩) nb ct) rfl (by kernel_rfl) (by kernel_rfl) (by kernel_rfl) (by kernel_rfl) (fun _ _ _ h => h) (Or.inl ⟨by kernel_rfl, fun w' _ => ?_⟩) ⟨.inr hS.1, .inr hS.2⟩ ?_
              · go_simp
              simp only [Act.put, List.setIfInBounds_toArray, List.set_cons_zero, List.set_cons_succ]
              refine wpAnyZ_any (i := 5) (oi := ⟨some 90, _, _, _, _, _⟩) (v := .int .i64 (k : Int)) rfl (by kernel_rfl) (by kernel_rfl) (by kernel_rfl) (by kernel_rfl) (fun _ _ _ h => h) (Or.inl ⟨by kernel_rfl, fun w' _ => ?_⟩) ⟨.inr hS.1, .inr hS.2⟩ ?_
              · go_simp
              simp only [Act.put, List.setIfInBounds_toArray, List.set_cons_zero, List.set_cons_succ]
              refine wpAnyZ_any (i := 6) (oi := ⟨some 91, _, _, _, _, _⟩) (v := .int .i64 (j : Int)) rfl (by kernel_rfl) (by kernel_rfl) (by kernel_rfl) (by kernel_rfl) (fun _ _ _ h => h) (Or.inl ⟨by kernel_rfl, fun w' _ => ?_⟩) ⟨.inr hS.1, .inr hS.2⟩ ?_
              · go_simp
              simp only [Act.put, List.setIfInBounds_toArray, List.set_cons_zero, List.set_cons_succ]
              refine wpAnyZ_any (i := 7) (oi := ⟨some 92, _, _, _, _, _⟩) (v := .pointer (some ⟨tb, ot + k * 16, none⟩)) rfl (by kernel_rfl) (by kernel_rfl) (by kernel_rfl) (by kernel_rfl) (fun _ _ _ h => h) (Or.inl ⟨by kernel_rfl, fun w' _ => ?_⟩) ⟨.inr hS.1, .inr hS.2⟩ ?_
              · go_simp
              simp only [Act.put, List.setIfInBounds_toArray, List.set_cons_zero, List.set_cons_succ]
              refine wpAnyZ_any (i := 8) (oi := ⟨some 93, _, _, _, _, _⟩) (v := .pointer (some ⟨tb, ot + k * 16 + j, none⟩)) rfl (by kernel_rfl) (by kernel_rfl) (by kernel_rfl) (by kernel_rfl) (fun _ _ _ h => h) (Or.inl ⟨by kernel_rfl, fun w' _ => ?_⟩) ⟨.inr hS.1, .inr hS.2⟩ ?_
              · go_simp
              simp only [Act.put, List.setIfInBounds_toArray, List.set_cons_zero, List.set_cons_succ]
              refine wpAnyZ_take (i := 9) (oi := ⟨some 94, _, _, _, _, _⟩) (v := .int .u8 (t1 : Int)) rfl (by kernel_rfl) (by kernel_rfl) (by kernel_rfl) (by kernel_rfl) (fun _ _ _ h => h) (Or.inl ⟨by kernel_rfl, fun w' hSw => ?_⟩) hS ?_
              · (have c := hSw.cx; go_simp)
              simp only [Act.put, List.setIfInBounds_toArray, List.set_cons_zero, List.set_cons_succ]
              refine wpAnyZ_any (i := 10) (oi := ⟨some 95, _, _, _, _, _⟩) (v := .int .u8 ((y1 ^^^ t1 : Nat) : Int)) rfl (by kernel_rfl) (by kernel_rfl) (by kernel_rfl) (by kernel_rfl) (fun _ _ _ h => h) (Or.inl ⟨by kernel_rfl, fun w' _ => ?_⟩) ⟨.inr hS.1, .inr hS.2⟩ ?_
              · go_simp
              simp only [Act.put, List.setIfInBounds_toArray, List.set_cons_zero, List.set_cons_succ]
              refine wpAnyZ_one (i := 11) (o := ⟨some 96, _, _, _, _, _⟩) (by kernel_rfl) rfl (by kernel_rfl) (fun K hK => ?_)
              go_simp
              have hS := (show _ ∧ True from ⟨hS.1.alloc (.cells #[.int .u8 ((y1 ^^^ t1 : Nat) : Int)] 5), trivial⟩)
              refine hK.out _ _ ⟨.inr hS.1, .inr hS.2⟩ ?_
              clear hK K
              refine wpAnyZ_one (i := 12) (o := ⟨some 97, _, _, _, _, _⟩) (by kernel_rfl) rfl (by kernel_rfl) (fun K hK => ?_)
              refine wpo_appA (.tmp 85) (.tmp 96) rfl w5.heap.size u14 ol2 rfl ((hO.below (Below.refl _ _).drew (Nat.le_refl _)).alloc _) (some ⟨wr.heap.size, 0, none⟩) 1 1 [y1 ^^^ t1] rfl (bytes_one _ _ _ 5 rfl hyt) (by have := HOL2.out; omega) (by have := hB.size; simp; omega) ?_
              intro v2 w8 k1 k2 k3
              have hBn : Below w5.heap.size w5 w8 := grown_below (hB.drew.alloc hB.size _) k2 (by have := hB.size; simp; omega) (fun b h => (hO.ge b h).1)
              have hAn : Arr w8 g (byt y) := (hA.drewN 1 |>.alloc _).grown k2 (fun h => hob _ h.symm rfl)
              have hS97 : S72 g j y1 ⟨tb, ot + k * 16 + j, none⟩ t1 w8 := ⟨by rw [← HY1.out]; exact hAn.cell hj2, by have h := (hTb.below hBn).cellAt hk2 HTD.out hj2; rwa [add_off, HT1.out] at h⟩
              have hS := (show _ ∧ True from ⟨hS97, trivial⟩)
              refine hK.out _ _ ⟨.inr hS.1, .inr hS.2⟩ ?_
              clear hK K
              simp only [Act.put, List.setIfInBounds_toArray, List.set_cons_zero, List.set_cons_succ]
              refine wpAnyZ_one (i := 13) (o := ⟨some 14, _, _, _, _, _⟩) (by kernel_rfl) rfl (by kernel_rfl) (fun K hK => ?_)
              go_simp
              refine hK.out _ _ ⟨.inl (show _ = true by kernel_rfl), .inl (show _ = true by kernel_rfl)⟩ ?_
              clear hK K hS
              refine wpAnyZ_done (by kernel_rfl) ?_ _
              go_wp2_with fail
              have hob' : ∀ b, v2.ownBlock = some b → b ≠ g := fun b h => by
                rcases k3 with k3 | k3
                · exact hob b (by rw [← k3]; exact h)
                · rw [k3] at h
                  injection h with h
                  have := hA.lt
                  simp at h
                  omega
              go_roundw
              case rel => exact ⟨j + 1, by go_num, by omega, by rw [← HZ.out]; exact k1, hAn, hob', hBn⟩
              case measure => simp [intOf]; omega
        · have hj2 : j < 16 := by omega
          clear hj16
          obtain ⟨q, hq⟩ : ∃ q, q = 16 * k + j := ⟨_, rfl⟩
          have HQ := Box.mk hq
          have hqm : q < m := by have := HNB.out; omega
          have hqc : (q : Int) < (m : Int) := by omega
          have q0 : (0 : Int) ≤ (q : Int) := by omega
          have hkb : k ≤ 256 := by omega
          obtain ⟨x1, hx1⟩ : ∃ x1, byt x j = x1 := ⟨_, rfl⟩
          obtain ⟨t1, ht1⟩ : ∃ t1, byt t j = t1 := ⟨_, rfl⟩
          have hx1l : x1 < 256 := by rw [← hx1]; exact Twk.byt_lt _ _
          have ht1l : t1 < 256 := by rw [← ht1]; exact Twk.byt_lt _ _
          have hxr := u8_xor_nat x1 t1 hx1l ht1l
          have hBr := hB.trans (hB1.mono hB.size)
          have hcx : wr.cell? (ad.add q) = some (.int .u8 (x1 : Int)) := by
            obtain ⟨ad', e, hcc⟩ := (hd5.below hBr).2.2.2 hm0
            injection e with e
            subst e
            rw [hcc q hqm, hq, HXJ.out j hj2, hx1]
          have hcy := (hTb.below hBr).cellAt hk2 HTD.out hj2
          rw [add_off] at hcy
          rw [ht1] at hcy
          have hcb := hA.cell hj2
          rw [H.out j, if_neg (by omega)] at hcb
          have hSS : S71 (ad.add q) ⟨tb, ot + k * 16 + j, none⟩ g j x1 t1 wr.drew := ⟨hcx, hcy, hcb, hA.free j⟩
          clear hq hcx hcy hcb
          go_wp2_with fail
          refine wp_region_Z 16 16 (S71 (ad.add q) ⟨tb, ot + k * 16 + j, none⟩ g j x1 t1) (fun _ => True) (by kernel_rfl) ?_
          have hS : _ ∧ True := ⟨hSS, trivial⟩
          refine wpAnyZ_any (i := 0) (oi := ⟨some 58, _, _, _, _, _⟩) (v := .int .i64 (j : Int)) rfl (by kernel_rfl) (by kernel_rfl) (by kernel_rfl) (by kernel_rfl) (fun _ _ _ h => h) (Or.inl ⟨by kernel_rfl, fun w' _ => ?_⟩) ⟨.inr hS.1, .inr hS.2⟩ ?_
          · go_simp
          simp only [Act.put, List.setIfInBounds_toArray, List.set_cons_zero, List.set_cons_succ]
          refine wpAnyZ_any (i := 1) (oi := ⟨some 59, _, _, _, _, _⟩) (v := .slice (some ad) m c1) rfl (by kernel_rfl) (by kernel_rfl) (by kernel_rfl) (by kernel_rfl) (fun _ _ _ h => h) (Or.inl ⟨by kernel_rfl, fun w' _ => ?_⟩) ⟨.inr hS.1, .inr hS.2⟩ ?_
          · go_simp
          simp only [Act.put, List.setIfInBounds_toArray, List.set_cons_zero, List.set_cons_succ]
          refine wpAnyZ_any (i := 2) (oi := ⟨some 60, _, _, _, _, _⟩) (v := .int .i64 (k : Int)) rfl (by kernel_rfl) (by kernel_rfl) (by kernel_rfl) (by kernel_rfl) (fun _ _ _ h => h) (Or.inl ⟨by kernel_rfl, fun w' _ => ?_⟩) ⟨.inr hS.1, .inr hS.2⟩ ?_
          · go_simp
          simp only [Act.put, List.setIfInBounds_toArray, List.set_cons_zero, List.set_cons_succ]
          refine wpAnyZ_any (i := 3) (oi := ⟨some 61, _, _, _, _, _⟩) (v := .int .i64 (16 * (k : Int))) rfl (by kernel_rfl) (by kernel_rfl) (by kernel_rfl) (by kernel_rfl) (fun _ _ _ h => h) (Or.inl ⟨by kernel_rfl, fun w' _ => ?_⟩) ⟨.inr hS.1, .inr hS.2⟩ ?_
          · (go_simp; exact IntWalk.i64_in _ (by omega))
          simp only [Act.put, List.setIfInBounds_toArray, List.set_cons_zero, List.set_cons_succ]
          refine wpAnyZ_any (i := 4) (oi := ⟨some 62, _, _, _, _, _⟩) (v := .int .i64 (j : Int)) rfl (by kernel_rfl) (by kernel_rfl) (by kernel_rfl) (by kernel_rfl) (fun _ _ _ h => h) (Or.inl ⟨by kernel_rfl, fun w' _ => ?_⟩) ⟨.inr hS.1, .inr hS.2⟩ ?_
          · go_simp
          simp only [Act.put, List.setIfInBounds_toArray, List.set_cons_zero, List.set_cons_succ]
          refine wpAnyZ_any (i := 5) (oi := ⟨some 63, _, _, _, _, _⟩) (v := .int .i64 (q : Int)) rfl (by kernel_rfl) (by kernel_rfl) (by kernel_rfl) (by kernel_rfl) (fun _ _ _ h => h) (Or.inl ⟨by kernel_rfl, fun w' _ => ?_⟩) ⟨.inr hS.1, .inr hS.2⟩ ?_
          · (go_simp; rw [show 16 * (k : Int) + (j : Int) = (q : Int) by have := HQ.out; omega]; exact IntWalk.i64_in _ (by omega))
          simp only [Act.put, List.setIfInBounds_toArray, List.set_cons_zero, List.set_cons_succ]
          refine wpAnyZ_any (i := 6) (oi := ⟨some 64, _, _, _, _, _⟩) (v := .pointer (some (ad.add q))) rfl (by kernel_rfl) (by kernel_rfl) (by kernel_rfl) (by kernel_rfl) (fun _ _ _ h => h) (Or.inl ⟨by kernel_rfl, fun w' _ => ?_⟩) ⟨.inr hS.1, .inr hS.2⟩ ?_
          · go_simp
          simp only [Act.put, List.setIfInBounds_toArray, List.set_cons_zero, List.set_cons_succ]
          refine wpAnyZ_take (i := 7) (oi := ⟨some 65, _, _, _, _, _⟩) (v := .int .u8 (x1 : Int)) rfl (by kernel_rfl) (by kernel_rfl) (by kernel_rfl) (by kernel_rfl) (fun _ _ _ h => h) (Or.inl ⟨by kernel_rfl, fun w' hSw => ?_⟩) hS ?_
          · (have c := hSw.cx; go_simp)
          simp only [Act.put, List.setIfInBounds_toArray, List.set_cons_zero, List.set_cons_succ]
          refine wpAnyZ_any (i := 8) (oi := ⟨some 66, _, _, _, _, _⟩) (v := .slice (some ⟨tb, ot, none⟩) nb ct) rfl (by kernel_rfl) (by kernel_rfl) (by kernel_rfl) (by kernel_rfl) (fun _ _ _ h => h) (Or.inl ⟨by kernel_rfl, fun w' _ => ?_⟩) ⟨.inr hS.1, .inr hS.2⟩ ?_
          · go_simp
          simp only [Act.put, List.setIfInBounds_toArray, List.set_cons_zero, List.set_cons_succ]
          refine wpAnyZ_any (i := 9) (oi := ⟨some 67, _, _, _, _, _⟩) (v := .int .i64 (k : Int)) rfl (by kernel_rfl) (by kernel_rfl) (by kernel_rfl) (by kernel_rfl) (fun _ _ _ h => h) (Or.inl ⟨by kernel_rfl, fun w' _ => ?_⟩) ⟨.inr hS.1, .inr hS.2⟩ ?_
          · go_simp
          simp only [Act.put, List.setIfInBounds_toArray, List.set_cons_zero, List.set_cons_succ]
          refine wpAnyZ_any (i := 10) (oi := ⟨some 68, _, _, _, _, _⟩) (v := .int .i64 (j : Int)) rfl (by kernel_rfl) (by kernel_rfl) (by kernel_rfl) (by kernel_rfl) (fun _ _ _ h => h) (Or.inl ⟨by kernel_rfl, fun w' _ => ?_⟩) ⟨.inr hS.1, .inr hS.2⟩ ?_
          · go_simp
          simp only [Act.put, List.setIfInBounds_toArray, List.set_cons_zero, List.set_cons_succ]
          refine wpAnyZ_any (i := 11) (oi := ⟨some 69, _, _, _, _, _⟩) (v := .pointer (some ⟨tb, ot + k * 16, none⟩)) rfl (by kernel_rfl) (by kernel_rfl) (by kernel_rfl) (by kernel_rfl) (fun _ _ _ h => h) (Or.inl ⟨by kernel_rfl, fun w' _ => ?_⟩) ⟨.inr hS.1, .inr hS.2⟩ ?_
          · go_simp
          simp only [Act.put, List.setIfInBounds_toArray, List.set_cons_zero, List.set_cons_succ]
          refine wpAnyZ_any (i := 12) (oi := ⟨some 70, _, _, _, _, _⟩) (v := .pointer (some ⟨tb, ot + k * 16 + j, none⟩)) rfl (by kernel_rfl) (by kernel_rfl) (by kernel_rfl) (by kernel_rfl) (fun _ _ _ h => h) (Or.inl ⟨by kernel_rfl, fun w' _ => ?_⟩) ⟨.inr hS.1, .inr hS.2⟩ ?_
          · go_simp
          simp only [Act.put, List.setIfInBounds_toArray, List.set_cons_zero, List.set_cons_succ]
          refine wpAnyZ_take (i := 13) (oi := ⟨some 71, _, _, _, _, _⟩) (v := .int .u8 (t1 : Int)) rfl (by kernel_rfl) (by kernel_rfl) (by kernel_rfl) (by kernel_rfl) (fun _ _ _ h => h) (Or.inl ⟨by kernel_rfl, fun w' hSw => ?_⟩) hS ?_
          · (have c := hSw.cy; go_simp)
          simp only [Act.put, List.setIfInBounds_toArray, List.set_cons_zero, List.set_cons_succ]
          refine wpAnyZ_any (i := 14) (oi := ⟨some 72, _, _, _, _, _⟩) (v := .int .u8 ((x1 ^^^ t1 : Nat) : Int)) rfl (by kernel_rfl) (by kernel_rfl) (by kernel_rfl) (by kernel_rfl) (fun _ _ _ h => h) (Or.inl ⟨by kernel_rfl, fun w' _ => ?_⟩) ⟨.inr hS.1, .inr hS.2⟩ ?_
          · go_simp
          simp only [Act.put, List.setIfInBounds_toArray, List.set_cons_zero, List.set_cons_succ]
          refine wpAnyZ_any (i := 15) (oi := ⟨some 73, _, _, _, _, _⟩) (v := .pointer (some ⟨g, j, none⟩)) rfl (by kernel_rfl) (by kernel_rfl) (by kernel_rfl) (by kernel_rfl) (fun _ _ _ h => h) (Or.inl ⟨by kernel_rfl, fun w' _ => ?_⟩) ⟨.inr hS.1, .inr hS.2⟩ ?_
          · go_simp
          simp only [Act.put, List.setIfInBounds_toArray, List.set_cons_zero, List.set_cons_succ]
          refine wpAnyZ_one (i := 16) (o := ⟨none, _, _, _, _, _⟩) (by kernel_rfl) rfl (by kernel_rfl) (fun K hK => ?_)
          have c := hS.1.cb
          have hfz := hS.1.fb
          go_simp
          refine hK.out _ _ ⟨.inl (show _ = true by kernel_rfl), .inl (show _ = true by kernel_rfl)⟩ ?_
          clear hK K hS
          refine wpAnyZ_done (by kernel_rfl) ?_ _
          go_wp2_with fail
          go_roundw
          case rel =>
            refine ⟨j + 1, upd h j (x1 ^^^ t1), by go_num, by omega, ⟨fun i => ?_⟩, (Arr.set hA).drew, (hB1.setCell (by rw [HG.out]; exact Nat.le_refl _) _).drew⟩
            unfold upd
            by_cases e : i = j
            · subst e
              rw [if_pos rfl, if_pos (by omega), hx1, ht1]
            · rw [if_neg e, H.out i]
              by_cases hjk : i < j
              · rw [if_pos hjk, if_pos (by omega)]
              · rw [if_neg hjk, if_neg (by omega)]
          case measure => simp [intOf]; omega
theorem rxts_e (X : Nat) (A : Option Addr) (n c : Nat) (l : List Nat) (u : Nat) (B : Option Addr) (m c1 : Nat) (d : List Nat) (w : World) (hl : Bytes w A n l) (hc : n ≤ c) (hd : Bytes w B m d) (hc1 : m ≤ c1) (h : MayD n (u : Int) m) (hX : BoxM w X) :
    Calls Try.prog 71 #[.pointer (some ⟨X, 0, none⟩), .slice A n c, .int .i64 (u : Int), .slice B m c1, .bool false] w (YesRowB (xtL false (half1 l) (half2 l) u d (m / 16)) m w) := by
  obtain ⟨hM, h2, h3⟩ := h
  obtain ⟨ad, hA, _⟩ := hl.2.2.2 (by have := hM.1; omega)
  subst hA
  have hM' := hM
  obtain ⟨rfl | rfl, _⟩ := hM'
  · exact rxts_e32 X ad c l u B m c1 d w hl hc hd hc1 hM h2 h3 hX
  · exact rxts_e64 X ad c l u B m c1 d w hl hc hd hc1 hM h2 h3 hX
theorem rxts_d (X : Nat) (A : Option Addr) (n c : Nat) (l : List Nat) (u : Nat) (B : Option Addr) (m c1 : Nat) (d : List Nat) (w : World) (hl : Bytes w A n l) (hc : n ≤ c) (hd : Bytes w B m d) (hc1 : m ≤ c1) (h : MayD n (u : Int) m) (hX : BoxM w X) :
    Calls Try.prog 71 #[.pointer (some ⟨X, 0, none⟩), .slice A n c, .int .i64 (u : Int), .slice B m c1, .bool true] w (YesRowB (xtL true (half1 l) (half2 l) u d (m / 16)) m w) := by
  obtain ⟨hM, h2, h3⟩ := h
  obtain ⟨ad, hA, _⟩ := hl.2.2.2 (by have := hM.1; omega)
  subst hA
  have hM' := hM
  obtain ⟨rfl | rfl, _⟩ := hM'
  · exact rxts_d32 X ad c l u B m c1 d w hl hc hd hc1 hM h2 h3 hX
  · exact rxts_d64 X ad c l u B m c1 d w hl hc hd hc1 hM h2 h3 hX
end Go.Proofs.Ytibfihjcjohadaa
