/-
  The walk of the law on two units of a sector: it returns true, whatever the input, and writes nothing that was there.
-/
import Derived.Test.YtibfihjcjohadaaL25
import Derived.Deep.CutRange
namespace Go.Proofs.Ytibfihjcjohadaa
open Go.RowKit Go.Op
open Twk (byt)
/-- a row of blocks of the call's own that is told, and no refusal -/
def RetBlk (l : List Nat) (n : Nat) (w : World) (e : Ending) (w' : World) : Prop := ∃ A c, e = .returned (.tuple #[.slice A n c, .int .i64 0]) ∧ OwnB w' w.heap.size (.slice A n c) l ∧ Below w.heap.size w w'
theorem TweaksQ.ret {k2 : List Nat} {u n : Nat} {w : World} {e : Ending} {w' : World} (h : TweaksQ k2 u n w e w') : RetBlk (twL k2 u n) n w e w' := by
  obtain ⟨v, h1, h2, h3⟩ := h
  obtain ⟨A, c, hv, _⟩ := h2.blocks
  rw [twL_len] at hv
  subst hv
  exact ⟨A, c, h1, h2, h3⟩
theorem xor_three (A : Option Addr) (c x y z : Nat) (w : World) (h : Blocks w A 3 [x, y, z]) :
    Calls Try.prog 47 #[.slice A 3 c] w fun e w' => e = .returned (.agg (bv (byt (x ^^^ y ^^^ z)))) ∧ Below w.heap.size w w' := by
  have h1 := xor_any A 3 c [x, y, z] w h
  have e : nsum [x, y, z] = x ^^^ y ^^^ z := by simp [nsum]
  rw [e] at h1
  exact h1
theorem block_listB (A : Option Addr) (c x : Nat) (w : World) (h : Bytes w A 16 (listB (byt x))) :
    Calls Try.prog 38 #[.slice A 16 c] w fun e w' => e = .returned (.agg (bv (byt x))) ∧ Below w.heap.size w w' := by
  have h1 := block_walk A 16 c _ w h
  rwa [bv_congr (f := ofL (listB (byt x))) (g := byt x) (fun i hi => listB_get hi)] at h1
theorem datN_listB {x : Nat} (hx : x < 2 ^ 128) : datN (listB (byt x)) 0 = x := byt_ext (datN_lt (listB_lt (Twk.byt_lt x)) 0) hx fun i hi => by
  rw [datN, byt_numF (datF_lt (listB_lt (Twk.byt_lt x)) 0) 16 i hi, datF, show 16 * 0 + i = i by omega, listB_get hi]
theorem xtL_one (k1 k2 : List Nat) (u : Nat) {x : Nat} (hx : x < 2 ^ 128) : xtL false k1 k2 u (listB (byt x)) 1 = listB (byt (encN k1 (x ^^^ encN k2 u) ^^^ encN k2 u)) := by
  rw [xtL, xtL, xtB_forth, datN_listB hx, twN_zero, List.nil_append]
theorem twL_one (k2 : List Nat) (u : Nat) : twL k2 u 1 = [encN k2 u] := by rw [twL_succ, twN_zero]; rfl
theorem OwnB.cell0 {w : World} {base n c x j : Nat} {ad : Addr} {l : List Nat} (h : OwnB w base (.slice (some ad) n c) (x :: l)) (hn : 0 < n) (hj : j < 16) : w.cell? (ad.add j) = some (cellOf (byt x j)) := by
  obtain ⟨b, o, t, hA, ht, _, _, hr⟩ := h.rd.at_ hn
  injection hA with hA
  subst hA
  have e : t = x := by rw [← ht]; rfl
  subst e
  rw [add_off]
  have := hr j (cellOf (byt t j)) (by simp [bl, List.getElem?_map, List.getElem?_range hj])
  rw [show o + 0 * 16 + j = o + j by omega] at this
  exact this
theorem wpo_three3 {o : Oper} {a : Act} {w : World} {K : Act → World → Prop} {Q : Exit → Act → World → Prop} (x y z : Operand) (ho : o.op = .buildSlice 46 3 #[(0, x), (1, y), (2, z)])
    (m n k : Nat) (hx : a.eval x = .agg (bv (byt m))) (hy : a.eval y = .agg (bv (byt n))) (hz : a.eval z = .agg (bv (byt k))) (hm : m < 2 ^ 128) (hn : n < 2 ^ 128) (hk : k < 2 ^ 128)
    (h : ∀ A w', Blocks w' A 3 [m, n, k] → Below w.heap.size w w' → w.heap.size + 1 ≤ w'.heap.size → K (a.put o.dst (.slice A 3 3)) w') : o.wp Try.prog a w K Q :=
  wp_three x y z ho _ _ _ hx hy hz (h _ _ (blocks_three w _ m n k rfl hm hn hk) ((Below.refl _ _).alloc (Nat.le_refl _) _) (by rw [World.size_alloc]; exact Nat.le_refl _))
set_option maxRecDepth 100000 in
set_option maxHeartbeats 1000000 in
theorem xuni_outN (A : Option Addr) (n c : Nat) (u v : Int) (B : Option Addr) (m c1 : Nat) (w : World) (a1 : ((n : Int) != 32) = true) (a2 : ((n : Int) != 64) = true) :
    Calls Try.prog 28 #[.slice A n c, .int .i64 u, .int .i64 v, .slice B m c1] w fun e w' => e = .returned (.bool true) ∧ Below w.heap.size w w' := by
  go_enter Try.func28, Try.ntmps28
  go_wp2_with fail
  refine (awake8 _).mono ?_
  rintro e w' ⟨rfl, hbel⟩
  go_wp2_with fail
  go_ret
  exact ⟨rfl, hbel⟩
set_option maxRecDepth 100000 in
set_option maxHeartbeats 1000000 in
theorem xuni_out32A (A : Option Addr) (n c : Nat) (u v : Int) (B : Option Addr) (m c1 : Nat) (w : World) (a1 : ((n : Int) != 32) = false) (h : u < 0) :
    Calls Try.prog 28 #[.slice A n c, .int .i64 u, .int .i64 v, .slice B m c1] w fun e w' => e = .returned (.bool true) ∧ Below w.heap.size w w' := by
  go_enter Try.func28, Try.ntmps28
  go_wp2_with fail
  refine (awake8 _).mono ?_
  rintro e w' ⟨rfl, hbel⟩
  go_wp2_with fail
  go_ret
  exact ⟨rfl, hbel⟩
set_option maxRecDepth 100000 in
set_option maxHeartbeats 1000000 in
theorem xuni_out32B (A : Option Addr) (n c : Nat) (u v : Int) (B : Option Addr) (m c1 : Nat) (w : World) (a1 : ((n : Int) != 32) = false) (p1 : 0 ≤ u) (h : 1099511627776 < u) :
    Calls Try.prog 28 #[.slice A n c, .int .i64 u, .int .i64 v, .slice B m c1] w fun e w' => e = .returned (.bool true) ∧ Below w.heap.size w w' := by
  go_enter Try.func28, Try.ntmps28
  go_wp2_with fail
  refine (awake8 _).mono ?_
  rintro e w' ⟨rfl, hbel⟩
  go_wp2_with fail
  go_ret
  exact ⟨rfl, hbel⟩
set_option maxRecDepth 100000 in
set_option maxHeartbeats 1000000 in
theorem xuni_out32C (A : Option Addr) (n c : Nat) (u v : Int) (B : Option Addr) (m c1 : Nat) (w : World) (a1 : ((n : Int) != 32) = false) (p1 : 0 ≤ u) (p2 : u ≤ 1099511627776) (h : v < 0) :
    Calls Try.prog 28 #[.slice A n c, .int .i64 u, .int .i64 v, .slice B m c1] w fun e w' => e = .returned (.bool true) ∧ Below w.heap.size w w' := by
  go_enter Try.func28, Try.ntmps28
  go_wp2_with fail
  refine (awake8 _).mono ?_
  rintro e w' ⟨rfl, hbel⟩
  go_wp2_with fail
  go_ret
  exact ⟨rfl, hbel⟩
set_option maxRecDepth 100000 in
set_option maxHeartbeats 1000000 in
theorem xuni_out32D (A : Option Addr) (n c : Nat) (u v : Int) (B : Option Addr) (m c1 : Nat) (w : World) (a1 : ((n : Int) != 32) = false) (p1 : 0 ≤ u) (p2 : u ≤ 1099511627776) (p3 : 0 ≤ v) (h : 1099511627776 < v) :
    Calls Try.prog 28 #[.slice A n c, .int .i64 u, .int .i64 v, .slice B m c1] w fun e w' => e = .returned (.bool true) ∧ Below w.heap.size w w' := by
  go_enter Try.func28, Try.ntmps28
  go_wp2_with fail
  refine (awake8 _).mono ?_
  rintro e w' ⟨rfl, hbel⟩
  go_wp2_with fail
  go_ret
  exact ⟨rfl, hbel⟩
set_option maxRecDepth 100000 in
set_option maxHeartbeats 1000000 in
theorem xuni_out32E (A : Option Addr) (n c : Nat) (u v : Int) (B : Option Addr) (m c1 : Nat) (w : World) (a1 : ((n : Int) != 32) = false) (p1 : 0 ≤ u) (p2 : u ≤ 1099511627776) (p3 : 0 ≤ v) (p4 : v ≤ 1099511627776) (h : m < 16) :
    Calls Try.prog 28 #[.slice A n c, .int .i64 u, .int .i64 v, .slice B m c1] w fun e w' => e = .returned (.bool true) ∧ Below w.heap.size w w' := by
  go_enter Try.func28, Try.ntmps28
  go_wp2_with fail
  refine (awake8 _).mono ?_
  rintro e w' ⟨rfl, hbel⟩
  go_wp2_with fail
  go_ret
  exact ⟨rfl, hbel⟩
set_option maxRecDepth 100000 in
set_option maxHeartbeats 1000000 in
theorem xuni_out32F (A : Option Addr) (n c : Nat) (u v : Int) (B : Option Addr) (m c1 : Nat) (w : World) (a1 : ((n : Int) != 32) = false) (p1 : 0 ≤ u) (p2 : u ≤ 1099511627776) (p3 : 0 ≤ v) (p4 : v ≤ 1099511627776) (h : 100 < m) :
    Calls Try.prog 28 #[.slice A n c, .int .i64 u, .int .i64 v, .slice B m c1] w fun e w' => e = .returned (.bool true) ∧ Below w.heap.size w w' := by
  go_enter Try.func28, Try.ntmps28
  go_wp2_with fail
  refine (awake8 _).mono ?_
  rintro e w' ⟨rfl, hbel⟩
  go_wp2_with fail
  go_ret
  exact ⟨rfl, hbel⟩
set_option maxRecDepth 100000 in
set_option maxHeartbeats 1000000 in
theorem xuni_out64A (A : Option Addr) (n c : Nat) (u v : Int) (B : Option Addr) (m c1 : Nat) (w : World) (a1 : ((n : Int) != 32) = true) (a2 : ((n : Int) != 64) = false) (h : u < 0) :
    Calls Try.prog 28 #[.slice A n c, .int .i64 u, .int .i64 v, .slice B m c1] w fun e w' => e = .returned (.bool true) ∧ Below w.heap.size w w' := by
  go_enter Try.func28, Try.ntmps28
  go_wp2_with fail
  refine (awake8 _).mono ?_
  rintro e w' ⟨rfl, hbel⟩
  go_wp2_with fail
  go_ret
  exact ⟨rfl, hbel⟩
set_option maxRecDepth 100000 in
set_option maxHeartbeats 1000000 in
theorem xuni_out64B (A : Option Addr) (n c : Nat) (u v : Int) (B : Option Addr) (m c1 : Nat) (w : World) (a1 : ((n : Int) != 32) = true) (a2 : ((n : Int) != 64) = false) (p1 : 0 ≤ u) (h : 1099511627776 < u) :
    Calls Try.prog 28 #[.slice A n c, .int .i64 u, .int .i64 v, .slice B m c1] w fun e w' => e = .returned (.bool true) ∧ Below w.heap.size w w' := by
  go_enter Try.func28, Try.ntmps28
  go_wp2_with fail
  refine (awake8 _).mono ?_
  rintro e w' ⟨rfl, hbel⟩
  go_wp2_with fail
  go_ret
  exact ⟨rfl, hbel⟩
set_option maxRecDepth 100000 in
set_option maxHeartbeats 1000000 in
theorem xuni_out64C (A : Option Addr) (n c : Nat) (u v : Int) (B : Option Addr) (m c1 : Nat) (w : World) (a1 : ((n : Int) != 32) = true) (a2 : ((n : Int) != 64) = false) (p1 : 0 ≤ u) (p2 : u ≤ 1099511627776) (h : v < 0) :
    Calls Try.prog 28 #[.slice A n c, .int .i64 u, .int .i64 v, .slice B m c1] w fun e w' => e = .returned (.bool true) ∧ Below w.heap.size w w' := by
  go_enter Try.func28, Try.ntmps28
  go_wp2_with fail
  refine (awake8 _).mono ?_
  rintro e w' ⟨rfl, hbel⟩
  go_wp2_with fail
  go_ret
  exact ⟨rfl, hbel⟩
set_option maxRecDepth 100000 in
set_option maxHeartbeats 1000000 in
theorem xuni_out64D (A : Option Addr) (n c : Nat) (u v : Int) (B : Option Addr) (m c1 : Nat) (w : World) (a1 : ((n : Int) != 32) = true) (a2 : ((n : Int) != 64) = false) (p1 : 0 ≤ u) (p2 : u ≤ 1099511627776) (p3 : 0 ≤ v) (h : 1099511627776 < v) :
    Calls Try.prog 28 #[.slice A n c, .int .i64 u, .int .i64 v, .slice B m c1] w fun e w' => e = .returned (.bool true) ∧ Below w.heap.size w w' := by
  go_enter Try.func28, Try.ntmps28
  go_wp2_with fail
  refine (awake8 _).mono ?_
  rintro e w' ⟨rfl, hbel⟩
  go_wp2_with fail
  go_ret
  exact ⟨rfl, hbel⟩
set_option maxRecDepth 100000 in
set_option maxHeartbeats 1000000 in
theorem xuni_out64E (A : Option Addr) (n c : Nat) (u v : Int) (B : Option Addr) (m c1 : Nat) (w : World) (a1 : ((n : Int) != 32) = true) (a2 : ((n : Int) != 64) = false) (p1 : 0 ≤ u) (p2 : u ≤ 1099511627776) (p3 : 0 ≤ v) (p4 : v ≤ 1099511627776) (h : m < 16) :
    Calls Try.prog 28 #[.slice A n c, .int .i64 u, .int .i64 v, .slice B m c1] w fun e w' => e = .returned (.bool true) ∧ Below w.heap.size w w' := by
  go_enter Try.func28, Try.ntmps28
  go_wp2_with fail
  refine (awake8 _).mono ?_
  rintro e w' ⟨rfl, hbel⟩
  go_wp2_with fail
  go_ret
  exact ⟨rfl, hbel⟩
set_option maxRecDepth 100000 in
set_option maxHeartbeats 1000000 in
theorem xuni_out64F (A : Option Addr) (n c : Nat) (u v : Int) (B : Option Addr) (m c1 : Nat) (w : World) (a1 : ((n : Int) != 32) = true) (a2 : ((n : Int) != 64) = false) (p1 : 0 ≤ u) (p2 : u ≤ 1099511627776) (p3 : 0 ≤ v) (p4 : v ≤ 1099511627776) (h : 100 < m) :
    Calls Try.prog 28 #[.slice A n c, .int .i64 u, .int .i64 v, .slice B m c1] w fun e w' => e = .returned (.bool true) ∧ Below w.heap.size w w' := by
  go_enter Try.func28, Try.ntmps28
  go_wp2_with fail
  refine (awake8 _).mono ?_
  rintro e w' ⟨rfl, hbel⟩
  go_wp2_with fail
  go_ret
  exact ⟨rfl, hbel⟩
set_option maxRecDepth 100000 in
set_option maxHeartbeats 4000000 in
theorem xuni_in32 (A : Option Addr) (n c : Nat) (l : List Nat) (u v : Nat) (B : Option Addr) (m c1 : Nat) (d : List Nat) (w : World) (hl : Bytes w A n l) (hc : n ≤ c) (hd : Bytes w B m d) (a1 : ((n : Int) != 32) = false) (p2 : (u : Int) ≤ 1099511627776) (p4 : (v : Int) ≤ 1099511627776) (p5 : 16 ≤ m) (p6 : m ≤ 100) (hn : n = 32 ∨ n = 64) :
    Calls Try.prog 28 #[.slice A n c, .int .i64 (u : Int), .int .i64 (v : Int), .slice B m c1] w fun e w' => e = .returned (.bool true) ∧ Below w.heap.size w w' := by
  have HT : Box (∀ (w : World) (u : Nat), Bytes w A n l → (u : Int) ≤ 1099511627776 → Calls Try.prog 72 #[.slice A n c, .int .i64 (u : Int), .int .i64 1] w (RetBlk [encN (half2 l) u] 1 w)) := ⟨fun w u h hu => by
    have h1 := (tweaks_yes A n c l u 1 w h hc ⟨hn, by omega, hu⟩ (by decide)).mono fun e w' hq => hq.ret
    rwa [twL_one] at h1⟩
  have HE : Box (∀ (w : World) (u x : Nat) (B1 : Option Addr) (cc : Nat), x < 2 ^ 128 → Bytes w A n l → (u : Int) ≤ 1099511627776 → Bytes w B1 16 (listB (byt x)) → 16 ≤ cc → Calls Try.prog 69 #[.slice A n c, .int .i64 (u : Int), .slice B1 16 cc] w (RetRow (listB (byt (encN (half1 l) (x ^^^ encN (half2 l) u) ^^^ encN (half2 l) u))) 16 w)) := ⟨fun w u x B1 cc hx h hu hb hcc => by
    have h1 := (xenc_yes A n c l u B1 16 cc _ w h hc hb hcc ⟨⟨hn, by omega, hu⟩, by decide, by decide⟩).mono fun e w' hq => hq.ret (m := 16) (by decide)
    have e : xtL false (half1 l) (half2 l) u (listB (byt x)) (16 / 16) = _ := xtL_one (half1 l) (half2 l) u hx
    rwa [e] at h1⟩
  have hdl := hd.2.2.1
  have HBK : Box (∀ w, Bytes w B m d → Calls Try.prog 38 #[.slice B m c1] w fun e w' => e = .returned (.agg (bv (byt (numF (ofL d) 16)))) ∧ Below w.heap.size w w') := ⟨fun w h => by
    have h1 := block_walk B m c1 d w h
    rwa [show bv (ofL d) = bv (byt (numF (ofL d) 16)) from (blk_numF (ofL_lt hdl)).symm] at h1⟩
  have hxl : numF (ofL d) 16 < 2 ^ 128 := numF_lt16 (ofL_lt hdl)
  have hu128 : u < 2 ^ 128 := by omega
  have hv128 : v < 2 ^ 128 := by omega
  obtain ⟨b, hb⟩ : ∃ b, decide (u = v) = b := ⟨_, rfl⟩
  have HUV : Box (decide ((u : Int) = (v : Int)) = b) := ⟨by rw [← hb, decide_eq_decide]; omega⟩
  have HUW : Box (((u : Int) == (v : Int)) = b) := ⟨by rw [← HUV.out]; rfl⟩
  have htl : encN (half2 l) u < 2 ^ 128 := encN_lt _ _
  have hsl : encN (half2 l) v < 2 ^ 128 := encN_lt _ _
  have HTS : Box (eqB (byt (encN (half2 l) u)) (byt (encN (half2 l) v)) = b) := ⟨by
    rw [← hb, Bool.eq_iff_iff, eqB_iff, decide_eq_true_iff]
    exact ⟨fun h => encN_inj _ hu128 hv128 (byt_ext htl hsl h), fun h => by rw [h]; exact fun _ _ => rfl⟩⟩
  have hEu := HE.out (u := u)
  have hTu := HT.out (u := u)
  have hEv := HE.out (u := v)
  have hTv := HT.out (u := v)
  clear HE HT hb hdl
  generalize numF (ofL d) 16 = x at HBK hxl
  generalize encN (half2 l) u = t at hEu hTu htl HTS
  generalize encN (half2 l) v = s at hEv hTv hsl HTS
  obtain ⟨z, hz⟩ : ∃ z, encN (half1 l) (x ^^^ t) = z := ⟨_, rfl⟩
  have hzl : z < 2 ^ 128 := by rw [← hz]; exact encN_lt _ _
  have HEU : Box (∀ (w : World) (B1 : Option Addr) (cc : Nat), Bytes w A n l → Bytes w B1 16 (listB (byt x)) → 16 ≤ cc → Calls Try.prog 69 #[.slice A n c, .int .i64 (u : Int), .slice B1 16 cc] w (RetRow (listB (byt (z ^^^ t))) 16 w)) := ⟨fun w B1 cc h1 h2 h3 => by
    have h4 := hEu w x B1 cc hxl h1 p2 h2 h3
    rwa [hz] at h4⟩
  have HEV : Box (∀ (w : World) (B1 : Option Addr) (cc : Nat), Bytes w A n l → Bytes w B1 16 (listB (byt (x ^^^ t ^^^ s))) → 16 ≤ cc → Calls Try.prog 69 #[.slice A n c, .int .i64 (v : Int), .slice B1 16 cc] w (RetRow (listB (byt (z ^^^ s))) 16 w)) := ⟨fun w B1 cc h1 h2 h3 => by
    have h4 := hEv w (x ^^^ t ^^^ s) B1 cc (Twk.xor_lt128 (Twk.xor_lt128 hxl htl) hsl) h1 p4 h2 h3
    rwa [show x ^^^ t ^^^ s ^^^ s = x ^^^ t by rw [Nat.xor_assoc, Nat.xor_self, Nat.xor_zero], hz] at h4⟩
  have HTU : Box (∀ w, Bytes w A n l → Calls Try.prog 72 #[.slice A n c, .int .i64 (u : Int), .int .i64 1] w (RetBlk [t] 1 w)) := ⟨fun w h => hTu w h p2⟩
  have HTV : Box (∀ w, Bytes w A n l → Calls Try.prog 72 #[.slice A n c, .int .i64 (v : Int), .int .i64 1] w (RetBlk [s] 1 w)) := ⟨fun w h => hTv w h p4⟩
  have HZT : Box (z ^^^ t ^^^ t = z) := ⟨by rw [Nat.xor_assoc, Nat.xor_self, Nat.xor_zero]⟩
  have HZS : Box (z ^^^ s ^^^ s = z) := ⟨by rw [Nat.xor_assoc, Nat.xor_self, Nat.xor_zero]⟩
  have hzt : z ^^^ t < 2 ^ 128 := Twk.xor_lt128 hzl htl
  have hzs : z ^^^ s < 2 ^ 128 := Twk.xor_lt128 hzl hsl
  have u0 : (0 : Int) ≤ (u : Int) := by omega
  have v0 : (0 : Int) ≤ (v : Int) := by omega
  clear hEu hTu hEv hTv hz hu128 hv128
  go_enter Try.func28, Try.ntmps28
  go_wp2_with fail
  refine (HBK.out _ hd).mono ?_
  rintro e w1 ⟨rfl, hb1⟩
  go_wp2_with (first
      | ((with_reducible show wpList _ _ _ (⟨_, Op.store 36 (.tmp 9) (.tmp 55), _, _, _, _⟩ :: _) _ _); refine wp_store_arr rfl (.tmp 9) (.tmp 55) rfl (w1.heap.size) (fun _ => 0) (byt x) rfl rfl (Arr.zero _ _ rfl) ?_))
  have hX : Arr ((w1.alloc (.cells #[.int .u8 0, .int .u8 0, .int .u8 0, .int .u8 0, .int .u8 0, .int .u8 0, .int .u8 0, .int .u8 0, .int .u8 0, .int .u8 0, .int .u8 0, .int .u8 0, .int .u8 0, .int .u8 0, .int .u8 0, .int .u8 0] 36)).setRow w1.heap.size (bv (byt x))) w1.heap.size (byt x) := (Arr.zero _ _ rfl).setRow
  have hbW : Below w1.heap.size w1 ((w1.alloc (.cells #[.int .u8 0, .int .u8 0, .int .u8 0, .int .u8 0, .int .u8 0, .int .u8 0, .int .u8 0, .int .u8 0, .int .u8 0, .int .u8 0, .int .u8 0, .int .u8 0, .int .u8 0, .int .u8 0, .int .u8 0, .int .u8 0] 36)).setRow w1.heap.size (bv (byt x))) := below_setRow ((Below.refl _ _).alloc (Nat.le_refl _) _) (Nat.le_refl _) _
  revert hX hbW
  generalize ((w1.alloc (.cells #[.int .u8 0, .int .u8 0, .int .u8 0, .int .u8 0, .int .u8 0, .int .u8 0, .int .u8 0, .int .u8 0, .int .u8 0, .int .u8 0, .int .u8 0, .int .u8 0, .int .u8 0, .int .u8 0, .int .u8 0, .int .u8 0] 36)).setRow w1.heap.size (bv (byt x))) = w2
  intro hX hbW
  have hw2 := hb1.trans (hbW.mono hb1.size)
  clear hb1 hbW HBK
  refine (HTU.out _ (hl.below hw2)).mono ?_
  rintro e w3 ⟨A3, ca, rfl, hO3, hb3⟩
  have hX := hX.below hb3 hX.lt
  have hw3 := hw2.trans (hb3.mono hw2.size)
  clear hb3 hw2
  go_wp2_with fail
  refine (HTV.out _ (hl.below hw3)).mono ?_
  rintro e w4 ⟨A4, cb, rfl, hO4, hb4⟩
  have hX := hX.below hb4 hX.lt
  have hO3 := hO3.below hb4 (Nat.le_refl _)
  have hw4 := hw3.trans (hb4.mono hw3.size)
  clear hb4 hw3 HTU HTV
  obtain ⟨ta, hta⟩ : ∃ ad, A3 = some ad := by
    obtain ⟨bt, ot, _, hAt, _⟩ := hO3.rd.at_ (k := 0) (by decide)
    exact ⟨_, hAt⟩
  subst hta
  obtain ⟨tb, htb⟩ : ∃ ad, A4 = some ad := by
    obtain ⟨bt, ot, _, hAt, _⟩ := hO4.rd.at_ (k := 0) (by decide)
    exact ⟨_, hAt⟩
  subst htb
  have HTA : Box (∀ w', Below w4.heap.size w4 w' → ∀ j, j < 16 → w'.cell? (ta.add j) = some (cellOf (byt t j))) := ⟨fun w' h j hj => (hO3.below h (Nat.le_refl _)).cell0 (by decide) hj⟩
  have HTB : Box (∀ w', Below w4.heap.size w4 w' → ∀ j, j < 16 → w'.cell? (tb.add j) = some (cellOf (byt s j))) := ⟨fun w' h j hj => (hO4.below h (Nat.le_refl _)).cell0 (by decide) hj⟩
  go_upto_region 8 with fail
  go_cut [14] from 84 to 92 (fun p wx => NewArr w4 w4.heap.size (byt (x ^^^ t ^^^ s)) p wx)
  case first =>
    refine wp_region_held_drew (S := fun w' => Below w4.heap.size w4 w') (by kernel_rfl) (Below.refl _ _).drew (fun hS => ?_)
    refine wpAnyH_take (i := 0) (oi := ⟨some 84, _, _, _, _, _⟩) (v := .agg (bv (byt x))) rfl (by kernel_rfl) (by kernel_rfl) (by kernel_rfl) (fun _ _ _ h => h) (yields_arr (by kernel_rfl) (.tmp 9) rfl (w1.heap.size) (byt x) rfl fun w' h => hX.below h hX.lt) hS ?_
    simp only [Act.put, List.setIfInBounds_toArray, List.set_cons_zero, List.set_cons_succ]
    refine wpAnyH_take (i := 1) (oi := ⟨some 85, _, _, _, _, _⟩) (v := .slice (some ta) 1 ca) rfl (by kernel_rfl) (by kernel_rfl) (by kernel_rfl) (fun _ _ _ h => h) (Or.inl ⟨by kernel_rfl, fun w' hSw => ?_⟩) hS ?_
    · go_simp
    simp only [Act.put, List.setIfInBounds_toArray, List.set_cons_zero, List.set_cons_succ]
    refine wpAnyH_take (i := 2) (oi := ⟨some 86, _, _, _, _, _⟩) (v := .pointer (some ta)) rfl (by kernel_rfl) (by kernel_rfl) (by kernel_rfl) (fun _ _ _ h => h) (Or.inl ⟨by kernel_rfl, fun w' hSw => ?_⟩) hS ?_
    · go_simp
    simp only [Act.put, List.setIfInBounds_toArray, List.set_cons_zero, List.set_cons_succ]
    refine wpAnyH_take (i := 3) (oi := ⟨some 87, _, _, _, _, _⟩) (v := .agg (bv (byt (t)))) rfl (by kernel_rfl) (by kernel_rfl) (by kernel_rfl) (fun _ _ _ h => h) (yields_arr_at (by kernel_rfl) (.tmp 86) rfl (ta) (byt (t)) rfl (fun w' h j hj => HTA.out w' h j hj)) hS ?_
    simp only [Act.put, List.setIfInBounds_toArray, List.set_cons_zero, List.set_cons_succ]
    refine wpAnyH_take (i := 4) (oi := ⟨some 88, _, _, _, _, _⟩) (v := .slice (some tb) 1 cb) rfl (by kernel_rfl) (by kernel_rfl) (by kernel_rfl) (fun _ _ _ h => h) (Or.inl ⟨by kernel_rfl, fun w' hSw => ?_⟩) hS ?_
    · go_simp
    simp only [Act.put, List.setIfInBounds_toArray, List.set_cons_zero, List.set_cons_succ]
    refine wpAnyH_take (i := 5) (oi := ⟨some 89, _, _, _, _, _⟩) (v := .pointer (some tb)) rfl (by kernel_rfl) (by kernel_rfl) (by kernel_rfl) (fun _ _ _ h => h) (Or.inl ⟨by kernel_rfl, fun w' hSw => ?_⟩) hS ?_
    · go_simp
    simp only [Act.put, List.setIfInBounds_toArray, List.set_cons_zero, List.set_cons_succ]
    refine wpAnyH_take (i := 6) (oi := ⟨some 90, _, _, _, _, _⟩) (v := .agg (bv (byt (s)))) rfl (by kernel_rfl) (by kernel_rfl) (by kernel_rfl) (fun _ _ _ h => h) (yields_arr_at (by kernel_rfl) (.tmp 89) rfl (tb) (byt (s)) rfl (fun w' h j hj => HTB.out w' h j hj)) hS ?_
    simp only [Act.put, List.setIfInBounds_toArray, List.set_cons_zero, List.set_cons_succ]
    refine wpAnyH_ready (rs := [7, 9]) (by kernel_rfl) (by simp) ?_
    refine (AllReadyH.cons (o := ⟨some 91, _, _, _, _, _⟩) rfl (fun K hK => ?_) (AllReadyH.cons (o := ⟨some 14, _, _, _, _, _⟩) rfl (fun K hK => ?_) AllReadyH.nil))
    · rw [if_pos (by kernel_rfl)]
      refine wpo_three3 (.tmp 84) (.tmp 87) (.tmp 90) rfl (x) (t) (s) rfl rfl rfl hxl htl hsl (fun A91 v1 hk91 hq1 hqz1 => ?_)
      refine hK.out _ _ (hS.trans (hq1.mono (by first | exact hS.size | (have := hS.size; simp at this ⊢; omega)))) (fun hS => ?_)
      clear hK K
      simp only [Act.put, List.setIfInBounds_toArray, List.set_cons_zero, List.set_cons_succ]
      refine wpAnyH_ready (rs := [8, 9]) (by kernel_rfl) (by simp) ?_
      refine (AllReadyH.cons (o := ⟨some 92, _, _, _, _, _⟩) rfl (fun K hK => ?_) (AllReadyH.cons (o := ⟨some 14, _, _, _, _, _⟩) rfl (fun K hK => ?_) AllReadyH.nil))
      · rw [if_pos (by kernel_rfl)]
        go_simp
        refine (xor_three _ _ x t s _ hk91).mono ?_
        rintro e v2 ⟨rfl, hq2⟩
        have hk91 := hk91.below hq2
        have hqz2 := hq2.size
        refine hK.out _ _ (hS.trans (hq2.mono (by first | exact hS.size | (have := hS.size; simp at this ⊢; omega)))) (fun hS => ?_)
        clear hK K
        refine wpAnyH_ready (rs := [9]) (by kernel_rfl) (by simp) ?_
        refine (AllReadyH.cons (o := ⟨some 14, _, _, _, _, _⟩) rfl (fun K hK => ?_) AllReadyH.nil)
        rw [if_pos (by kernel_rfl)]
        go_simp
        have hk91 := hk91.alloc (.cells #[.int .u8 0, .int .u8 0, .int .u8 0, .int .u8 0, .int .u8 0, .int .u8 0, .int .u8 0, .int .u8 0, .int .u8 0, .int .u8 0, .int .u8 0, .int .u8 0, .int .u8 0, .int .u8 0, .int .u8 0, .int .u8 0] 36)
        have hg14 := hS.size
        have ha14 : Arr (v2.alloc (.cells #[.int .u8 0, .int .u8 0, .int .u8 0, .int .u8 0, .int .u8 0, .int .u8 0, .int .u8 0, .int .u8 0, .int .u8 0, .int .u8 0, .int .u8 0, .int .u8 0, .int .u8 0, .int .u8 0, .int .u8 0, .int .u8 0] 36)) (v2.heap.size) (fun _ => 0) := Arr.zero _ _ (by first | rfl | simp | simp [World.setRow])
        refine hK.out _ _ (hS.alloc hS.size _) (fun hS => ?_)
        clear hK K
        refine wpAnyH_ready (rs := [10]) (by kernel_rfl) (by simp) ?_
        refine (AllReadyH.cons (o := ⟨none, _, _, _, _, _⟩) rfl (fun K hK => ?_) AllReadyH.nil)
        rw [if_pos (by kernel_rfl)]
        refine wpo_store_arr (.tmp 14) (.tmp 92) rfl (v2.heap.size) (fun _ => 0) (byt (x ^^^ t ^^^ s)) rfl rfl ha14 ?_
        have ha14 := ha14.setRow (h := byt (x ^^^ t ^^^ s))
        refine hK.out _ _ (below_setRow hS (by have := hS.size; first | omega | (simp at *; omega) | (simp [setRow_size] at *; omega)) _) (fun hS => ?_)
        clear hK K
        simp only [Act.put]
        refine wpAnyH_done (by kernel_rfl) ?_ _
        go_wp2_with fail
        go_meet
        case rel => exact ⟨_, rfl, (by first | exact hg14 | simpa using hg14 | omega), ha14, hS⟩
      · rw [if_pos (by kernel_rfl)]
        go_simp
        have hk91 := hk91.alloc (.cells #[.int .u8 0, .int .u8 0, .int .u8 0, .int .u8 0, .int .u8 0, .int .u8 0, .int .u8 0, .int .u8 0, .int .u8 0, .int .u8 0, .int .u8 0, .int .u8 0, .int .u8 0, .int .u8 0, .int .u8 0, .int .u8 0] 36)
        have hg14 := hS.size
        have ha14 : Arr (v1.alloc (.cells #[.int .u8 0, .int .u8 0, .int .u8 0, .int .u8 0, .int .u8 0, .int .u8 0, .int .u8 0, .int .u8 0, .int .u8 0, .int .u8 0, .int .u8 0, .int .u8 0, .int .u8 0, .int .u8 0, .int .u8 0, .int .u8 0] 36)) (v1.heap.size) (fun _ => 0) := Arr.zero _ _ (by first | rfl | simp | simp [World.setRow])
        refine hK.out _ _ (hS.alloc hS.size _) (fun hS => ?_)
        clear hK K
        refine wpAnyH_ready (rs := [8]) (by kernel_rfl) (by simp) ?_
        refine (AllReadyH.cons (o := ⟨some 92, _, _, _, _, _⟩) rfl (fun K hK => ?_) AllReadyH.nil)
        rw [if_pos (by kernel_rfl)]
        go_simp
        refine (xor_three _ _ x t s _ hk91).mono ?_
        rintro e v2 ⟨rfl, hq2⟩
        have ha14 := ha14.below hq2 ha14.lt
        have hk91 := hk91.below hq2
        have hqz2 := hq2.size
        refine hK.out _ _ (hS.trans (hq2.mono (by first | exact hS.size | (have := hS.size; simp at this ⊢; omega)))) (fun hS => ?_)
        clear hK K
        refine wpAnyH_ready (rs := [10]) (by kernel_rfl) (by simp) ?_
        refine (AllReadyH.cons (o := ⟨none, _, _, _, _, _⟩) rfl (fun K hK => ?_) AllReadyH.nil)
        rw [if_pos (by kernel_rfl)]
        refine wpo_store_arr (.tmp 14) (.tmp 92) rfl (v1.heap.size) (fun _ => 0) (byt (x ^^^ t ^^^ s)) rfl rfl ha14 ?_
        have ha14 := ha14.setRow (h := byt (x ^^^ t ^^^ s))
        refine hK.out _ _ (below_setRow hS (by have := hS.size; first | omega | (simp at *; omega) | (simp [setRow_size] at *; omega)) _) (fun hS => ?_)
        clear hK K
        simp only [Act.put]
        refine wpAnyH_done (by kernel_rfl) ?_ _
        go_wp2_with fail
        go_meet
        case rel => exact ⟨_, rfl, (by first | exact hg14 | simpa using hg14 | omega), ha14, hS⟩
    · rw [if_pos (by kernel_rfl)]
      go_simp
      have hg14 := hS.size
      have ha14 : Arr (w4.drew.alloc (.cells #[.int .u8 0, .int .u8 0, .int .u8 0, .int .u8 0, .int .u8 0, .int .u8 0, .int .u8 0, .int .u8 0, .int .u8 0, .int .u8 0, .int .u8 0, .int .u8 0, .int .u8 0, .int .u8 0, .int .u8 0, .int .u8 0] 36)) (w4.heap.size) (fun _ => 0) := Arr.zero _ _ (by first | rfl | simp | simp [World.setRow])
      refine hK.out _ _ (hS.alloc hS.size _) (fun hS => ?_)
      clear hK K
      refine wpAnyH_ready (rs := [7]) (by kernel_rfl) (by simp) ?_
      refine (AllReadyH.cons (o := ⟨some 91, _, _, _, _, _⟩) rfl (fun K hK => ?_) AllReadyH.nil)
      rw [if_pos (by kernel_rfl)]
      refine wpo_three3 (.tmp 84) (.tmp 87) (.tmp 90) rfl (x) (t) (s) rfl rfl rfl hxl htl hsl (fun A91 v1 hk91 hq1 hqz1 => ?_)
      have ha14 := ha14.below hq1 ha14.lt
      refine hK.out _ _ (hS.trans (hq1.mono (by first | exact hS.size | (have := hS.size; simp at this ⊢; omega)))) (fun hS => ?_)
      clear hK K
      simp only [Act.put, List.setIfInBounds_toArray, List.set_cons_zero, List.set_cons_succ]
      refine wpAnyH_ready (rs := [8]) (by kernel_rfl) (by simp) ?_
      refine (AllReadyH.cons (o := ⟨some 92, _, _, _, _, _⟩) rfl (fun K hK => ?_) AllReadyH.nil)
      rw [if_pos (by kernel_rfl)]
      go_simp
      refine (xor_three _ _ x t s _ hk91).mono ?_
      rintro e v2 ⟨rfl, hq2⟩
      have ha14 := ha14.below hq2 ha14.lt
      have hk91 := hk91.below hq2
      have hqz2 := hq2.size
      refine hK.out _ _ (hS.trans (hq2.mono (by first | exact hS.size | (have := hS.size; simp at this ⊢; omega)))) (fun hS => ?_)
      clear hK K
      refine wpAnyH_ready (rs := [10]) (by kernel_rfl) (by simp) ?_
      refine (AllReadyH.cons (o := ⟨none, _, _, _, _, _⟩) rfl (fun K hK => ?_) AllReadyH.nil)
      rw [if_pos (by kernel_rfl)]
      refine wpo_store_arr (.tmp 14) (.tmp 92) rfl (w4.heap.size) (fun _ => 0) (byt (x ^^^ t ^^^ s)) rfl rfl ha14 ?_
      have ha14 := ha14.setRow (h := byt (x ^^^ t ^^^ s))
      refine hK.out _ _ (below_setRow hS (by have := hS.size; first | omega | (simp at *; omega) | (simp [setRow_size] at *; omega)) _) (fun hS => ?_)
      clear hK K
      simp only [Act.put]
      refine wpAnyH_done (by kernel_rfl) ?_ _
      go_wp2_with fail
      go_meet
      case rel => exact ⟨_, rfl, (by first | exact hg14 | simpa using hg14 | omega), ha14, hS⟩
  case rest =>
    obtain ⟨g14, rfl, hg14, hY, hb5⟩ := hcut
    have hX := hX.below hb5 hX.lt
    have hO3 := hO3.below hb5 (Nat.le_refl _)
    have hO4 := hO4.below hb5 (Nat.le_refl _)
    have hw5 := hw4.trans (hb5.mono hw4.size)
    clear hb5 hw4 HTA HTB
    go_wp2_with fail
    refine (HEU.out _ _ _ (hl.below hw5) (hX.bytes (Twk.byt_lt x)) (by decide)).mono ?_
    rintro e w6 ⟨AP, cP, rfl, hP, _, hb6⟩
    have hY := hY.below hb6 hY.lt
    have hO3 := hO3.below hb6 (Nat.le_refl _)
    have hO4 := hO4.below hb6 (Nat.le_refl _)
    have hw6 := hw5.trans (hb6.mono hw5.size)
    clear hb6 hw5 hX
    go_wp2_with fail
    refine (HEV.out _ _ _ (hl.below hw6) (hY.bytes (Twk.byt_lt _)) (by decide)).mono ?_
    rintro e w7 ⟨AQ, cQ, rfl, hQ, _, hb7⟩
    have hP := hP.below hb7 (Nat.le_refl _)
    have hO3 := hO3.below hb7 (Nat.le_refl _)
    have hO4 := hO4.below hb7 (Nat.le_refl _)
    have hw7 := hw6.trans (hb7.mono hw6.size)
    clear hb7 hw6 hY HEU HEV
    have HTA2 : Box (∀ w', Below w7.heap.size w7 w' → ∀ j, j < 16 → w'.cell? (ta.add j) = some (cellOf (byt t j))) := ⟨fun w' h j hj => (hO3.below h (Nat.le_refl _)).cell0 (by decide) hj⟩
    have HTB2 : Box (∀ w', Below w7.heap.size w7 w' → ∀ j, j < 16 → w'.cell? (tb.add j) = some (cellOf (byt s j))) := ⟨fun w' h j hj => (hO4.below h (Nat.le_refl _)).cell0 (by decide) hj⟩
    have HP : Box (∀ w', Below w7.heap.size w7 w' → Bytes w' AP 16 (listB (byt (z ^^^ t)))) := ⟨fun w' h => hP.rd.below h⟩
    have HQ : Box (∀ w', Below w7.heap.size w7 w' → Bytes w' AQ 16 (listB (byt (z ^^^ s)))) := ⟨fun w' h => hQ.rd.below h⟩
    clear hO3 hO4 hP hQ
    go_wp2_with fail
    refine wp_region_held_drew (S := fun w' => Below w7.heap.size w7 w') (by kernel_rfl) (Below.refl _ _).drew (fun hS => ?_)
    refine wpAnyH_take (i := 0) (oi := ⟨some 107, _, _, _, _, _⟩) (v := .int .i64 0) rfl (by kernel_rfl) (by kernel_rfl) (by kernel_rfl) (fun _ _ _ h => h) (Or.inl ⟨by kernel_rfl, fun w' hSw => ?_⟩) hS ?_
    · go_simp
    simp only [Act.put, List.setIfInBounds_toArray, List.set_cons_zero, List.set_cons_succ]
    refine wpAnyH_take (i := 1) (oi := ⟨some 108, _, _, _, _, _⟩) (v := .bool true) rfl (by kernel_rfl) (by kernel_rfl) (by kernel_rfl) (fun _ _ _ h => h) (Or.inl ⟨by kernel_rfl, fun w' hSw => ?_⟩) hS ?_
    · go_simp
    simp only [Act.put, List.setIfInBounds_toArray, List.set_cons_zero, List.set_cons_succ]
    refine wpAnyH_take (i := 2) (oi := ⟨some 109, _, _, _, _, _⟩) (v := .bool true) rfl (by kernel_rfl) (by kernel_rfl) (by kernel_rfl) (fun _ _ _ h => h) (Or.inl ⟨by kernel_rfl, fun w' hSw => ?_⟩) hS ?_
    · go_simp
    simp only [Act.put, List.setIfInBounds_toArray, List.set_cons_zero, List.set_cons_succ]
    refine wpAnyH_take (i := 3) (oi := ⟨some 110, _, _, _, _, _⟩) (v := .int .i64 0) rfl (by kernel_rfl) (by kernel_rfl) (by kernel_rfl) (fun _ _ _ h => h) (Or.inl ⟨by kernel_rfl, fun w' hSw => ?_⟩) hS ?_
    · go_simp
    simp only [Act.put, List.setIfInBounds_toArray, List.set_cons_zero, List.set_cons_succ]
    refine wpAnyH_take (i := 4) (oi := ⟨some 111, _, _, _, _, _⟩) (v := .bool true) rfl (by kernel_rfl) (by kernel_rfl) (by kernel_rfl) (fun _ _ _ h => h) (Or.inl ⟨by kernel_rfl, fun w' hSw => ?_⟩) hS ?_
    · go_simp
    simp only [Act.put, List.setIfInBounds_toArray, List.set_cons_zero, List.set_cons_succ]
    refine wpAnyH_take (i := 5) (oi := ⟨some 112, _, _, _, _, _⟩) (v := .bool true) rfl (by kernel_rfl) (by kernel_rfl) (by kernel_rfl) (fun _ _ _ h => h) (Or.inl ⟨by kernel_rfl, fun w' hSw => ?_⟩) hS ?_
    · go_simp
    simp only [Act.put, List.setIfInBounds_toArray, List.set_cons_zero, List.set_cons_succ]
    refine wpAnyH_take (i := 6) (oi := ⟨some 113, _, _, _, _, _⟩) (v := .bool true) rfl (by kernel_rfl) (by kernel_rfl) (by kernel_rfl) (fun _ _ _ h => h) (Or.inl ⟨by kernel_rfl, fun w' hSw => ?_⟩) hS ?_
    · go_simp
    simp only [Act.put, List.setIfInBounds_toArray, List.set_cons_zero, List.set_cons_succ]
    refine wpAnyH_take (i := 7) (oi := ⟨some 114, _, _, _, _, _⟩) (v := .slice AP 16 cP) rfl (by kernel_rfl) (by kernel_rfl) (by kernel_rfl) (fun _ _ _ h => h) (Or.inl ⟨by kernel_rfl, fun w' hSw => ?_⟩) hS ?_
    · go_simp
    simp only [Act.put, List.setIfInBounds_toArray, List.set_cons_zero, List.set_cons_succ]
    refine wpAnyH_take (i := 9) (oi := ⟨some 116, _, _, _, _, _⟩) (v := .slice (some ta) 1 ca) rfl (by kernel_rfl) (by kernel_rfl) (by kernel_rfl) (fun _ _ _ h => h) (Or.inl ⟨by kernel_rfl, fun w' hSw => ?_⟩) hS ?_
    · go_simp
    simp only [Act.put, List.setIfInBounds_toArray, List.set_cons_zero, List.set_cons_succ]
    refine wpAnyH_take (i := 10) (oi := ⟨some 117, _, _, _, _, _⟩) (v := .pointer (some ta)) rfl (by kernel_rfl) (by kernel_rfl) (by kernel_rfl) (fun _ _ _ h => h) (Or.inl ⟨by kernel_rfl, fun w' hSw => ?_⟩) hS ?_
    · go_simp
    simp only [Act.put, List.setIfInBounds_toArray, List.set_cons_zero, List.set_cons_succ]
    refine wpAnyH_take (i := 11) (oi := ⟨some 118, _, _, _, _, _⟩) (v := .agg (bv (byt (t)))) rfl (by kernel_rfl) (by kernel_rfl) (by kernel_rfl) (fun _ _ _ h => h) (yields_arr_at (by kernel_rfl) (.tmp 117) rfl (ta) (byt (t)) rfl (fun w' h j hj => HTA2.out w' h j hj)) hS ?_
    simp only [Act.put, List.setIfInBounds_toArray, List.set_cons_zero, List.set_cons_succ]
    refine wpAnyH_take (i := 14) (oi := ⟨some 121, _, _, _, _, _⟩) (v := .slice AQ 16 cQ) rfl (by kernel_rfl) (by kernel_rfl) (by kernel_rfl) (fun _ _ _ h => h) (Or.inl ⟨by kernel_rfl, fun w' hSw => ?_⟩) hS ?_
    · go_simp
    simp only [Act.put, List.setIfInBounds_toArray, List.set_cons_zero, List.set_cons_succ]
    refine wpAnyH_take (i := 16) (oi := ⟨some 123, _, _, _, _, _⟩) (v := .slice (some tb) 1 cb) rfl (by kernel_rfl) (by kernel_rfl) (by kernel_rfl) (fun _ _ _ h => h) (Or.inl ⟨by kernel_rfl, fun w' hSw => ?_⟩) hS ?_
    · go_simp
    simp only [Act.put, List.setIfInBounds_toArray, List.set_cons_zero, List.set_cons_succ]
    refine wpAnyH_take (i := 17) (oi := ⟨some 124, _, _, _, _, _⟩) (v := .pointer (some tb)) rfl (by kernel_rfl) (by kernel_rfl) (by kernel_rfl) (fun _ _ _ h => h) (Or.inl ⟨by kernel_rfl, fun w' hSw => ?_⟩) hS ?_
    · go_simp
    simp only [Act.put, List.setIfInBounds_toArray, List.set_cons_zero, List.set_cons_succ]
    refine wpAnyH_take (i := 18) (oi := ⟨some 125, _, _, _, _, _⟩) (v := .agg (bv (byt (s)))) rfl (by kernel_rfl) (by kernel_rfl) (by kernel_rfl) (fun _ _ _ h => h) (yields_arr_at (by kernel_rfl) (.tmp 124) rfl (tb) (byt (s)) rfl (fun w' h j hj => HTB2.out w' h j hj)) hS ?_
    simp only [Act.put, List.setIfInBounds_toArray, List.set_cons_zero, List.set_cons_succ]
    refine wpAnyH_ready (rs := [8]) (by kernel_rfl) (by simp) ?_
    refine (AllReadyH.cons (o := ⟨some 115, _, _, _, _, _⟩) rfl (fun K hK => ?_) AllReadyH.nil)
    rw [if_pos (by kernel_rfl)]
    go_simp
    refine (block_listB _ _ _ _ (HP.out _ hS)).mono ?_
    rintro e v1 ⟨rfl, hq1⟩
    have hqz1 := hq1.size
    refine hK.out _ _ (hS.trans (hq1.mono (by first | exact hS.size | (have := hS.size; simp at this ⊢; omega)))) (fun hS => ?_)
    clear hK K
    refine wpAnyH_ready (rs := [12]) (by kernel_rfl) (by simp) ?_
    refine (AllReadyH.cons (o := ⟨some 119, _, _, _, _, _⟩) rfl (fun K hK => ?_) AllReadyH.nil)
    rw [if_pos (by kernel_rfl)]
    refine wp_two (.tmp 115) (.tmp 118) rfl (byt (z ^^^ t)) (byt (t)) rfl rfl ?_
    have hk119 : Blocks (v1.alloc (.cells (bv (byt (z ^^^ t)) ++ bv (byt (t))) 36)) (some ⟨v1.heap.size, 0, none⟩) 2 [z ^^^ t, t] := blocks_two _ _ _ _ (by first | rfl | simp | simp [World.setRow]) hzt htl
    refine hK.out _ _ (hS.alloc hS.size _) (fun hS => ?_)
    clear hK K
    simp only [Act.put, List.setIfInBounds_toArray, List.set_cons_zero, List.set_cons_succ]
    refine wpAnyH_ready (rs := [13]) (by kernel_rfl) (by simp) ?_
    refine (AllReadyH.cons (o := ⟨some 120, _, _, _, _, _⟩) rfl (fun K hK => ?_) AllReadyH.nil)
    rw [if_pos (by kernel_rfl)]
    go_simp
    refine (xor_two _ _ (z ^^^ t) t _ hk119).mono ?_
    rw [HZT.out]
    rintro e v2 ⟨rfl, hq2⟩
    have hk119 := hk119.below hq2
    have hqz2 := hq2.size
    refine hK.out _ _ (hS.trans (hq2.mono (by first | exact hS.size | (have := hS.size; simp at this ⊢; omega)))) (fun hS => ?_)
    clear hK K
    refine wpAnyH_ready (rs := [15]) (by kernel_rfl) (by simp) ?_
    refine (AllReadyH.cons (o := ⟨some 122, _, _, _, _, _⟩) rfl (fun K hK => ?_) AllReadyH.nil)
    rw [if_pos (by kernel_rfl)]
    go_simp
    refine (block_listB _ _ _ _ (HQ.out _ hS)).mono ?_
    rintro e v3 ⟨rfl, hq3⟩
    have hk119 := hk119.below hq3
    have hqz3 := hq3.size
    refine hK.out _ _ (hS.trans (hq3.mono (by first | exact hS.size | (have := hS.size; simp at this ⊢; omega)))) (fun hS => ?_)
    clear hK K
    refine wpAnyH_ready (rs := [19]) (by kernel_rfl) (by simp) ?_
    refine (AllReadyH.cons (o := ⟨some 126, _, _, _, _, _⟩) rfl (fun K hK => ?_) AllReadyH.nil)
    rw [if_pos (by kernel_rfl)]
    refine wp_two (.tmp 122) (.tmp 125) rfl (byt (z ^^^ s)) (byt (s)) rfl rfl ?_
    have hk119 := hk119.alloc (.cells (bv (byt (z ^^^ s)) ++ bv (byt (s))) 36)
    have hk126 : Blocks (v3.alloc (.cells (bv (byt (z ^^^ s)) ++ bv (byt (s))) 36)) (some ⟨v3.heap.size, 0, none⟩) 2 [z ^^^ s, s] := blocks_two _ _ _ _ (by first | rfl | simp | simp [World.setRow]) hzs hsl
    refine hK.out _ _ (hS.alloc hS.size _) (fun hS => ?_)
    clear hK K
    simp only [Act.put, List.setIfInBounds_toArray, List.set_cons_zero, List.set_cons_succ]
    refine wpAnyH_ready (rs := [20]) (by kernel_rfl) (by simp) ?_
    refine (AllReadyH.cons (o := ⟨some 127, _, _, _, _, _⟩) rfl (fun K hK => ?_) AllReadyH.nil)
    rw [if_pos (by kernel_rfl)]
    go_simp
    refine (xor_two _ _ (z ^^^ s) s _ hk126).mono ?_
    rw [HZS.out]
    rintro e v4 ⟨rfl, hq4⟩
    have hk119 := hk119.below hq4
    have hk126 := hk126.below hq4
    have hqz4 := hq4.size
    refine hK.out _ _ (hS.trans (hq4.mono (by first | exact hS.size | (have := hS.size; simp at this ⊢; omega)))) (fun hS => ?_)
    clear hK K
    refine wpAnyH_take (i := 21) (oi := ⟨some 128, _, _, _, _, _⟩) (v := .bool true) rfl (by kernel_rfl) (by kernel_rfl) (by kernel_rfl) (fun _ _ _ h => h) (yields_same (by kernel_rfl) (.tmp 120) (.tmp 127) rfl (byt (z)) rfl rfl) hS ?_
    simp only [Act.put, List.setIfInBounds_toArray, List.set_cons_zero, List.set_cons_succ]
    refine wpAnyH_take (i := 22) (oi := ⟨some 129, _, _, _, _, _⟩) (v := .bool true) rfl (by kernel_rfl) (by kernel_rfl) (by kernel_rfl) (fun _ _ _ h => h) (Or.inl ⟨by kernel_rfl, fun w' hSw => ?_⟩) hS ?_
    · go_simp
    simp only [Act.put, List.setIfInBounds_toArray, List.set_cons_zero, List.set_cons_succ]
    refine wpAnyH_take (i := 23) (oi := ⟨some 130, _, _, _, _, _⟩) (v := .bool true) rfl (by kernel_rfl) (by kernel_rfl) (by kernel_rfl) (fun _ _ _ h => h) (Or.inl ⟨by kernel_rfl, fun w' hSw => ?_⟩) hS ?_
    · go_simp
    simp only [Act.put, List.setIfInBounds_toArray, List.set_cons_zero, List.set_cons_succ]
    refine wpAnyH_take (i := 24) (oi := ⟨some 131, _, _, _, _, _⟩) (v := .slice (some ta) 1 ca) rfl (by kernel_rfl) (by kernel_rfl) (by kernel_rfl) (fun _ _ _ h => h) (Or.inl ⟨by kernel_rfl, fun w' hSw => ?_⟩) hS ?_
    · go_simp
    simp only [Act.put, List.setIfInBounds_toArray, List.set_cons_zero, List.set_cons_succ]
    refine wpAnyH_take (i := 25) (oi := ⟨some 132, _, _, _, _, _⟩) (v := .pointer (some ta)) rfl (by kernel_rfl) (by kernel_rfl) (by kernel_rfl) (fun _ _ _ h => h) (Or.inl ⟨by kernel_rfl, fun w' hSw => ?_⟩) hS ?_
    · go_simp
    simp only [Act.put, List.setIfInBounds_toArray, List.set_cons_zero, List.set_cons_succ]
    refine wpAnyH_take (i := 26) (oi := ⟨some 133, _, _, _, _, _⟩) (v := .agg (bv (byt (t)))) rfl (by kernel_rfl) (by kernel_rfl) (by kernel_rfl) (fun _ _ _ h => h) (yields_arr_at (by kernel_rfl) (.tmp 132) rfl (ta) (byt (t)) rfl (fun w' h j hj => HTA2.out w' h j hj)) hS ?_
    simp only [Act.put, List.setIfInBounds_toArray, List.set_cons_zero, List.set_cons_succ]
    refine wpAnyH_take (i := 27) (oi := ⟨some 134, _, _, _, _, _⟩) (v := .slice (some tb) 1 cb) rfl (by kernel_rfl) (by kernel_rfl) (by kernel_rfl) (fun _ _ _ h => h) (Or.inl ⟨by kernel_rfl, fun w' hSw => ?_⟩) hS ?_
    · go_simp
    simp only [Act.put, List.setIfInBounds_toArray, List.set_cons_zero, List.set_cons_succ]
    refine wpAnyH_take (i := 28) (oi := ⟨some 135, _, _, _, _, _⟩) (v := .pointer (some tb)) rfl (by kernel_rfl) (by kernel_rfl) (by kernel_rfl) (fun _ _ _ h => h) (Or.inl ⟨by kernel_rfl, fun w' hSw => ?_⟩) hS ?_
    · go_simp
    simp only [Act.put, List.setIfInBounds_toArray, List.set_cons_zero, List.set_cons_succ]
    refine wpAnyH_take (i := 29) (oi := ⟨some 136, _, _, _, _, _⟩) (v := .agg (bv (byt (s)))) rfl (by kernel_rfl) (by kernel_rfl) (by kernel_rfl) (fun _ _ _ h => h) (yields_arr_at (by kernel_rfl) (.tmp 135) rfl (tb) (byt (s)) rfl (fun w' h j hj => HTB2.out w' h j hj)) hS ?_
    simp only [Act.put, List.setIfInBounds_toArray, List.set_cons_zero, List.set_cons_succ]
    refine wpAnyH_take (i := 30) (oi := ⟨some 137, _, _, _, _, _⟩) (v := .bool b) rfl (by kernel_rfl) (by kernel_rfl) (by kernel_rfl) (fun _ _ _ h => h) (yields_eqB (by kernel_rfl) (.tmp 133) (.tmp 136) rfl (byt t) (byt s) _ (HTS.out) rfl rfl) hS ?_
    simp only [Act.put, List.setIfInBounds_toArray, List.set_cons_zero, List.set_cons_succ]
    refine wpAnyH_take (i := 31) (oi := ⟨some 138, _, _, _, _, _⟩) (v := .int .i64 (u : Int)) rfl (by kernel_rfl) (by kernel_rfl) (by kernel_rfl) (fun _ _ _ h => h) (Or.inl ⟨by kernel_rfl, fun w' hSw => ?_⟩) hS ?_
    · go_simp
    simp only [Act.put, List.setIfInBounds_toArray, List.set_cons_zero, List.set_cons_succ]
    refine wpAnyH_take (i := 32) (oi := ⟨some 139, _, _, _, _, _⟩) (v := .int .i64 (v : Int)) rfl (by kernel_rfl) (by kernel_rfl) (by kernel_rfl) (fun _ _ _ h => h) (Or.inl ⟨by kernel_rfl, fun w' hSw => ?_⟩) hS ?_
    · go_simp
    simp only [Act.put, List.setIfInBounds_toArray, List.set_cons_zero, List.set_cons_succ]
    refine wpAnyH_take (i := 33) (oi := ⟨some 140, _, _, _, _, _⟩) (v := .bool b) rfl (by kernel_rfl) (by kernel_rfl) (by kernel_rfl) (fun _ _ _ h => h) (Or.inl ⟨by kernel_rfl, fun w' hSw => ?_⟩) hS ?_
    · (go_simp; exact HUW.out)
    simp only [Act.put, List.setIfInBounds_toArray, List.set_cons_zero, List.set_cons_succ]
    refine wpAnyH_take (i := 34) (oi := ⟨some 141, _, _, _, _, _⟩) (v := .bool true) rfl (by kernel_rfl) (by kernel_rfl) (by kernel_rfl) (fun _ _ _ h => h) (Or.inl ⟨by kernel_rfl, fun w' hSw => ?_⟩) hS ?_
    · (cases b <;> go_simp)
    simp only [Act.put, List.setIfInBounds_toArray, List.set_cons_zero, List.set_cons_succ]
    refine wpAnyH_take (i := 35) (oi := ⟨some 142, _, _, _, _, _⟩) (v := .bool true) rfl (by kernel_rfl) (by kernel_rfl) (by kernel_rfl) (fun _ _ _ h => h) (Or.inl ⟨by kernel_rfl, fun w' hSw => ?_⟩) hS ?_
    · go_simp
    simp only [Act.put, List.setIfInBounds_toArray, List.set_cons_zero, List.set_cons_succ]
    refine wpAnyH_take (i := 36) (oi := ⟨some 143, _, _, _, _, _⟩) (v := .bool true) rfl (by kernel_rfl) (by kernel_rfl) (by kernel_rfl) (fun _ _ _ h => h) (Or.inl ⟨by kernel_rfl, fun w' hSw => ?_⟩) hS ?_
    · go_simp
    simp only [Act.put, List.setIfInBounds_toArray, List.set_cons_zero, List.set_cons_succ]
    refine wpAnyH_ready (rs := [37]) (by kernel_rfl) (by simp) ?_
    refine (AllReadyH.cons (o := ⟨some 144, _, _, _, _, _⟩) rfl (fun K hK => ?_) AllReadyH.nil)
    rw [if_pos (by kernel_rfl)]
    go_simp
    refine (awake8 _).mono ?_
    rintro e v5 ⟨rfl, hq5⟩
    have hk119 := hk119.below hq5
    have hk126 := hk126.below hq5
    have hqz5 := hq5.size
    refine hK.out _ _ (hS.trans (hq5.mono (by first | exact hS.size | (have := hS.size; simp at this ⊢; omega)))) (fun hS => ?_)
    clear hK K
    refine wpAnyH_take (i := 38) (oi := ⟨some 145, _, _, _, _, _⟩) (v := .bool true) rfl (by kernel_rfl) (by kernel_rfl) (by kernel_rfl) (fun _ _ _ h => h) (Or.inl ⟨by kernel_rfl, fun w' hSw => ?_⟩) hS ?_
    · go_simp
    simp only [Act.put, List.setIfInBounds_toArray, List.set_cons_zero, List.set_cons_succ]
    refine wpAnyH_take (i := 39) (oi := ⟨some 8, _, _, _, _, _⟩) (v := .bool true) rfl (by kernel_rfl) (by kernel_rfl) (by kernel_rfl) (fun _ _ _ h => h) (Or.inl ⟨by kernel_rfl, fun w' hSw => ?_⟩) hS ?_
    · go_simp
    simp only [Act.put, List.setIfInBounds_toArray, List.set_cons_zero, List.set_cons_succ]
    refine wpAnyH_done (by kernel_rfl) ?_ _
    go_wp2_with fail
    go_ret
    exact ⟨rfl, hw7.trans (hS.mono hw7.size)⟩
set_option maxRecDepth 100000 in
set_option maxHeartbeats 4000000 in
theorem xuni_in64 (A : Option Addr) (n c : Nat) (l : List Nat) (u v : Nat) (B : Option Addr) (m c1 : Nat) (d : List Nat) (w : World) (hl : Bytes w A n l) (hc : n ≤ c) (hd : Bytes w B m d) (a1 : ((n : Int) != 32) = true) (a2 : ((n : Int) != 64) = false) (p2 : (u : Int) ≤ 1099511627776) (p4 : (v : Int) ≤ 1099511627776) (p5 : 16 ≤ m) (p6 : m ≤ 100) (hn : n = 32 ∨ n = 64) :
    Calls Try.prog 28 #[.slice A n c, .int .i64 (u : Int), .int .i64 (v : Int), .slice B m c1] w fun e w' => e = .returned (.bool true) ∧ Below w.heap.size w w' := by
  have HT : Box (∀ (w : World) (u : Nat), Bytes w A n l → (u : Int) ≤ 1099511627776 → Calls Try.prog 72 #[.slice A n c, .int .i64 (u : Int), .int .i64 1] w (RetBlk [encN (half2 l) u] 1 w)) := ⟨fun w u h hu => by
    have h1 := (tweaks_yes A n c l u 1 w h hc ⟨hn, by omega, hu⟩ (by decide)).mono fun e w' hq => hq.ret
    rwa [twL_one] at h1⟩
  have HE : Box (∀ (w : World) (u x : Nat) (B1 : Option Addr) (cc : Nat), x < 2 ^ 128 → Bytes w A n l → (u : Int) ≤ 1099511627776 → Bytes w B1 16 (listB (byt x)) → 16 ≤ cc → Calls Try.prog 69 #[.slice A n c, .int .i64 (u : Int), .slice B1 16 cc] w (RetRow (listB (byt (encN (half1 l) (x ^^^ encN (half2 l) u) ^^^ encN (half2 l) u))) 16 w)) := ⟨fun w u x B1 cc hx h hu hb hcc => by
    have h1 := (xenc_yes A n c l u B1 16 cc _ w h hc hb hcc ⟨⟨hn, by omega, hu⟩, by decide, by decide⟩).mono fun e w' hq => hq.ret (m := 16) (by decide)
    have e : xtL false (half1 l) (half2 l) u (listB (byt x)) (16 / 16) = _ := xtL_one (half1 l) (half2 l) u hx
    rwa [e] at h1⟩
  have hdl := hd.2.2.1
  have HBK : Box (∀ w, Bytes w B m d → Calls Try.prog 38 #[.slice B m c1] w fun e w' => e = .returned (.agg (bv (byt (numF (ofL d) 16)))) ∧ Below w.heap.size w w') := ⟨fun w h => by
    have h1 := block_walk B m c1 d w h
    rwa [show bv (ofL d) = bv (byt (numF (ofL d) 16)) from (blk_numF (ofL_lt hdl)).symm] at h1⟩
  have hxl : numF (ofL d) 16 < 2 ^ 128 := numF_lt16 (ofL_lt hdl)
  have hu128 : u < 2 ^ 128 := by omega
  have hv128 : v < 2 ^ 128 := by omega
  obtain ⟨b, hb⟩ : ∃ b, decide (u = v) = b := ⟨_, rfl⟩
  have HUV : Box (decide ((u : Int) = (v : Int)) = b) := ⟨by rw [← hb, decide_eq_decide]; omega⟩
  have HUW : Box (((u : Int) == (v : Int)) = b) := ⟨by rw [← HUV.out]; rfl⟩
  have htl : encN (half2 l) u < 2 ^ 128 := encN_lt _ _
  have hsl : encN (half2 l) v < 2 ^ 128 := encN_lt _ _
  have HTS : Box (eqB (byt (encN (half2 l) u)) (byt (encN (half2 l) v)) = b) := ⟨by
    rw [← hb, Bool.eq_iff_iff, eqB_iff, decide_eq_true_iff]
    exact ⟨fun h => encN_inj _ hu128 hv128 (byt_ext htl hsl h), fun h => by rw [h]; exact fun _ _ => rfl⟩⟩
  have hEu := HE.out (u := u)
  have hTu := HT.out (u := u)
  have hEv := HE.out (u := v)
  have hTv := HT.out (u := v)
  clear HE HT hb hdl
  generalize numF (ofL d) 16 = x at HBK hxl
  generalize encN (half2 l) u = t at hEu hTu htl HTS
  generalize encN (half2 l) v = s at hEv hTv hsl HTS
  obtain ⟨z, hz⟩ : ∃ z, encN (half1 l) (x ^^^ t) = z := ⟨_, rfl⟩
  have hzl : z < 2 ^ 128 := by rw [← hz]; exact encN_lt _ _
  have HEU : Box (∀ (w : World) (B1 : Option Addr) (cc : Nat), Bytes w A n l → Bytes w B1 16 (listB (byt x)) → 16 ≤ cc → Calls Try.prog 69 #[.slice A n c, .int .i64 (u : Int), .slice B1 16 cc] w (RetRow (listB (byt (z ^^^ t))) 16 w)) := ⟨fun w B1 cc h1 h2 h3 => by
    have h4 := hEu w x B1 cc hxl h1 p2 h2 h3
    rwa [hz] at h4⟩
  have HEV : Box (∀ (w : World) (B1 : Option Addr) (cc : Nat), Bytes w A n l → Bytes w B1 16 (listB (byt (x ^^^ t ^^^ s))) → 16 ≤ cc → Calls Try.prog 69 #[.slice A n c, .int .i64 (v : Int), .slice B1 16 cc] w (RetRow (listB (byt (z ^^^ s))) 16 w)) := ⟨fun w B1 cc h1 h2 h3 => by
    have h4 := hEv w (x ^^^ t ^^^ s) B1 cc (Twk.xor_lt128 (Twk.xor_lt128 hxl htl) hsl) h1 p4 h2 h3
    rwa [show x ^^^ t ^^^ s ^^^ s = x ^^^ t by rw [Nat.xor_assoc, Nat.xor_self, Nat.xor_zero], hz] at h4⟩
  have HTU : Box (∀ w, Bytes w A n l → Calls Try.prog 72 #[.slice A n c, .int .i64 (u : Int), .int .i64 1] w (RetBlk [t] 1 w)) := ⟨fun w h => hTu w h p2⟩
  have HTV : Box (∀ w, Bytes w A n l → Calls Try.prog 72 #[.slice A n c, .int .i64 (v : Int), .int .i64 1] w (RetBlk [s] 1 w)) := ⟨fun w h => hTv w h p4⟩
  have HZT : Box (z ^^^ t ^^^ t = z) := ⟨by rw [Nat.xor_assoc, Nat.xor_self, Nat.xor_zero]⟩
  have HZS : Box (z ^^^ s ^^^ s = z) := ⟨by rw [Nat.xor_assoc, Nat.xor_self, Nat.xor_zero]⟩
  have hzt : z ^^^ t < 2 ^ 128 := Twk.xor_lt128 hzl htl
  have hzs : z ^^^ s < 2 ^ 128 := Twk.xor_lt128 hzl hsl
  have u0 : (0 : Int) ≤ (u : Int) := by omega
  have v0 : (0 : Int) ≤ (v : Int) := by omega
  clear hEu hTu hEv hTv hz hu128 hv128
  go_enter Try.func28, Try.ntmps28
  go_wp2_with fail
  refine (HBK.out _ hd).mono ?_
  rintro e w1 ⟨rfl, hb1⟩
  go_wp2_with (first
      | ((with_reducible show wpList _ _ _ (⟨_, Op.store 36 (.tmp 9) (.tmp 55), _, _, _, _⟩ :: _) _ _); refine wp_store_arr rfl (.tmp 9) (.tmp 55) rfl (w1.heap.size) (fun _ => 0) (byt x) rfl rfl (Arr.zero _ _ rfl) ?_))
  have hX : Arr ((w1.alloc (.cells #[.int .u8 0, .int .u8 0, .int .u8 0, .int .u8 0, .int .u8 0, .int .u8 0, .int .u8 0, .int .u8 0, .int .u8 0, .int .u8 0, .int .u8 0, .int .u8 0, .int .u8 0, .int .u8 0, .int .u8 0, .int .u8 0] 36)).setRow w1.heap.size (bv (byt x))) w1.heap.size (byt x) := (Arr.zero _ _ rfl).setRow
  have hbW : Below w1.heap.size w1 ((w1.alloc (.cells #[.int .u8 0, .int .u8 0, .int .u8 0, .int .u8 0, .int .u8 0, .int .u8 0, .int .u8 0, .int .u8 0, .int .u8 0, .int .u8 0, .int .u8 0, .int .u8 0, .int .u8 0, .int .u8 0, .int .u8 0, .int .u8 0] 36)).setRow w1.heap.size (bv (byt x))) := below_setRow ((Below.refl _ _).alloc (Nat.le_refl _) _) (Nat.le_refl _) _
  revert hX hbW
  generalize ((w1.alloc (.cells #[.int .u8 0, .int .u8 0, .int .u8 0, .int .u8 0, .int .u8 0, .int .u8 0, .int .u8 0, .int .u8 0, .int .u8 0, .int .u8 0, .int .u8 0, .int .u8 0, .int .u8 0, .int .u8 0, .int .u8 0, .int .u8 0] 36)).setRow w1.heap.size (bv (byt x))) = w2
  intro hX hbW
  have hw2 := hb1.trans (hbW.mono hb1.size)
  clear hb1 hbW HBK
  refine (HTU.out _ (hl.below hw2)).mono ?_
  rintro e w3 ⟨A3, ca, rfl, hO3, hb3⟩
  have hX := hX.below hb3 hX.lt
  have hw3 := hw2.trans (hb3.mono hw2.size)
  clear hb3 hw2
  go_wp2_with fail
  refine (HTV.out _ (hl.below hw3)).mono ?_
  rintro e w4 ⟨A4, cb, rfl, hO4, hb4⟩
  have hX := hX.below hb4 hX.lt
  have hO3 := hO3.below hb4 (Nat.le_refl _)
  have hw4 := hw3.trans (hb4.mono hw3.size)
  clear hb4 hw3 HTU HTV
  obtain ⟨ta, hta⟩ : ∃ ad, A3 = some ad := by
    obtain ⟨bt, ot, _, hAt, _⟩ := hO3.rd.at_ (k := 0) (by decide)
    exact ⟨_, hAt⟩
  subst hta
  obtain ⟨tb, htb⟩ : ∃ ad, A4 = some ad := by
    obtain ⟨bt, ot, _, hAt, _⟩ := hO4.rd.at_ (k := 0) (by decide)
    exact ⟨_, hAt⟩
  subst htb
  have HTA : Box (∀ w', Below w4.heap.size w4 w' → ∀ j, j < 16 → w'.cell? (ta.add j) = some (cellOf (byt t j))) := ⟨fun w' h j hj => (hO3.below h (Nat.le_refl _)).cell0 (by decide) hj⟩
  have HTB : Box (∀ w', Below w4.heap.size w4 w' → ∀ j, j < 16 → w'.cell? (tb.add j) = some (cellOf (byt s j))) := ⟨fun w' h j hj => (hO4.below h (Nat.le_refl _)).cell0 (by decide) hj⟩
  go_upto_region 8 with fail
  go_cut [14] from 84 to 92 (fun p wx => NewArr w4 w4.heap.size (byt (x ^^^ t ^^^ s)) p wx)
  case first =>
    refine wp_region_held_drew (S := fun w' => Below w4.heap.size w4 w') (by kernel_rfl) (Below.refl _ _).drew (fun hS => ?_)
    refine wpAnyH_take (i := 0) (oi := ⟨some 84, _, _, _, _, _⟩) (v := .agg (bv (byt x))) rfl (by kernel_rfl) (by kernel_rfl) (by kernel_rfl) (fun _ _ _ h => h) (yields_arr (by kernel_rfl) (.tmp 9) rfl (w1.heap.size) (byt x) rfl fun w' h => hX.below h hX.lt) hS ?_
    simp only [Act.put, List.setIfInBounds_toArray, List.set_cons_zero, List.set_cons_succ]
    refine wpAnyH_take (i := 1) (oi := ⟨some 85, _, _, _, _, _⟩) (v := .slice (some ta) 1 ca) rfl (by kernel_rfl) (by kernel_rfl) (by kernel_rfl) (fun _ _ _ h => h) (Or.inl ⟨by kernel_rfl, fun w' hSw => ?_⟩) hS ?_
    · go_simp
    simp only [Act.put, List.setIfInBounds_toArray, List.set_cons_zero, List.set_cons_succ]
    refine wpAnyH_take (i := 2) (oi := ⟨some 86, _, _, _, _, _⟩) (v := .pointer (some ta)) rfl (by kernel_rfl) (by kernel_rfl) (by kernel_rfl) (fun _ _ _ h => h) (Or.inl ⟨by kernel_rfl, fun w' hSw => ?_⟩) hS ?_
    · go_simp
    simp only [Act.put, List.setIfInBounds_toArray, List.set_cons_zero, List.set_cons_succ]
    refine wpAnyH_take (i := 3) (oi := ⟨some 87, _, _, _, _, _⟩) (v := .agg (bv (byt (t)))) rfl (by kernel_rfl) (by kernel_rfl) (by kernel_rfl) (fun _ _ _ h => h) (yields_arr_at (by kernel_rfl) (.tmp 86) rfl (ta) (byt (t)) rfl (fun w' h j hj => HTA.out w' h j hj)) hS ?_
    simp only [Act.put, List.setIfInBounds_toArray, List.set_cons_zero, List.set_cons_succ]
    refine wpAnyH_take (i := 4) (oi := ⟨some 88, _, _, _, _, _⟩) (v := .slice (some tb) 1 cb) rfl (by kernel_rfl) (by kernel_rfl) (by kernel_rfl) (fun _ _ _ h => h) (Or.inl ⟨by kernel_rfl, fun w' hSw => ?_⟩) hS ?_
    · go_simp
    simp only [Act.put, List.setIfInBounds_toArray, List.set_cons_zero, List.set_cons_succ]
    refine wpAnyH_take (i := 5) (oi := ⟨some 89, _, _, _, _, _⟩) (v := .pointer (some tb)) rfl (by kernel_rfl) (by kernel_rfl) (by kernel_rfl) (fun _ _ _ h => h) (Or.inl ⟨by kernel_rfl, fun w' hSw => ?_⟩) hS ?_
    · go_simp
    simp only [Act.put, List.setIfInBounds_toArray, List.set_cons_zero, List.set_cons_succ]
    refine wpAnyH_take (i := 6) (oi := ⟨some 90, _, _, _, _, _⟩) (v := .agg (bv (byt (s)))) rfl (by kernel_rfl) (by kernel_rfl) (by kernel_rfl) (fun _ _ _ h => h) (yields_arr_at (by kernel_rfl) (.tmp 89) rfl (tb) (byt (s)) rfl (fun w' h j hj => HTB.out w' h j hj)) hS ?_
    simp only [Act.put, List.setIfInBounds_toArray, List.set_cons_zero, List.set_cons_succ]
    refine wpAnyH_ready (rs := [7, 9]) (by kernel_rfl) (by simp) ?_
    refine (AllReadyH.cons (o := ⟨some 91, _, _, _, _, _⟩) rfl (fun K hK => ?_) (AllReadyH.cons (o := ⟨some 14, _, _, _, _, _⟩) rfl (fun K hK => ?_) AllReadyH.nil))
    · rw [if_pos (by kernel_rfl)]
      refine wpo_three3 (.tmp 84) (.tmp 87) (.tmp 90) rfl (x) (t) (s) rfl rfl rfl hxl htl hsl (fun A91 v1 hk91 hq1 hqz1 => ?_)
      refine hK.out _ _ (hS.trans (hq1.mono (by first | exact hS.size | (have := hS.size; simp at this ⊢; omega)))) (fun hS => ?_)
      clear hK K
      simp only [Act.put, List.setIfInBounds_toArray, List.set_cons_zero, List.set_cons_succ]
      refine wpAnyH_ready (rs := [8, 9]) (by kernel_rfl) (by simp) ?_
      refine (AllReadyH.cons (o := ⟨some 92, _, _, _, _, _⟩) rfl (fun K hK => ?_) (AllReadyH.cons (o := ⟨some 14, _, _, _, _, _⟩) rfl (fun K hK => ?_) AllReadyH.nil))
      · rw [if_pos (by kernel_rfl)]
        go_simp
        refine (xor_three _ _ x t s _ hk91).mono ?_
        rintro e v2 ⟨rfl, hq2⟩
        have hk91 := hk91.below hq2
        have hqz2 := hq2.size
        refine hK.out _ _ (hS.trans (hq2.mono (by first | exact hS.size | (have := hS.size; simp at this ⊢; omega)))) (fun hS => ?_)
        clear hK K
        refine wpAnyH_ready (rs := [9]) (by kernel_rfl) (by simp) ?_
        refine (AllReadyH.cons (o := ⟨some 14, _, _, _, _, _⟩) rfl (fun K hK => ?_) AllReadyH.nil)
        rw [if_pos (by kernel_rfl)]
        go_simp
        have hk91 := hk91.alloc (.cells #[.int .u8 0, .int .u8 0, .int .u8 0, .int .u8 0, .int .u8 0, .int .u8 0, .int .u8 0, .int .u8 0, .int .u8 0, .int .u8 0, .int .u8 0, .int .u8 0, .int .u8 0, .int .u8 0, .int .u8 0, .int .u8 0] 36)
        have hg14 := hS.size
        have ha14 : Arr (v2.alloc (.cells #[.int .u8 0, .int .u8 0, .int .u8 0, .int .u8 0, .int .u8 0, .int .u8 0, .int .u8 0, .int .u8 0, .int .u8 0, .int .u8 0, .int .u8 0, .int .u8 0, .int .u8 0, .int .u8 0, .int .u8 0, .int .u8 0] 36)) (v2.heap.size) (fun _ => 0) := Arr.zero _ _ (by first | rfl | simp | simp [World.setRow])
        refine hK.out _ _ (hS.alloc hS.size _) (fun hS => ?_)
        clear hK K
        refine wpAnyH_ready (rs := [10]) (by kernel_rfl) (by simp) ?_
        refine (AllReadyH.cons (o := ⟨none, _, _, _, _, _⟩) rfl (fun K hK => ?_) AllReadyH.nil)
        rw [if_pos (by kernel_rfl)]
        refine wpo_store_arr (.tmp 14) (.tmp 92) rfl (v2.heap.size) (fun _ => 0) (byt (x ^^^ t ^^^ s)) rfl rfl ha14 ?_
        have ha14 := ha14.setRow (h := byt (x ^^^ t ^^^ s))
        refine hK.out _ _ (below_setRow hS (by have := hS.size; first | omega | (simp at *; omega) | (simp [setRow_size] at *; omega)) _) (fun hS => ?_)
        clear hK K
        simp only [Act.put]
        refine wpAnyH_done (by kernel_rfl) ?_ _
        go_wp2_with fail
        go_meet
        case rel => exact ⟨_, rfl, (by first | exact hg14 | simpa using hg14 | omega), ha14, hS⟩
      · rw [if_pos (by kernel_rfl)]
        go_simp
        have hk91 := hk91.alloc (.cells #[.int .u8 0, .int .u8 0, .int .u8 0, .int .u8 0, .int .u8 0, .int .u8 0, .int .u8 0, .int .u8 0, .int .u8 0, .int .u8 0, .int .u8 0, .int .u8 0, .int .u8 0, .int .u8 0, .int .u8 0, .int .u8 0] 36)
        have hg14 := hS.size
        have ha14 : Arr (v1.alloc (.cells #[.int .u8 0, .int .u8 0, .int .u8 0, .int .u8 0, .int .u8 0, .int .u8 0, .int .u8 0, .int .u8 0, .int .u8 0, .int .u8 0, .int .u8 0, .int .u8 0, .int .u8 0, .int .u8 0, .int .u8 0, .int .u8 0] 36)) (v1.heap.size) (fun _ => 0) := Arr.zero _ _ (by first | rfl | simp | simp [World.setRow])
        refine hK.out _ _ (hS.alloc hS.size _) (fun hS => ?_)
        clear hK K
        refine wpAnyH_ready (rs := [8]) (by kernel_rfl) (by simp) ?_
        refine (AllReadyH.cons (o := ⟨some 92, _, _, _, _, _⟩) rfl (fun K hK => ?_) AllReadyH.nil)
        rw [if_pos (by kernel_rfl)]
        go_simp
        refine (xor_three _ _ x t s _ hk91).mono ?_
        rintro e v2 ⟨rfl, hq2⟩
        have ha14 := ha14.below hq2 ha14.lt
        have hk91 := hk91.below hq2
        have hqz2 := hq2.size
        refine hK.out _ _ (hS.trans (hq2.mono (by first | exact hS.size | (have := hS.size; simp at this ⊢; omega)))) (fun hS => ?_)
        clear hK K
        refine wpAnyH_ready (rs := [10]) (by kernel_rfl) (by simp) ?_
        refine (AllReadyH.cons (o := ⟨none, _, _, _, _, _⟩) rfl (fun K hK => ?_) AllReadyH.nil)
        rw [if_pos (by kernel_rfl)]
        refine wpo_store_arr (.tmp 14) (.tmp 92) rfl (v1.heap.size) (fun _ => 0) (byt (x ^^^ t ^^^ s)) rfl rfl ha14 ?_
        have ha14 := ha14.setRow (h := byt (x ^^^ t ^^^ s))
        refine hK.out _ _ (below_setRow hS (by have := hS.size; first | omega | (simp at *; omega) | (simp [setRow_size] at *; omega)) _) (fun hS => ?_)
        clear hK K
        simp only [Act.put]
        refine wpAnyH_done (by kernel_rfl) ?_ _
        go_wp2_with fail
        go_meet
        case rel => exact ⟨_, rfl, (by first | exact hg14 | simpa using hg14 | omega), ha14, hS⟩
    · rw [if_pos (by kernel_rfl)]
      go_simp
      have hg14 := hS.size
      have ha14 : Arr (w4.drew.alloc (.cells #[.int .u8 0, .int .u8 0, .int .u8 0, .int .u8 0, .int .u8 0, .int .u8 0, .int .u8 0, .int .u8 0, .int .u8 0, .int .u8 0, .int .u8 0, .int .u8 0, .int .u8 0, .int .u8 0, .int .u8 0, .int .u8 0] 36)) (w4.heap.size) (fun _ => 0) := Arr.zero _ _ (by first | rfl | simp | simp [World.setRow])
      refine hK.out _ _ (hS.alloc hS.size _) (fun hS => ?_)
      clear hK K
      refine wpAnyH_ready (rs := [7]) (by kernel_rfl) (by simp) ?_
      refine (AllReadyH.cons (o := ⟨some 91, _, _, _, _, _⟩) rfl (fun K hK => ?_) AllReadyH.nil)
      rw [if_pos (by kernel_rfl)]
      refine wpo_three3 (.tmp 84) (.tmp 87) (.tmp 90) rfl (x) (t) (s) rfl rfl rfl hxl htl hsl (fun A91 v1 hk91 hq1 hqz1 => ?_)
      have ha14 := ha14.below hq1 ha14.lt
      refine hK.out _ _ (hS.trans (hq1.mono (by first | exact hS.size | (have := hS.size; simp at this ⊢; omega)))) (fun hS => ?_)
      clear hK K
      simp only [Act.put, List.setIfInBounds_toArray, List.set_cons_zero, List.set_cons_succ]
      refine wpAnyH_ready (rs := [8]) (by kernel_rfl) (by simp) ?_
      refine (AllReadyH.cons (o := ⟨some 92, _, _, _, _, _⟩) rfl (fun K hK => ?_) AllReadyH.nil)
      rw [if_pos (by kernel_rfl)]
      go_simp
      refine (xor_three _ _ x t s _ hk91).mono ?_
      rintro e v2 ⟨rfl, hq2⟩
      have ha14 := ha14.below hq2 ha14.lt
      have hk91 := hk91.below hq2
      have hqz2 := hq2.size
      refine hK.out _ _ (hS.trans (hq2.mono (by first | exact hS.size | (have := hS.size; simp at this ⊢; omega)))) (fun hS => ?_)
      clear hK K
      refine wpAnyH_ready (rs := [10]) (by kernel_rfl) (by simp) ?_
      refine (AllReadyH.cons (o := ⟨none, _, _, _, _, _⟩) rfl (fun K hK => ?_) AllReadyH.nil)
      rw [if_pos (by kernel_rfl)]
      refine wpo_store_arr (.tmp 14) (.tmp 92) rfl (w4.heap.size) (fun _ => 0) (byt (x ^^^ t ^^^ s)) rfl rfl ha14 ?_
      have ha14 := ha14.setRow (h := byt (x ^^^ t ^^^ s))
      refine hK.out _ _ (below_setRow hS (by have := hS.size; first | omega | (simp at *; omega) | (simp [setRow_size] at *; omega)) _) (fun hS => ?_)
      clear hK K
      simp only [Act.put]
      refine wpAnyH_done (by kernel_rfl) ?_ _
      go_wp2_with fail
      go_meet
      case rel => exact ⟨_, rfl, (by first | exact hg14 | simpa using hg14 | omega), ha14, hS⟩
  case rest =>
    obtain ⟨g14, rfl, hg14, hY, hb5⟩ := hcut
    have hX := hX.below hb5 hX.lt
    have hO3 := hO3.below hb5 (Nat.le_refl _)
    have hO4 := hO4.below hb5 (Nat.le_refl _)
    have hw5 := hw4.trans (hb5.mono hw4.size)
    clear hb5 hw4 HTA HTB
    go_wp2_with fail
    refine (HEU.out _ _ _ (hl.below hw5) (hX.bytes (Twk.byt_lt x)) (by decide)).mono ?_
    rintro e w6 ⟨AP, cP, rfl, hP, _, hb6⟩
    have hY := hY.below hb6 hY.lt
    have hO3 := hO3.below hb6 (Nat.le_refl _)
    have hO4 := hO4.below hb6 (Nat.le_refl _)
    have hw6 := hw5.trans (hb6.mono hw5.size)
    clear hb6 hw5 hX
    go_wp2_with fail
    refine (HEV.out _ _ _ (hl.below hw6) (hY.bytes (Twk.byt_lt _)) (by decide)).mono ?_
    rintro e w7 ⟨AQ, cQ, rfl, hQ, _, hb7⟩
    have hP := hP.below hb7 (Nat.le_refl _)
    have hO3 := hO3.below hb7 (Nat.le_refl _)
    have hO4 := hO4.below hb7 (Nat.le_refl _)
    have hw7 := hw6.trans (hb7.mono hw6.size)
    clear hb7 hw6 hY HEU HEV
    have HTA2 : Box (∀ w', Below w7.heap.size w7 w' → ∀ j, j < 16 → w'.cell? (ta.add j) = some (cellOf (byt t j))) := ⟨fun w' h j hj => (hO3.below h (Nat.le_refl _)).cell0 (by decide) hj⟩
    have HTB2 : Box (∀ w', Below w7.heap.size w7 w' → ∀ j, j < 16 → w'.cell? (tb.add j) = some (cellOf (byt s j))) := ⟨fun w' h j hj => (hO4.below h (Nat.le_refl _)).cell0 (by decide) hj⟩
    have HP : Box (∀ w', Below w7.heap.size w7 w' → Bytes w' AP 16 (listB (byt (z ^^^ t)))) := ⟨fun w' h => hP.rd.below h⟩
    have HQ : Box (∀ w', Below w7.heap.size w7 w' → Bytes w' AQ 16 (listB (byt (z ^^^ s)))) := ⟨fun w' h => hQ.rd.below h⟩
    clear hO3 hO4 hP hQ
    go_wp2_with fail
    refine wp_region_held_drew (S := fun w' => Below w7.heap.size w7 w') (by kernel_rfl) (Below.refl _ _).drew (fun hS => ?_)
    refine wpAnyH_take (i := 0) (oi := ⟨some 107, _, _, _, _, _⟩) (v := .int .i64 0) rfl (by kernel_rfl) (by kernel_rfl) (by kernel_rfl) (fun _ _ _ h => h) (Or.inl ⟨by kernel_rfl, fun w' hSw => ?_⟩) hS ?_
    · go_simp
    simp only [Act.put, List.setIfInBounds_toArray, List.set_cons_zero, List.set_cons_succ]
    refine wpAnyH_take (i := 1) (oi := ⟨some 108, _, _, _, _, _⟩) (v := .bool true) rfl (by kernel_rfl) (by kernel_rfl) (by kernel_rfl) (fun _ _ _ h => h) (Or.inl ⟨by kernel_rfl, fun w' hSw => ?_⟩) hS ?_
    · go_simp
    simp only [Act.put, List.setIfInBounds_toArray, List.set_cons_zero, List.set_cons_succ]
    refine wpAnyH_take (i := 2) (oi := ⟨some 109, _, _, _, _, _⟩) (v := .bool true) rfl (by kernel_rfl) (by kernel_rfl) (by kernel_rfl) (fun _ _ _ h => h) (Or.inl ⟨by kernel_rfl, fun w' hSw => ?_⟩) hS ?_
    · go_simp
    simp only [Act.put, List.setIfInBounds_toArray, List.set_cons_zero, List.set_cons_succ]
    refine wpAnyH_take (i := 3) (oi := ⟨some 110, _, _, _, _, _⟩) (v := .int .i64 0) rfl (by kernel_rfl) (by kernel_rfl) (by kernel_rfl) (fun _ _ _ h => h) (Or.inl ⟨by kernel_rfl, fun w' hSw => ?_⟩) hS ?_
    · go_simp
    simp only [Act.put, List.setIfInBounds_toArray, List.set_cons_zero, List.set_cons_succ]
    refine wpAnyH_take (i := 4) (oi := ⟨some 111, _, _, _, _, _⟩) (v := .bool true) rfl (by kernel_rfl) (by kernel_rfl) (by kernel_rfl) (fun _ _ _ h => h) (Or.inl ⟨by kernel_rfl, fun w' hSw => ?_⟩) hS ?_
    · go_simp
    simp only [Act.put, List.setIfInBounds_toArray, List.set_cons_zero, List.set_cons_succ]
    refine wpAnyH_take (i := 5) (oi := ⟨some 112, _, _, _, _, _⟩) (v := .bool true) rfl (by kernel_rfl) (by kernel_rfl) (by kernel_rfl) (fun _ _ _ h => h) (Or.inl ⟨by kernel_rfl, fun w' hSw => ?_⟩) hS ?_
    · go_simp
    simp only [Act.put, List.setIfInBounds_toArray, List.set_cons_zero, List.set_cons_succ]
    refine wpAnyH_take (i := 6) (oi := ⟨some 113, _, _, _, _, _⟩) (v := .bool true) rfl (by kernel_rfl) (by kernel_rfl) (by kernel_rfl) (fun _ _ _ h => h) (Or.inl ⟨by kernel_rfl, fun w' hSw => ?_⟩) hS ?_
    · go_simp
    simp only [Act.put, List.setIfInBounds_toArray, List.set_cons_zero, List.set_cons_succ]
    refine wpAnyH_take (i := 7) (oi := ⟨some 114, _, _, _, _, _⟩) (v := .slice AP 16 cP) rfl (by kernel_rfl) (by kernel_rfl) (by kernel_rfl) (fun _ _ _ h => h) (Or.inl ⟨by kernel_rfl, fun w' hSw => ?_⟩) hS ?_
    · go_simp
    simp only [Act.put, List.setIfInBounds_toArray, List.set_cons_zero, List.set_cons_succ]
    refine wpAnyH_take (i := 9) (oi := ⟨some 116, _, _, _, _, _⟩) (v := .slice (some ta) 1 ca) rfl (by kernel_rfl) (by kernel_rfl) (by kernel_rfl) (fun _ _ _ h => h) (Or.inl ⟨by kernel_rfl, fun w' hSw => ?_⟩) hS ?_
    · go_simp
    simp only [Act.put, List.setIfInBounds_toArray, List.set_cons_zero, List.set_cons_succ]
    refine wpAnyH_take (i := 10) (oi := ⟨some 117, _, _, _, _, _⟩) (v := .pointer (some ta)) rfl (by kernel_rfl) (by kernel_rfl) (by kernel_rfl) (fun _ _ _ h => h) (Or.inl ⟨by kernel_rfl, fun w' hSw => ?_⟩) hS ?_
    · go_simp
    simp only [Act.put, List.setIfInBounds_toArray, List.set_cons_zero, List.set_cons_succ]
    refine wpAnyH_take (i := 11) (oi := ⟨some 118, _, _, _, _, _⟩) (v := .agg (bv (byt (t)))) rfl (by kernel_rfl) (by kernel_rfl) (by kernel_rfl) (fun _ _ _ h => h) (yields_arr_at (by kernel_rfl) (.tmp 117) rfl (ta) (byt (t)) rfl (fun w' h j hj => HTA2.out w' h j hj)) hS ?_
    simp only [Act.put, List.setIfInBounds_toArray, List.set_cons_zero, List.set_cons_succ]
    refine wpAnyH_take (i := 14) (oi := ⟨some 121, _, _, _, _, _⟩) (v := .slice AQ 16 cQ) rfl (by kernel_rfl) (by kernel_rfl) (by kernel_rfl) (fun _ _ _ h => h) (Or.inl ⟨by kernel_rfl, fun w' hSw => ?_⟩) hS ?_
    · go_simp
    simp only [Act.put, List.setIfInBounds_toArray, List.set_cons_zero, List.set_cons_succ]
    refine wpAnyH_take (i := 16) (oi := ⟨some 123, _, _, _, _, _⟩) (v := .slice (some tb) 1 cb) rfl (by kernel_rfl) (by kernel_rfl) (by kernel_rfl) (fun _ _ _ h => h) (Or.inl ⟨by kernel_rfl, fun w' hSw => ?_⟩) hS ?_
    · go_simp
    simp only [Act.put, List.setIfInBounds_toArray, List.set_cons_zero, List.set_cons_succ]
    refine wpAnyH_take (i := 17) (oi := ⟨some 124, _, _, _, _, _⟩) (v := .pointer (some tb)) rfl (by kernel_rfl) (by kernel_rfl) (by kernel_rfl) (fun _ _ _ h => h) (Or.inl ⟨by kernel_rfl, fun w' hSw => ?_⟩) hS ?_
    · go_simp
    simp only [Act.put, List.setIfInBounds_toArray, List.set_cons_zero, List.set_cons_succ]
    refine wpAnyH_take (i := 18) (oi := ⟨some 125, _, _, _, _, _⟩) (v := .agg (bv (byt (s)))) rfl (by kernel_rfl) (by kernel_rfl) (by kernel_rfl) (fun _ _ _ h => h) (yields_arr_at (by kernel_rfl) (.tmp 124) rfl (tb) (byt (s)) rfl (fun w' h j hj => HTB2.out w' h j hj)) hS ?_
    simp only [Act.put, List.setIfInBounds_toArray, List.set_cons_zero, List.set_cons_succ]
    refine wpAnyH_ready (rs := [8]) (by kernel_rfl) (by simp) ?_
    refine (AllReadyH.cons (o := ⟨some 115, _, _, _, _, _⟩) rfl (fun K hK => ?_) AllReadyH.nil)
    rw [if_pos (by kernel_rfl)]
    go_simp
    refine (block_listB _ _ _ _ (HP.out _ hS)).mono ?_
    rintro e v1 ⟨rfl, hq1⟩
    have hqz1 := hq1.size
    refine hK.out _ _ (hS.trans (hq1.mono (by first | exact hS.size | (have := hS.size; simp at this ⊢; omega)))) (fun hS => ?_)
    clear hK K
    refine wpAnyH_ready (rs := [12]) (by kernel_rfl) (by simp) ?_
    refine (AllReadyH.cons (o := ⟨some 119, _, _, _, _, _⟩) rfl (fun K hK => ?_) AllReadyH.nil)
    rw [if_pos (by kernel_rfl)]
    refine wp_two (.tmp 115) (.tmp 118) rfl (byt (z ^^^ t)) (byt (t)) rfl rfl ?_
    have hk119 : Blocks (v1.alloc (.cells (bv (byt (z ^^^ t)) ++ bv (byt (t))) 36)) (some ⟨v1.heap.size, 0, none⟩) 2 [z ^^^ t, t] := blocks_two _ _ _ _ (by first | rfl | simp | simp [World.setRow]) hzt htl
    refine hK.out _ _ (hS.alloc hS.size _) (fun hS => ?_)
    clear hK K
    simp only [Act.put, List.setIfInBounds_toArray, List.set_cons_zero, List.set_cons_succ]
    refine wpAnyH_ready (rs := [13]) (by kernel_rfl) (by simp) ?_
    refine (AllReadyH.cons (o := ⟨some 120, _, _, _, _, _⟩) rfl (fun K hK => ?_) AllReadyH.nil)
    rw [if_pos (by kernel_rfl)]
    go_simp
    refine (xor_two _ _ (z ^^^ t) t _ hk119).mono ?_
    rw [HZT.out]
    rintro e v2 ⟨rfl, hq2⟩
    have hk119 := hk119.below hq2
    have hqz2 := hq2.size
    refine hK.out _ _ (hS.trans (hq2.mono (by first | exact hS.size | (have := hS.size; simp at this ⊢; omega)))) (fun hS => ?_)
    clear hK K
    refine wpAnyH_ready (rs := [15]) (by kernel_rfl) (by simp) ?_
    refine (AllReadyH.cons (o := ⟨some 122, _, _, _, _, _⟩) rfl (fun K hK => ?_) AllReadyH.nil)
    rw [if_pos (by kernel_rfl)]
    go_simp
    refine (block_listB _ _ _ _ (HQ.out _ hS)).mono ?_
    rintro e v3 ⟨rfl, hq3⟩
    have hk119 := hk119.below hq3
    have hqz3 := hq3.size
    refine hK.out _ _ (hS.trans (hq3.mono (by first | exact hS.size | (have := hS.size; simp at this ⊢; omega)))) (fun hS => ?_)
    clear hK K
    refine wpAnyH_ready (rs := [19]) (by kernel_rfl) (by simp) ?_
    refine (AllReadyH.cons (o := ⟨some 126, _, _, _, _, _⟩) rfl (fun K hK => ?_) AllReadyH.nil)
    rw [if_pos (by kernel_rfl)]
    refine wp_two (.tmp 122) (.tmp 125) rfl (byt (z ^^^ s)) (byt (s)) rfl rfl ?_
    have hk119 := hk119.alloc (.cells (bv (byt (z ^^^ s)) ++ bv (byt (s))) 36)
    have hk126 : Blocks (v3.alloc (.cells (bv (byt (z ^^^ s)) ++ bv (byt (s))) 36)) (some ⟨v3.heap.size, 0, none⟩) 2 [z ^^^ s, s] := blocks_two _ _ _ _ (by first | rfl | simp | simp [World.setRow]) hzs hsl
    refine hK.out _ _ (hS.alloc hS.size _) (fun hS => ?_)
    clear hK K
    simp only [Act.put, List.setIfInBounds_toArray, List.set_cons_zero, List.set_cons_succ]
    refine wpAnyH_ready (rs := [20]) (by kernel_rfl) (by simp) ?_
    refine (AllReadyH.cons (o := ⟨some 127, _, _, _, _, _⟩) rfl (fun K hK => ?_) AllReadyH.nil)
    rw [if_pos (by kernel_rfl)]
    go_simp
    refine (xor_two _ _ (z ^^^ s) s _ hk126).mono ?_
    rw [HZS.out]
    rintro e v4 ⟨rfl, hq4⟩
    have hk119 := hk119.below hq4
    have hk126 := hk126.below hq4
    have hqz4 := hq4.size
    refine hK.out _ _ (hS.trans (hq4.mono (by first | exact hS.size | (have := hS.size; simp at this ⊢; omega)))) (fun hS => ?_)
    clear hK K
    refine wpAnyH_take (i := 21) (oi := ⟨some 128, _, _, _, _, _⟩) (v := .bool true) rfl (by kernel_rfl) (by kernel_rfl) (by kernel_rfl) (fun _ _ _ h => h) (yields_same (by kernel_rfl) (.tmp 120) (.tmp 127) rfl (byt (z)) rfl rfl) hS ?_
    simp only [Act.put, List.setIfInBounds_toArray, List.set_cons_zero, List.set_cons_succ]
    refine wpAnyH_take (i := 22) (oi := ⟨some 129, _, _, _, _, _⟩) (v := .bool true) rfl (by kernel_rfl) (by kernel_rfl) (by kernel_rfl) (fun _ _ _ h => h) (Or.inl ⟨by kernel_rfl, fun w' hSw => ?_⟩) hS ?_
    · go_simp
    simp only [Act.put, List.setIfInBounds_toArray, List.set_cons_zero, List.set_cons_succ]
    refine wpAnyH_take (i := 23) (oi := ⟨some 130, _, _, _, _, _⟩) (v := .bool true) rfl (by kernel_rfl) (by kernel_rfl) (by kernel_rfl) (fun _ _ _ h => h) (Or.inl ⟨by kernel_rfl, fun w' hSw => ?_⟩) hS ?_
    · go_simp
    simp only [Act.put, List.setIfInBounds_toArray, List.set_cons_zero, List.set_cons_succ]
    refine wpAnyH_take (i := 24) (oi := ⟨some 131, _, _, _, _, _⟩) (v := .slice (some ta) 1 ca) rfl (by kernel_rfl) (by kernel_rfl) (by kernel_rfl) (fun _ _ _ h => h) (Or.inl ⟨by kernel_rfl, fun w' hSw => ?_⟩) hS ?_
    · go_simp
    simp only [Act.put, List.setIfInBounds_toArray, List.set_cons_zero, List.set_cons_succ]
    refine wpAnyH_take (i := 25) (oi := ⟨some 132, _, _, _, _, _⟩) (v := .pointer (some ta)) rfl (by kernel_rfl) (by kernel_rfl) (by kernel_rfl) (fun _ _ _ h => h) (Or.inl ⟨by kernel_rfl, fun w' hSw => ?_⟩) hS ?_
    · go_simp
    simp only [Act.put, List.setIfInBounds_toArray, List.set_cons_zero, List.set_cons_succ]
    refine wpAnyH_take (i := 26) (oi := ⟨some 133, _, _, _, _, _⟩) (v := .agg (bv (byt (t)))) rfl (by kernel_rfl) (by kernel_rfl) (by kernel_rfl) (fun _ _ _ h => h) (yields_arr_at (by kernel_rfl) (.tmp 132) rfl (ta) (byt (t)) rfl (fun w' h j hj => HTA2.out w' h j hj)) hS ?_
    simp only [Act.put, List.setIfInBounds_toArray, List.set_cons_zero, List.set_cons_succ]
    refine wpAnyH_take (i := 27) (oi := ⟨some 134, _, _, _, _, _⟩) (v := .slice (some tb) 1 cb) rfl (by kernel_rfl) (by kernel_rfl) (by kernel_rfl) (fun _ _ _ h => h) (Or.inl ⟨by kernel_rfl, fun w' hSw => ?_⟩) hS ?_
    · go_simp
    simp only [Act.put, List.setIfInBounds_toArray, List.set_cons_zero, List.set_cons_succ]
    refine wpAnyH_take (i := 28) (oi := ⟨some 135, _, _, _, _, _⟩) (v := .pointer (some tb)) rfl (by kernel_rfl) (by kernel_rfl) (by kernel_rfl) (fun _ _ _ h => h) (Or.inl ⟨by kernel_rfl, fun w' hSw => ?_⟩) hS ?_
    · go_simp
    simp only [Act.put, List.setIfInBounds_toArray, List.set_cons_zero, List.set_cons_succ]
    refine wpAnyH_take (i := 29) (oi := ⟨some 136, _, _, _, _, _⟩) (v := .agg (bv (byt (s)))) rfl (by kernel_rfl) (by kernel_rfl) (by kernel_rfl) (fun _ _ _ h => h) (yields_arr_at (by kernel_rfl) (.tmp 135) rfl (tb) (byt (s)) rfl (fun w' h j hj => HTB2.out w' h j hj)) hS ?_
    simp only [Act.put, List.setIfInBounds_toArray, List.set_cons_zero, List.set_cons_succ]
    refine wpAnyH_take (i := 30) (oi := ⟨some 137, _, _, _, _, _⟩) (v := .bool b) rfl (by kernel_rfl) (by kernel_rfl) (by kernel_rfl) (fun _ _ _ h => h) (yields_eqB (by kernel_rfl) (.tmp 133) (.tmp 136) rfl (byt t) (byt s) _ (HTS.out) rfl rfl) hS ?_
    simp only [Act.put, List.setIfInBounds_toArray, List.set_cons_zero, List.set_cons_succ]
    refine wpAnyH_take (i := 31) (oi := ⟨some 138, _, _, _, _, _⟩) (v := .int .i64 (u : Int)) rfl (by kernel_rfl) (by kernel_rfl) (by kernel_rfl) (fun _ _ _ h => h) (Or.inl ⟨by kernel_rfl, fun w' hSw => ?_⟩) hS ?_
    · go_simp
    simp only [Act.put, List.setIfInBounds_toArray, List.set_cons_zero, List.set_cons_succ]
    refine wpAnyH_take (i := 32) (oi := ⟨some 139, _, _, _, _, _⟩) (v := .int .i64 (v : Int)) rfl (by kernel_rfl) (by kernel_rfl) (by kernel_rfl) (fun _ _ _ h => h) (Or.inl ⟨by kernel_rfl, fun w' hSw => ?_⟩) hS ?_
    · go_simp
    simp only [Act.put, List.setIfInBounds_toArray, List.set_cons_zero, List.set_cons_succ]
    refine wpAnyH_take (i := 33) (oi := ⟨some 140, _, _, _, _, _⟩) (v := .bool b) rfl (by kernel_rfl) (by kernel_rfl) (by kernel_rfl) (fun _ _ _ h => h) (Or.inl ⟨by kernel_rfl, fun w' hSw => ?_⟩) hS ?_
    · (go_simp; exact HUW.out)
    simp only [Act.put, List.setIfInBounds_toArray, List.set_cons_zero, List.set_cons_succ]
    refine wpAnyH_take (i := 34) (oi := ⟨some 141, _, _, _, _, _⟩) (v := .bool true) rfl (by kernel_rfl) (by kernel_rfl) (by kernel_rfl) (fun _ _ _ h => h) (Or.inl ⟨by kernel_rfl, fun w' hSw => ?_⟩) hS ?_
    · (cases b <;> go_simp)
    simp only [Act.put, List.setIfInBounds_toArray, List.set_cons_zero, List.set_cons_succ]
    refine wpAnyH_take (i := 35) (oi := ⟨some 142, _, _, _, _, _⟩) (v := .bool true) rfl (by kernel_rfl) (by kernel_rfl) (by kernel_rfl) (fun _ _ _ h => h) (Or.inl ⟨by kernel_rfl, fun w' hSw => ?_⟩) hS ?_
    · go_simp
    simp only [Act.put, List.setIfInBounds_toArray, List.set_cons_zero, List.set_cons_succ]
    refine wpAnyH_take (i := 36) (oi := ⟨some 143, _, _, _, _, _⟩) (v := .bool true) rfl (by kernel_rfl) (by kernel_rfl) (by kernel_rfl) (fun _ _ _ h => h) (Or.inl ⟨by kernel_rfl, fun w' hSw => ?_⟩) hS ?_
    · go_simp
    simp only [Act.put, List.setIfInBounds_toArray, List.set_cons_zero, List.set_cons_succ]
    refine wpAnyH_ready (rs := [37]) (by kernel_rfl) (by simp) ?_
    refine (AllReadyH.cons (o := ⟨some 144, _, _, _, _, _⟩) rfl (fun K hK => ?_) AllReadyH.nil)
    rw [if_pos (by kernel_rfl)]
    go_simp
    refine (awake8 _).mono ?_
    rintro e v5 ⟨rfl, hq5⟩
    have hk119 := hk119.below hq5
    have hk126 := hk126.below hq5
    have hqz5 := hq5.size
    refine hK.out _ _ (hS.trans (hq5.mono (by first | exact hS.size | (have := hS.size; simp at this ⊢; omega)))) (fun hS => ?_)
    clear hK K
    refine wpAnyH_take (i := 38) (oi := ⟨some 145, _, _, _, _, _⟩) (v := .bool true) rfl (by kernel_rfl) (by kernel_rfl) (by kernel_rfl) (fun _ _ _ h => h) (Or.inl ⟨by kernel_rfl, fun w' hSw => ?_⟩) hS ?_
    · go_simp
    simp only [Act.put, List.setIfInBounds_toArray, List.set_cons_zero, List.set_cons_succ]
    refine wpAnyH_take (i := 39) (oi := ⟨some 8, _, _, _, _, _⟩) (v := .bool true) rfl (by kernel_rfl) (by kernel_rfl) (by kernel_rfl) (fun _ _ _ h => h) (Or.inl ⟨by kernel_rfl, fun w' hSw => ?_⟩) hS ?_
    · go_simp
    simp only [Act.put, List.setIfInBounds_toArray, List.set_cons_zero, List.set_cons_succ]
    refine wpAnyH_done (by kernel_rfl) ?_ _
    go_wp2_with fail
    go_ret
    exact ⟨rfl, hw7.trans (hS.mono hw7.size)⟩
theorem xtsUnits_walk {w : World} (A : Option Addr) (n c : Nat) (l : List Nat) (hc : n ≤ c) (hl : Bytes w A n l) (u : Int) (_u0 : -9223372036854775808 ≤ u) (_u1 : u ≤ 9223372036854775807) (v : Int) (_v0 : -9223372036854775808 ≤ v) (_v1 : v ≤ 9223372036854775807) (B : Option Addr) (m c1 : Nat) (d : List Nat) (_hc1 : m ≤ c1) (hd : Bytes w B m d) :
    Calls Try.prog 28 #[.slice A n c, .int .i64 u, .int .i64 v, .slice B m c1] w fun e w' => e = .returned (.bool true) ∧ Below w.heap.size w w' := by
  by_cases h32 : n = 32
  · have a1 : ((n : Int) != 32) = false := by simp; omega
    by_cases u0 : u < 0
    · exact xuni_out32A A n c u v B m c1 w a1 u0
    by_cases u1 : 1099511627776 < u
    · exact xuni_out32B A n c u v B m c1 w a1 (by omega) u1
    by_cases u2 : v < 0
    · exact xuni_out32C A n c u v B m c1 w a1 (by omega) (by omega) u2
    by_cases u3 : 1099511627776 < v
    · exact xuni_out32D A n c u v B m c1 w a1 (by omega) (by omega) (by omega) u3
    by_cases u4 : m < 16
    · exact xuni_out32E A n c u v B m c1 w a1 (by omega) (by omega) (by omega) (by omega) u4
    by_cases u5 : 100 < m
    · exact xuni_out32F A n c u v B m c1 w a1 (by omega) (by omega) (by omega) (by omega) u5
    obtain ⟨u, rfl⟩ := Int.eq_ofNat_of_zero_le (show 0 ≤ u by omega)
    obtain ⟨v, rfl⟩ := Int.eq_ofNat_of_zero_le (show 0 ≤ v by omega)
    exact xuni_in32 A n c l u v B m c1 d w hl hc hd a1 (by omega) (by omega) (by omega) (by omega) (.inl h32)
  · have a1 : ((n : Int) != 32) = true := by simp; omega
    by_cases h64 : n = 64
    · have a2 : ((n : Int) != 64) = false := by simp; omega
      by_cases u0 : u < 0
      · exact xuni_out64A A n c u v B m c1 w a1 a2 u0
      by_cases u1 : 1099511627776 < u
      · exact xuni_out64B A n c u v B m c1 w a1 a2 (by omega) u1
      by_cases u2 : v < 0
      · exact xuni_out64C A n c u v B m c1 w a1 a2 (by omega) (by omega) u2
      by_cases u3 : 1099511627776 < v
      · exact xuni_out64D A n c u v B m c1 w a1 a2 (by omega) (by omega) (by omega) u3
      by_cases u4 : m < 16
      · exact xuni_out64E A n c u v B m c1 w a1 a2 (by omega) (by omega) (by omega) (by omega) u4
      by_cases u5 : 100 < m
      · exact xuni_out64F A n c u v B m c1 w a1 a2 (by omega) (by omega) (by omega) (by omega) u5
      obtain ⟨u, rfl⟩ := Int.eq_ofNat_of_zero_le (show 0 ≤ u by omega)
      obtain ⟨v, rfl⟩ := Int.eq_ofNat_of_zero_le (show 0 ≤ v by omega)
      exact xuni_in64 A n c l u v B m c1 d w hl hc hd a1 a2 (by omega) (by omega) (by omega) (by omega) (.inr h64)
    · exact xuni_outN A n c u v B m c1 w a1 (by simp; omega)
end Go.Proofs.Ytibfihjcjohadaa
