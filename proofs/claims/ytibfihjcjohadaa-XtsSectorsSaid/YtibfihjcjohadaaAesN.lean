/-
  The walks of bits.RotateLeft32 and of aes.New.
-/
import Derived.Test.YtibfihjcjohadaaMM
import Derived.Test.YtibfihjcjohadaaMS
namespace Go.Proofs.Ytibfihjcjohadaa
open Go.RowKit Go.Op
open Sbx (sub sub_lt word word_lt)
open Aes (rot8 rot8_lt keyW keyWs sched nextW turnW words)
theorem or_rot {x : Nat} (hx : x < 4294967296) : bits .or .u32 ((x : Int) * 256 % 4294967296) ((x : Int) / 16777216) = ((rot8 x : Nat) : Int) := by
  have h := u32_or_nat (x * 256 % 4294967296) (x / 16777216) (by omega) (by omega)
  have e : x * 256 % 4294967296 ||| x / 16777216 = rot8 x := by
    unfold rot8
    have h1 : x * 256 % 4294967296 = (x % 16777216) * 256 := by omega
    have h2 := Nat.two_pow_add_eq_or_of_lt (i := 8) (b := x / 16777216) (show x / 16777216 < 2 ^ 8 by omega) (x % 16777216)
    rw [h1, Nat.mul_comm (x % 16777216) 256, show (256 : Nat) = 2 ^ 8 from rfl]
    exact h2.symm
  rw [show (x : Int) * 256 % 4294967296 = ((x * 256 % 4294967296 : Nat) : Int) by omega, show (x : Int) / 16777216 = ((x / 16777216 : Nat) : Int) by omega, h, e]
set_option maxRecDepth 100000 in
set_option maxHeartbeats 400000 in
theorem rot32_any (x : Nat) (hx : x < 4294967296) (w : World) :
    Calls Try.prog 82 #[.int .u32 (x : Int), .int .i64 8] w fun e w' => e = .returned (.int .u32 ((rot8 x : Nat) : Int)) ∧ w = w' := by
  have e8 : bits .and .u64 8 31 = 8 := by decide +kernel
  have hr := or_rot hx
  go_enter Try.func82, Try.ntmps82
  go_wp2_with fail
  go_ret
  exact ⟨rfl, rfl⟩
/-- block C is a cipher whose tables lie in block T and whose keys' words are v -/
def CiphB (w : World) (C T : Nat) (v : Value) : Prop := w.heap[C]? = some (.cells #[.pointer (some ⟨T, 0, none⟩), v] 94 (0, 0))
theorem CiphB.lt {w : World} {C T : Nat} {v : Value} (h : CiphB w C T v) : C < w.heap.size := by
  rcases Nat.lt_or_ge C w.heap.size with hlt | hge
  · exact hlt
  · unfold CiphB at h; rw [Array.getElem?_eq_none hge] at h; cases h
theorem CiphB.tab {w : World} {C T : Nat} {v : Value} (h : CiphB w C T v) : w.cell? ⟨C, 0, none⟩ = some (.pointer (some ⟨T, 0, none⟩)) := by rw [cell_of_row w C 0 _ 94 (0, 0) h]; rfl
theorem CiphB.keys {w : World} {C T : Nat} {v : Value} (h : CiphB w C T v) : w.cell? ⟨C, 1, none⟩ = some v := by rw [cell_of_row w C 1 _ 94 (0, 0) h]; rfl
theorem CiphB.free {w : World} {C T : Nat} {v : Value} (h : CiphB w C T v) (i : Nat) : w.frozen? ⟨C, i, none⟩ = false := frozen_of_row w C i _ 94 h
theorem CiphB.set {w : World} {C T : Nat} {v u : Value} (h : CiphB w C T v) : CiphB (w.setCell ⟨C, 1, none⟩ u) C T u := heap_setCell_same w C 1 _ 94 u h
theorem CiphB.alloc {w : World} {C T : Nat} {v : Value} (h : CiphB w C T v) (o : Obj) : CiphB (w.alloc o) C T v := (Below.heap_alloc w o C h.lt).trans h
theorem CiphB.below {w w' : World} {B C T : Nat} {v : Value} (h : CiphB w C T v) (hb : Below B w w') (hC : C < B) : CiphB w' C T v := (hb.block C hC).trans h
theorem CiphB.grown {w w' : World} {C T : Nat} {v : Value} {row : Option Nat} (h : CiphB w C T v) (hg : w.grownBy w' row) (hne : some C ≠ row) : CiphB w' C T v := (hg.block C h.lt hne).trans h
theorem CiphB.new (w : World) (T : Nat) (v : Value) : CiphB (w.alloc (.cells #[.pointer (some ⟨T, 0, none⟩), v] 94)) w.heap.size T v := heap_alloc_new w _
theorem u32_nat (x : Nat) (hx : x < 4294967296) : IntKind.u32.wrap (x : Int) = (x : Int) := by
  rw [IntKind.wrap_u32]; omega
theorem block_of_add (a : Addr) (n : Nat) : (a.add n).block = a.block := by unfold Addr.add; split <;> rfl
theorem add_lit (a : Addr) (n : Nat) (h : n ≠ 0) : a.add n = ⟨a.block, a.off + n, none⟩ := by unfold Addr.add; rw [if_neg h]
theorem add_of_add (a : Addr) (i j : Nat) : (a.add i).add j = a.add (i + j) := by
  unfold Addr.add
  by_cases hi : i = 0 <;> by_cases hj : j = 0 <;> simp [hi, hj, Nat.add_assoc]
theorem wpo_appW {o : Oper} {a : Act} {w : World} {K : Act → World → Prop} {Q : Exit → Act → World → Prop} (s x : Operand)
    (ho : o.op = .call { callee := .builtin .append, args := #[s, x], argTypes := #[70, 70] })
    (base : Nat) (v : Value) (l : List Nat) (hs : a.eval s = v) (hown : OwnW w base v l)
    (A : Option Addr) (m c : Nat) (news : List Nat) (hx : a.eval x = .slice A m c) (hnews : Words w A m news) (hlen : l.length + m ≤ 1099511627776) (hbase : base ≤ w.heap.size)
    (h : ∀ v' w', OwnW w' base v' (l ++ news) → w.grownBy w' v.ownBlock → (v'.ownBlock = v.ownBlock ∨ v'.ownBlock = some w.heap.size) → K (a.put o.dst v') w') : o.wp Try.prog a w K Q := by
  obtain ⟨v', w', hr, h2, h3, h5⟩ := run_appW w o.type base v l hown A m c news hnews hlen hbase
  unfold Oper.wp execOp
  simp only [ho, resolve, invoke, builtin, Sem.run_bind, Sem.run_pure, Result.andThen_ok, List.map_toArray, List.map_cons, List.map_nil, hs, hx, hr]
  exact h v' w' h2 h3 h5
theorem words_one (W : World) (b x : Nat) (hb : b = W.heap.size) (hx : x < 4294967296) : Words (W.alloc (.cells #[.int .u32 (x : Int)] 50)) (some ⟨b, 0, none⟩) 1 [x] := by
  subst hb
  refine ⟨rfl, by unfold maxLen; omega, by simp [hx], fun _ => ⟨_, rfl, fun j hj => ?_⟩⟩
  obtain rfl : j = 0 := by omega
  rw [add_off, cell_of_row _ _ _ _ 50 (0, 0) (heap_alloc_new W _)]; rfl
/-- what the region reads that appends a key's word -/
structure S9 (C T : Nat) (v : Value) (ad : Addr) (b0 b1 b2 b3 : Nat) (w' : World) : Prop where
  ciph : CiphB w' C T v
  c0 : w'.cell? ad = some (.int .u8 (b0 : Int))
  c1 : w'.cell? ⟨ad.block, ad.off + 1, none⟩ = some (.int .u8 (b1 : Int))
  c2 : w'.cell? ⟨ad.block, ad.off + 2, none⟩ = some (.int .u8 (b2 : Int))
  c3 : w'.cell? ⟨ad.block, ad.off + 3, none⟩ = some (.int .u8 (b3 : Int))
  blk : ad.block < C + 1
theorem S9.below {C T : Nat} {v : Value} {ad : Addr} {b0 b1 b2 b3 : Nat} {w1 w2 : World} (h : S9 C T v ad b0 b1 b2 b3 w1) (hb : Below (C + 1) w1 w2) : S9 C T v ad b0 b1 b2 b3 w2 :=
  ⟨h.ciph.below hb (by omega), (hb.cell h.blk).trans h.c0, (hb.cell (p := ⟨ad.block, ad.off + 1, none⟩) h.blk).trans h.c1, (hb.cell (p := ⟨ad.block, ad.off + 2, none⟩) h.blk).trans h.c2, (hb.cell (p := ⟨ad.block, ad.off + 3, none⟩) h.blk).trans h.c3, h.blk⟩
theorem Bytes.below' {w w' : World} {A : Option Addr} {n : Nat} {l : List Nat} (h : Bytes w A n l) (hb : Below w.heap.size w w') : Bytes w' A n l := h.below hb
theorem Bytes.blk {w : World} {ad : Addr} {n : Nat} {l : List Nat} (h : Bytes w (some ad) (n + 1) l) : ad.block < w.heap.size := by
  obtain ⟨ad', x, hA, _, _, _, hc⟩ := h.at_ (show 0 < n + 1 by omega)
  have hA := Option.some.inj hA
  subst hA
  have := World.block_lt_of_cell? w _ hc
  rwa [block_of_add] at this
/-- a key's word out of its four bytes -/
theorem key_word {w : World} {ad : Addr} {n k : Nat} {l : List Nat} (h : Bytes w (some ad) n l) (hk : 4 * k + 4 ≤ n) :
    ∃ b0 b1 b2 b3 x : Nat, b0 < 256 ∧ b1 < 256 ∧ b2 < 256 ∧ b3 < 256 ∧ x < 4294967296 ∧ x = keyW l k ∧
      bits .or .u32 ((b0 : Int) * 16777216) ((b1 : Int) * 65536) = (b0 : Int) * 16777216 + (b1 : Int) * 65536 ∧
      bits .or .u32 ((b0 : Int) * 16777216 + (b1 : Int) * 65536) ((b2 : Int) * 256) = (b0 : Int) * 16777216 + (b1 : Int) * 65536 + (b2 : Int) * 256 ∧
      bits .or .u32 ((b0 : Int) * 16777216 + (b1 : Int) * 65536 + (b2 : Int) * 256) (b3 : Int) = (x : Int) ∧
      w.cell? (ad.add (4 * k)) = some (.int .u8 (b0 : Int)) ∧ w.cell? ⟨(ad.add (4 * k)).block, (ad.add (4 * k)).off + 1, none⟩ = some (.int .u8 (b1 : Int)) ∧
      w.cell? ⟨(ad.add (4 * k)).block, (ad.add (4 * k)).off + 2, none⟩ = some (.int .u8 (b2 : Int)) ∧ w.cell? ⟨(ad.add (4 * k)).block, (ad.add (4 * k)).off + 3, none⟩ = some (.int .u8 (b3 : Int)) := by
  have get : ∀ j, j < 4 → l.getD (4 * k + j) 0 < 256 ∧ w.cell? ((ad.add (4 * k)).add j) = some (.int .u8 ((l.getD (4 * k + j) 0 : Nat) : Int)) := by
    intro j hj
    obtain ⟨ad', x, hA, hx, hx2, _, hc⟩ := h.at_ (show 4 * k + j < n by omega)
    have hA := Option.some.inj hA
    subst hA
    rw [add_of_add, hx]
    exact ⟨hx2, hc⟩
  obtain ⟨g0, c0⟩ := get 0 (by omega)
  obtain ⟨g1, c1⟩ := get 1 (by omega)
  obtain ⟨g2, c2⟩ := get 2 (by omega)
  obtain ⟨g3, c3⟩ := get 3 (by omega)
  have e : ((l.getD (4 * k + 0) 0 * 256 + l.getD (4 * k + 1) 0) * 256 + l.getD (4 * k + 2) 0) * 256 + l.getD (4 * k + 3) 0 = keyW l k := rfl
  have hw : keyW l k < 4294967296 := Aes.keyW_lt h.2.2.1 k
  rw [add_of_add, Nat.add_zero, ← Nat.add_zero (4 * k)] at c0
  rw [add_lit _ _ (by decide)] at c1 c2 c3
  refine ⟨_, _, _, _, keyW l k, g0, g1, g2, g3, hw, rfl, or24 g0 g1, or16 g0 g1 g2, ?_, c0, c1, c2, c3⟩
  rw [or8 g0 g1 g2 g3, ← e]
  omega
theorem OwnW.slice_ {w : World} {base : Nat} {v : Value} {l : List Nat} (h : OwnW w base v l) : ∃ A n c, v = .slice A n c := by
  obtain ⟨A, c, e⟩ := h.form
  exact ⟨A, _, c, e⟩
theorem OwnW.setCell {w : World} {base : Nat} {v u : Value} {l : List Nat} {p : Addr} (h : OwnW w base v l) (hne : v.ownBlock ≠ some p.block) : OwnW (w.setCell p u) base v l :=
  h.kept (row := some p.block) ⟨rfl, rfl, rfl, by simp [World.setCell], fun i _ hi => Below.heap_setCell w p u i (fun e => hi (by rw [e]))⟩ (.inr hne)
theorem tabM_below {w w' : World} {T B : Nat} (h : TabM w T) (hb : Below (B + 1) w w') (hT : T < B) : TabM w' T := rowIs_below h hb (by omega)
theorem take_keyW {l : List Nat} {n k : Nat} (hl : l.length = n) (hk : k < n / 4) : (keyWs l).take (k + 1) = (keyWs l).take k ++ [keyW l k] := by
  unfold keyWs
  rw [List.take_add_one, List.getElem?_map, List.getElem?_range (by rw [hl]; exact hk)]
  rfl
theorem keyWs_len' {l : List Nat} {n : Nat} (h : l.length = n) : (keyWs l).length = n / 4 := by rw [Aes.keyWs_len, h]
/-- what a cipher under way is -/
structure NewS (w : World) (C : Nat) (v : Value) (ks : List Nat) (wr : World) : Prop where
  ciph : CiphB wr C w.heap.size v
  own : OwnW wr (C + 1) v ks
  tab : TabM wr w.heap.size
  bel : Below w.heap.size w wr
  sz : C + 1 ≤ wr.heap.size
  lt : w.heap.size < C
/-- block C is a cipher of the words ws -/
def Ciph (w : World) (C : Nat) (ws : List Nat) : Prop := ∃ T A c, CiphB w C T (.slice A ws.length c) ∧ TabM w T ∧ Words w A ws.length ws
theorem Ciph.below {w w' : World} {C : Nat} {ws : List Nat} (h : Ciph w C ws) (hb : Below w.heap.size w w') : Ciph w' C ws := by
  obtain ⟨T, A, c, h1, h2, h3⟩ := h
  exact ⟨T, A, c, h1.below hb h1.lt, rowIs_below h2 hb (World.rowIs.lt h2), h3.below hb⟩
/-- the same, and all its blocks lie from B on -/
def CiphF (w : World) (B C : Nat) (ws : List Nat) : Prop := ∃ T A c, CiphB w C T (.slice A ws.length c) ∧ TabM w T ∧ Words w A ws.length ws ∧ B ≤ C ∧ B ≤ T ∧ ∀ ad, A = some ad → B ≤ ad.block
theorem CiphF.ciph {w : World} {B C : Nat} {ws : List Nat} (h : CiphF w B C ws) : Ciph w C ws := by
  obtain ⟨T, A, c, h1, h2, h3, _⟩ := h
  exact ⟨T, A, c, h1, h2, h3⟩
theorem CiphF.below {w w' : World} {B C : Nat} {ws : List Nat} (h : CiphF w B C ws) (hb : Below w.heap.size w w') : CiphF w' B C ws := by
  obtain ⟨T, A, c, h1, h2, h3, h4⟩ := h
  exact ⟨T, A, c, h1.below hb h1.lt, rowIs_below h2 hb (World.rowIs.lt h2), h3.below hb, h4⟩
/-- a store below B leaves it as it is -/
theorem CiphF.setCell {w : World} {B C : Nat} {ws : List Nat} (h : CiphF w B C ws) (p : Addr) (u : Value) (hp : p.block < B) : CiphF (w.setCell p u) B C ws := by
  obtain ⟨T, A, c, h1, h2, h3, h4, h5, h6⟩ := h
  have e1 : ∀ g, B ≤ g → (w.setCell p u).heap[g]? = w.heap[g]? := fun g hg => Below.heap_setCell w p u g (by omega)
  refine ⟨T, A, c, (e1 C h4).trans h1, h2.of_block (e1 T h5), ?_, h4, h5, h6⟩
  obtain ⟨k1, k2, k3, k4⟩ := h3
  refine ⟨k1, k2, k3, fun hn => ?_⟩
  obtain ⟨ad, e, hc⟩ := k4 hn
  refine ⟨ad, e, fun j hj => ?_⟩
  have hb := h6 ad e
  rw [World.cell?_setCell_other (w := w) (a := p) (b := ad.add j) (v := u) (h := fun h => by have e2 : (ad.add j).block = ad.block := block_of_add ad j; rw [← h] at e2; omega)]
  exact hc j hj
/-- what New tells of a key that may be -/
def NewQ (l : List Nat) (w : World) (e : Ending) (w' : World) : Prop := ∃ C, e = .returned (.tuple #[.pointer (some ⟨C, 0, none⟩), .int .i64 0]) ∧ Ciph w' C (words l) ∧ Below w.heap.size w w' ∧ CiphF w' w.heap.size C (words l)
theorem NewS.below {w wr w' : World} {C : Nat} {v : Value} {ks : List Nat} (h : NewS w C v ks wr) (hb : Below wr.heap.size wr w') : NewS w C v ks w' :=
  ⟨h.ciph.below hb h.ciph.lt, h.own.below hb (Nat.le_refl _), rowIs_below h.tab hb (World.rowIs.lt h.tab), h.bel.trans (hb.mono (by have := h.lt; have := h.sz; omega)), by have := hb.size; have := h.sz; omega, h.lt⟩
theorem NewS.drew {w wr : World} {C : Nat} {v : Value} {ks : List Nat} (h : NewS w C v ks wr) : NewS w C v ks wr.drew := ⟨h.ciph, h.own, h.tab, h.bel.drew, h.sz, h.lt⟩
theorem words_some {w : World} {A : Option Addr} {n : Nat} {l : List Nat} (h : Words w A n l) (hn : 0 < n) : ∃ ad, A = some ad := by
  obtain ⟨ad, e, _⟩ := h.2.2.2 hn
  exact ⟨ad, e⟩
theorem words_cell {w : World} {ad : Addr} {n k : Nat} {l : List Nat} (h : Words w (some ad) n l) (hk : k < n) : w.cell? (ad.add k) = some (.int .u32 ((l.getD k 0 : Nat) : Int)) := by
  obtain ⟨ad', e, hc⟩ := h.2.2.2 (by omega)
  have e := Option.some.inj e
  subst e
  exact hc k hk
/-- a cell holds a value -/
def CellIs (p : Addr) (u : Value) (w : World) : Prop := w.cell? p = some u
theorem round_rcon {i : Nat} (h0 : 0 < i) (h1 : i < 255) : roundN (i : Int) = Aes.rcon i := by
  unfold roundN Aes.rcon
  rw [if_neg (by omega), if_neg (by omega)]
  unfold powI
  rw [if_neg (by omega), show ((i : Int) - 1) % 255 = ((i - 1 : Nat) : Int) by omega, Int.toNat_natCast, Fld.pw_eq (by decide) (by omega)]
set_option maxRecDepth 100000 in
set_option maxHeartbeats 8000000 in
theorem new16 (A : Option Addr) (cap : Nat) (l : List Nat) (w : World) (hl : Bytes w A 16 l) (hcap : 16 ≤ cap) :
    Calls Try.prog 59 #[.slice A 16 cap] w fun e w' => NewQ l w e w' := by
  obtain ⟨ad, hA, _⟩ := hl.2.2.2 (by omega)
  subst hA
  go_enter Try.func59, Try.ntmps59
  go_wp2_with fail
  refine (made_any _).mono ?_
  rintro e w1 ⟨rfl, hT, hbel, hsz⟩
  go_wp2_with fail
  have hN : NewS w w1.heap.size (.slice none 0 0) [] (w1.alloc (.cells #[.pointer (some ⟨w.heap.size, 0, none⟩), .slice none 0 0] 94)) :=
    ⟨CiphB.new _ _ _, ownW_nil _ _, World.rowIs.alloc hT _, hbel.alloc (by omega) _, by simp, by omega⟩
  revert hN
  generalize w1.alloc (.cells #[.pointer (some ⟨w.heap.size, 0, none⟩), .slice none 0 0] 94) = w2
  generalize w1.heap.size = C
  intro hN
  clear hT hbel hsz w1
  go_loopw [6, 7, 25] (fun a b i wr => ∃ (k : Nat) (v : Value), i = .int .i64 (k : Int) ∧ k ≤ 4 ∧ NewS w C v ((keyWs l).take k) wr) (fun _ _ i _ => 4 - (intOf i).toNat)
  case atStart => exact ⟨0, _, rfl, by omega, hN⟩
  case round =>
    obtain ⟨k, v, rfl, hk, hS0⟩ := hrel
    clear hN w2
    by_cases hkN : k = 4
    · subst hkN
      rw [show ((4 : Nat) : Int) = 4 from rfl]
      rw [List.take_of_length_le (by rw [keyWs_len' hl.1]; exact Nat.le_refl 4)] at hS0
      go_wp2_with fail
      go_loopw [8, 9] (fun i t wr => ∃ (k : Nat) (v : Value), i = .int .i64 (k : Int) ∧ 4 ≤ k ∧ k ≤ 44 ∧ NewS w C v (sched 4 (keyWs l) (k - 4)) wr) (fun i _ _ => 44 - (intOf i).toNat)
      case atStart => exact ⟨4, _, rfl, by omega, by omega, hS0⟩
      case round =>
        obtain ⟨k, v, rfl, hk1, hk2, hS1⟩ := hrel
        clear hS0
        by_cases hkT : k = 44
        · subst hkT
          have hW : sched 4 (keyWs l) (44 - 4) = words l := by unfold words; rw [hl.1]
          rw [hW] at hS1
          clear hW
          obtain ⟨A, c, hv⟩ := hS1.own.form
          subst hv
          have hC : Ciph wr C (words l) := ⟨_, A, c, hS1.ciph, hS1.tab, hS1.own.rd⟩
          have hF : CiphF wr w.heap.size C (words l) := ⟨_, A, c, hS1.ciph, hS1.tab, hS1.own.rd, by have := hS1.lt; omega, Nat.le_refl _, fun ad e => by subst e; have := (hS1.own.ge ad.block rfl).1; have := hS1.lt; omega⟩
          have hb := hS1.bel
          clear hS1
          go_wp2_with fail
          go_ret2
          exact ⟨C, rfl, hC, hb, hF⟩
        · have hk3 : k < 44 := by omega
          clear hkT
          obtain ⟨m, rfl⟩ : ∃ m, k = m + 1 := ⟨k - 1, by omega⟩
          obtain ⟨ws, hws⟩ : ∃ ws, ws = sched 4 (keyWs l) (m + 1 - 4) := ⟨_, rfl⟩
          rw [← hws] at hS1
          have hwl : ws.length = m + 1 := by rw [hws, Aes.sched_len, keyWs_len' hl.1]; omega
          have HWS := Box.mk hws
          have HWL := Box.mk hwl
          obtain ⟨A2, c2, hv⟩ := hS1.own.form
          rw [hwl] at hv
          subst hv
          obtain ⟨ad2, rfl⟩ := words_some hS1.own.rd (by omega)
          obtain ⟨t, htq⟩ : ∃ t, ws.getD m 0 = t := ⟨_, rfl⟩
          have ht : t < 4294967296 := by rw [← htq]; exact Aes.getD_lt hS1.own.2.2 m
          have hct := words_cell hS1.own.rd (show m < m + 1 by omega)
          rw [htq] at hct
          have HT := Box.mk htq
          have hck := hS1.ciph.keys
          clear hws hwl htq
          rw [show ((m + 1 : Nat) : Int) = (m : Int) + 1 by omega]
          by_cases h0 : (m + 1) % 4 = 0
          · have h0' : (((m : Int) + 1) % 4 == 0) = true := by simp; omega
            have hrt := rot8_lt ht
            obtain ⟨r, hr⟩ : ∃ r, Aes.rcon ((m + 1) / 4) = r := ⟨_, rfl⟩
            have hrl : r < 256 := by rw [← hr]; exact Aes.rcon_lt _
            have HR : Box (roundN (((m + 1) / 4 : Nat) : Int) = r) := ⟨by rw [← hr]; exact round_rcon (by omega) (by omega)⟩
            have hwr := word_lt (w := rot8 t)
            have v1 := u32_nat r (by omega)
            have v2 : IntKind.u32.wrap ((r : Int) * 16777216) = (r : Int) * 16777216 := by have := u32_nat (r * 16777216) (by omega); rw [Int.natCast_mul] at this; exact this
            obtain ⟨y, hye⟩ : ∃ y, word (rot8 t) ^^^ r * 16777216 = y := ⟨_, rfl⟩
            have hy : y < 4294967296 := by rw [← hye]; exact Aes.xor_lt32 hwr (by omega)
            have hxr : bits .xor .u32 ((word (rot8 t) : Nat) : Int) ((r : Int) * 16777216) = (y : Int) := by
              have := u32_xor_nat (word (rot8 t)) (r * 16777216) hwr (by omega)
              rw [hye, Int.natCast_mul] at this; exact this
            have HY : Box (y = Aes.turnW 4 (m + 1) (ws.getD m 0)) := ⟨by unfold Aes.turnW; rw [if_pos h0, HT.out, hr, ← hye]⟩
            have hqm : ((m : Int) + 1) / 4 = (((m + 1) / 4 : Nat) : Int) := by omega
            have HQM := Box.mk hqm
            clear hqm hr hye h0
            go_wp2_with fail
            have hS2 : NewS w C (.slice (some ad2) (m + 1) c2) ws wr.drew := hS1.drew
            refine wp_region_held_drew (S := NewS w C (.slice (some ad2) (m + 1) c2) ws) (by kernel_rfl) hS2 (fun hS => ?_)
            refine wpAnyH_take (i := 0) (oi := ⟨some 85, _, _, _, _, _⟩) (v := .int .u32 (t : Int)) rfl (by kernel_rfl) (by kernel_rfl) (by kernel_rfl) (fun _ _ _ h => h) (Or.inl ⟨by kernel_rfl, fun w' hSw => ?_⟩) hS ?_
            · go_simp
            simp only [Act.put, List.setIfInBounds_toArray, List.set_cons_zero, List.set_cons_succ]
            refine wpAnyH_take (i := 3) (oi := ⟨some 88, _, _, _, _, _⟩) (v := .int .i64 ((m : Int) + 1)) rfl (by kernel_rfl) (by kernel_rfl) (by kernel_rfl) (fun _ _ _ h => h) (Or.inl ⟨by kernel_rfl, fun w' hSw => ?_⟩) hS ?_
            · go_simp
            simp only [Act.put, List.setIfInBounds_toArray, List.set_cons_zero, List.set_cons_succ]
            refine wpAnyH_take (i := 4) (oi := ⟨some 89, _, _, _, _, _⟩) (v := .int .i64 4) rfl (by kernel_rfl) (by kernel_rfl) (by kernel_rfl) (fun _ _ _ h => h) (Or.inl ⟨by kernel_rfl, fun w' hSw => ?_⟩) hS ?_
            · go_simp
            simp only [Act.put, List.setIfInBounds_toArray, List.set_cons_zero, List.set_cons_succ]
            refine wpAnyH_take (i := 5) (oi := ⟨some 90, _, _, _, _, _⟩) (v := .int .i64 (((m + 1) / 4 : Nat) : Int)) rfl (by kernel_rfl) (by kernel_rfl) (by kernel_rfl) (fun _ _ _ h => h) (Or.inl ⟨by kernel_rfl, fun w' hSw => ?_⟩) hS ?_
            · (go_simp; rw [Int.tdiv_eq_ediv_of_nonneg (by omega)]; exact IntWalk.i64_in _ (by omega))
            simp only [Act.put, List.setIfInBounds_toArray, List.set_cons_zero, List.set_cons_succ]
            refine wpAnyH_ready (rs := [1]) (by kernel_rfl) (by simp) ?_
            refine AllReadyH.cons (o := ⟨some 86, _, _, _, _, _⟩) rfl (fun K hK => ?_) AllReadyH.nil
            rw [if_pos (by kernel_rfl)]
            go_simp
            refine (rot32_any t ht _).mono ?_
            rintro e q ⟨rfl, rfl⟩
            refine hK.out _ _ hS (fun hS => ?_)
            clear hK K
            refine wpAnyH_ready (rs := [2]) (by kernel_rfl) (by simp) ?_
            refine AllReadyH.cons (o := ⟨some 87, _, _, _, _, _⟩) rfl (fun K hK => ?_) AllReadyH.nil
            rw [if_pos (by kernel_rfl)]
            go_simp
            refine (sword_any (rot8 t) hrt _).mono ?_
            rintro e w4 ⟨rfl, hb⟩
            refine hK.out _ _ (hS.below hb) (fun hS => ?_)
            clear hK K
            refine wpAnyH_ready (rs := [6]) (by kernel_rfl) (by simp) ?_
            refine AllReadyH.cons (o := ⟨some 91, _, _, _, _, _⟩) rfl (fun K hK => ?_) AllReadyH.nil
            rw [if_pos (by kernel_rfl)]
            go_simp
            refine (sround_any (((m + 1) / 4 : Nat) : Int) _ (by omega) (by omega)).mono ?_
            rw [HR.out]
            rintro e q ⟨rfl, rfl⟩
            refine hK.out _ _ hS (fun hS => ?_)
            clear hK K
            refine wpAnyH_take (i := 7) (oi := ⟨some 92, _, _, _, _, _⟩) (v := .int .u32 ((r : Nat) : Int)) rfl (by kernel_rfl) (by kernel_rfl) (by kernel_rfl) (fun _ _ _ h => h) (Or.inl ⟨by kernel_rfl, fun w' hSw => ?_⟩) hS ?_
            · go_simp
            simp only [Act.put, List.setIfInBounds_toArray, List.set_cons_zero, List.set_cons_succ]
            refine wpAnyH_take (i := 8) (oi := ⟨some 93, _, _, _, _, _⟩) (v := .int .u32 ((r : Int) * 16777216)) rfl (by kernel_rfl) (by kernel_rfl) (by kernel_rfl) (fun _ _ _ h => h) (Or.inl ⟨by kernel_rfl, fun w' hSw => ?_⟩) hS ?_
            · go_simp
            simp only [Act.put, List.setIfInBounds_toArray, List.set_cons_zero, List.set_cons_succ]
            refine wpAnyH_take (i := 9) (oi := ⟨some 94, _, _, _, _, _⟩) (v := .int .u32 (y : Int)) rfl (by kernel_rfl) (by kernel_rfl) (by kernel_rfl) (fun _ _ _ h => h) (Or.inl ⟨by kernel_rfl, fun w' hSw => ?_⟩) hS ?_
            · go_simp
            simp only [Act.put, List.setIfInBounds_toArray, List.set_cons_zero, List.set_cons_succ]
            refine wpAnyH_take (i := 10) (oi := ⟨some 9, _, _, _, _, _⟩) (v := .int .u32 (y : Int)) rfl (by kernel_rfl) (by kernel_rfl) (by kernel_rfl) (fun _ _ _ h => h) (Or.inl ⟨by kernel_rfl, fun w' hSw => ?_⟩) hS ?_
            · go_simp
            simp only [Act.put, List.setIfInBounds_toArray, List.set_cons_zero, List.set_cons_succ]
            refine wpAnyH_done (by kernel_rfl) ?_ _
            have hS0 := hS
            clear hS hS1 hS2 hct hck h0' hrt hrl HR hwr v1 v2 hxr HQM
            go_wp2_with fail
            have hO : OwnW w4.drew (C + 1) (.slice (some ad2) (m + 1) c2) ws := hS0.own
            obtain ⟨q, hq, hq2⟩ : ∃ q : Nat, q = m + 1 - 4 ∧ q < m + 1 := ⟨_, rfl, by omega⟩
            have hqi : (m : Int) + 1 - 4 = (q : Int) := by omega
            have HQ := Box.mk hqi
            obtain ⟨b, hbq⟩ : ∃ b, ws.getD q 0 = b := ⟨_, rfl⟩
            have hbl : b < 4294967296 := by rw [← hbq]; exact Aes.getD_lt hS0.own.2.2 q
            have hcq := words_cell hS0.own.rd hq2
            rw [hbq] at hcq
            have hby : b ^^^ y < 4294967296 := Aes.xor_lt32 hbl hy
            have hxy := u32_xor_nat b y hbl hy
            have hS9 : CiphB w4.drew C w.heap.size (.slice (some ad2) (m + 1) c2) ∧ CellIs (ad2.add q) (.int .u32 (b : Int)) w4.drew := ⟨hS0.ciph, hcq⟩
            have hB0 : Below (C + 1) w4.drew w4.drew := Below.refl _ _
            have HBQ : Box (b ^^^ y = nextW 4 ws) := ⟨by unfold nextW; rw [HWL.out, HY.out, ← hbq, hq]; rfl⟩
            clear hcq hbq hq hqi
            have i0 : (0 : Int) ≤ (q : Int) := by omega
            have i1 : (q : Int) < (m : Int) + 1 := by omega
            refine wp_region_Z 20 15 (fun w' => CiphB w' C w.heap.size (.slice (some ad2) (m + 1) c2)) (CellIs (ad2.add q) (.int .u32 (b : Int))) (by kernel_rfl) ?_
            have hS := hS9
            refine wpAnyZ_any (i := 0) (oi := ⟨some 106, _, _, _, _, _⟩) (v := .pointer (some ⟨C, 0, none⟩)) rfl (by kernel_rfl) (by kernel_rfl) (by kernel_rfl) (by kernel_rfl) (fun _ _ _ h => h) (Or.inl ⟨by kernel_rfl, fun w' _ => ?_⟩) ⟨.inr hS.1, .inr hS.2⟩ ?_
            · go_simp
            simp only [Act.put, List.setIfInBounds_toArray, List.set_cons_zero, List.set_cons_succ]
            refine wpAnyZ_any (i := 1) (oi := ⟨some 107, _, _, _, _, _⟩) (v := .pointer (some ⟨C, 0, none⟩)) rfl (by kernel_rfl) (by kernel_rfl) (by kernel_rfl) (by kernel_rfl) (fun _ _ _ h => h) (Or.inl ⟨by kernel_rfl, fun w' _ => ?_⟩) ⟨.inr hS.1, .inr hS.2⟩ ?_
            · go_simp
            simp only [Act.put, List.setIfInBounds_toArray, List.set_cons_zero, List.set_cons_succ]
            refine wpAnyZ_any (i := 2) (oi := ⟨some 108, _, _, _, _, _⟩) (v := .pointer (some ⟨C, 0, none⟩)) rfl (by kernel_rfl) (by kernel_rfl) (by kernel_rfl) (by kernel_rfl) (fun _ _ _ h => h) (Or.inl ⟨by kernel_rfl, fun w' _ => ?_⟩) ⟨.inr hS.1, .inr hS.2⟩ ?_
            · go_simp
            simp only [Act.put, List.setIfInBounds_toArray, List.set_cons_zero, List.set_cons_succ]
            refine wpAnyZ_any (i := 3) (oi := ⟨some 109, _, _, _, _, _⟩) (v := .pointer (some ⟨C, 1, none⟩)) rfl (by kernel_rfl) (by kernel_rfl) (by kernel_rfl) (by kernel_rfl) (fun _ _ _ h => h) (Or.inl ⟨by kernel_rfl, fun w' _ => ?_⟩) ⟨.inr hS.1, .inr hS.2⟩ ?_
            · go_simp
            simp only [Act.put, List.setIfInBounds_toArray, List.set_cons_zero, List.set_cons_succ]
            refine wpAnyZ_take (i := 4) (oi := ⟨some 110, _, _, _, _, _⟩) (v := .slice (some ad2) (m + 1) c2) rfl (by kernel_rfl) (by kernel_rfl) (by kernel_rfl) (by kernel_rfl) (fun _ _ _ h => h) (Or.inl ⟨by kernel_rfl, fun w' hSw => ?_⟩) hS ?_
            · (have c := CiphB.keys hSw; go_simp)
            simp only [Act.put, List.setIfInBounds_toArray, List.set_cons_zero, List.set_cons_succ]
            refine wpAnyZ_any (i := 5) (oi := ⟨some 111, _, _, _, _, _⟩) (v := .pointer (some ⟨C, 0, none⟩)) rfl (by kernel_rfl) (by kernel_rfl) (by kernel_rfl) (by kernel_rfl) (fun _ _ _ h => h) (Or.inl ⟨by kernel_rfl, fun w' _ => ?_⟩) ⟨.inr hS.1, .inr hS.2⟩ ?_
            · go_simp
            simp only [Act.put, List.setIfInBounds_toArray, List.set_cons_zero, List.set_cons_succ]
            refine wpAnyZ_any (i := 6) (oi := ⟨some 112, _, _, _, _, _⟩) (v := .pointer (some ⟨C, 0, none⟩)) rfl (by kernel_rfl) (by kernel_rfl) (by kernel_rfl) (by kernel_rfl) (fun _ _ _ h => h) (Or.inl ⟨by kernel_rfl, fun w' _ => ?_⟩) ⟨.inr hS.1, .inr hS.2⟩ ?_
            · go_simp
            simp only [Act.put, List.setIfInBounds_toArray, List.set_cons_zero, List.set_cons_succ]
            refine wpAnyZ_any (i := 7) (oi := ⟨some 113, _, _, _, _, _⟩) (v := .pointer (some ⟨C, 1, none⟩)) rfl (by kernel_rfl) (by kernel_rfl) (by kernel_rfl) (by kernel_rfl) (fun _ _ _ h => h) (Or.inl ⟨by kernel_rfl, fun w' _ => ?_⟩) ⟨.inr hS.1, .inr hS.2⟩ ?_
            · go_simp
            simp only [Act.put, List.setIfInBounds_toArray, List.set_cons_zero, List.set_cons_succ]
            refine wpAnyZ_take (i := 8) (oi := ⟨some 114, _, _, _, _, _⟩) (v := .slice (some ad2) (m + 1) c2) rfl (by kernel_rfl) (by kernel_rfl) (by kernel_rfl) (by kernel_rfl) (fun _ _ _ h => h) (Or.inl ⟨by kernel_rfl, fun w' hSw => ?_⟩) hS ?_
            · (have c := CiphB.keys hSw; go_simp)
            simp only [Act.put, List.setIfInBounds_toArray, List.set_cons_zero, List.set_cons_succ]
            refine wpAnyZ_any (i := 9) (oi := ⟨some 115, _, _, _, _, _⟩) (v := .int .i64 ((m : Int) + 1)) rfl (by kernel_rfl) (by kernel_rfl) (by kernel_rfl) (by kernel_rfl) (fun _ _ _ h => h) (Or.inl ⟨by kernel_rfl, fun w' _ => ?_⟩) ⟨.inr hS.1, .inr hS.2⟩ ?_
            · go_simp
            simp only [Act.put, List.setIfInBounds_toArray, List.set_cons_zero, List.set_cons_succ]
            refine wpAnyZ_any (i := 10) (oi := ⟨some 116, _, _, _, _, _⟩) (v := .int .i64 4) rfl (by kernel_rfl) (by kernel_rfl) (by kernel_rfl) (by kernel_rfl) (fun _ _ _ h => h) (Or.inl ⟨by kernel_rfl, fun w' _ => ?_⟩) ⟨.inr hS.1, .inr hS.2⟩ ?_
            · go_simp
            simp only [Act.put, List.setIfInBounds_toArray, List.set_cons_zero, List.set_cons_succ]
            refine wpAnyZ_any (i := 11) (oi := ⟨some 117, _, _, _, _, _⟩) (v := .int .i64 (q : Int)) rfl (by kernel_rfl) (by kernel_rfl) (by kernel_rfl) (by kernel_rfl) (fun _ _ _ h => h) (Or.inl ⟨by kernel_rfl, fun w' _ => ?_⟩) ⟨.inr hS.1, .inr hS.2⟩ ?_
            · (go_simp; have h := HQ.out; rw [h]; exact IntWalk.i64_in _ (by omega))
            simp only [Act.put, List.setIfInBounds_toArray, List.set_cons_zero, List.set_cons_succ]
            refine wpAnyZ_any (i := 12) (oi := ⟨some 118, _, _, _, _, _⟩) (v := .pointer (some (ad2.add q))) rfl (by kernel_rfl) (by kernel_rfl) (by kernel_rfl) (by kernel_rfl) (fun _ _ _ h => h) (Or.inl ⟨by kernel_rfl, fun w' _ => ?_⟩) ⟨.inr hS.1, .inr hS.2⟩ ?_
            · go_simp
            simp only [Act.put, List.setIfInBounds_toArray, List.set_cons_zero, List.set_cons_succ]
            refine wpAnyZ_take2 (i := 13) (oi := ⟨some 119, _, _, _, _, _⟩) (v := .int .u32 (b : Int)) rfl (by kernel_rfl) (by kernel_rfl) (by kernel_rfl) (by kernel_rfl) (fun _ _ _ h => h) (Or.inl ⟨by kernel_rfl, fun w' hTw => ?_⟩) hS ?_
            · (have c : _ = _ := hTw; go_simp)
            simp only [Act.put, List.setIfInBounds_toArray, List.set_cons_zero, List.set_cons_succ]
            refine wpAnyZ_any (i := 14) (oi := ⟨some 120, _, _, _, _, _⟩) (v := .int .u32 (y : Int)) rfl (by kernel_rfl) (by kernel_rfl) (by kernel_rfl) (by kernel_rfl) (fun _ _ _ h => h) (Or.inl ⟨by kernel_rfl, fun w' _ => ?_⟩) ⟨.inr hS.1, .inr hS.2⟩ ?_
            · go_simp
            simp only [Act.put, List.setIfInBounds_toArray, List.set_cons_zero, List.set_cons_succ]
            refine wpAnyZ_one (i := 15) (o := ⟨some 121, _, _, _, _, _⟩) (by kernel_rfl) rfl (by kernel_rfl) (fun K hK => ?_)
            go_simp
            have hS := hS.1
            refine hK.out _ _ ⟨.inr hS, .inl (show _ = true by kernel_rfl)⟩ ?_
            clear hK K
            refine wpAnyZ_one (i := 16) (o := ⟨some 122, _, _, _, _, _⟩) (by kernel_rfl) rfl (by kernel_rfl) (fun K hK => ?_)
            go_simp
            have hS := (hS.below (hB0.alloc hS0.sz (.cells #[.int .u32 ((b ^^^ y : Nat) : Int)] 50)) (Nat.lt_succ_self C))
            refine hK.out _ _ ⟨.inr hS, .inl (show _ = true by kernel_rfl)⟩ ?_
            clear hK K
            refine wpAnyZ_one (i := 17) (o := ⟨some 123, _, _, _, _, _⟩) (by kernel_rfl) rfl (by kernel_rfl) (fun K hK => ?_)
            refine wpo_appW (.tmp 110) (.tmp 122) rfl (C + 1) (.slice (some ad2) (m + 1) c2) ws rfl (hO.alloc _) (some ⟨w4.heap.size, 0, none⟩) 1 1 [b ^^^ y] rfl (words_one _ _ _ rfl hby) (by have := HWL.out; omega) (by have := hS0.sz; simp; omega) ?_
            intro v2 w3 g1 g2 g3
            obtain ⟨A2, n2, cc2, rfl⟩ := g1.slice_
            have hB3 : Below (C + 1) w4.drew w3 := grown_below (hB0.alloc hS0.sz _) g2 (by have := hS0.sz; simp; omega) (fun k hk => (hS0.own.ge k hk).1)
            have hC3 := CiphB.below (w := w4.drew) hS0.ciph hB3 (Nat.lt_succ_self C)
            have hS := hC3
            refine hK.out _ _ ⟨.inr hS, .inl (show _ = true by kernel_rfl)⟩ ?_
            clear hK K
            simp only [Act.put, List.setIfInBounds_toArray, List.set_cons_zero, List.set_cons_succ]
            refine wpAnyZ_any (i := 18) (oi := ⟨some 124, _, _, _, _, _⟩) (v := .pointer (some ⟨C, 0, none⟩)) rfl (by kernel_rfl) (by kernel_rfl) (by kernel_rfl) (by kernel_rfl) (fun _ _ _ h => h) (Or.inl ⟨by kernel_rfl, fun w' _ => ?_⟩) ⟨.inr hS, .inl (show _ = true by kernel_rfl)⟩ ?_
            · go_simp
            simp only [Act.put, List.setIfInBounds_toArray, List.set_cons_zero, List.set_cons_succ]
            refine wpAnyZ_any (i := 19) (oi := ⟨some 125, _, _, _, _, _⟩) (v := .pointer (some ⟨C, 1, none⟩)) rfl (by kernel_rfl) (by kernel_rfl) (by kernel_rfl) (by kernel_rfl) (fun _ _ _ h => h) (Or.inl ⟨by kernel_rfl, fun w' _ => ?_⟩) ⟨.inr hS, .inl (show _ = true by kernel_rfl)⟩ ?_
            · go_simp
            simp only [Act.put, List.setIfInBounds_toArray, List.set_cons_zero, List.set_cons_succ]
            refine wpAnyZ_one (i := 20) (o := ⟨none, _, _, _, _, _⟩) (by kernel_rfl) rfl (by kernel_rfl) (fun K hK => ?_)
            have c := CiphB.keys hS
            have f := CiphB.free hS 1
            go_simp
            refine hK.out _ _ ⟨.inl (show _ = true by kernel_rfl), .inl (show _ = true by kernel_rfl)⟩ ?_
            clear hK K hS
            refine wpAnyZ_done (by kernel_rfl) ?_ _
            go_wp2_with fail
            have hS3 : NewS w C (.slice A2 n2 cc2) (ws ++ [b ^^^ y]) (w3.setCell ⟨C, 1, none⟩ (.slice A2 n2 cc2)) :=
              ⟨hC3.set, g1.setCell (fun e => by have := (g1.ge C e).1; omega), (tabM_below (w := w4.drew) hS0.tab hB3 hS0.lt).setOther (show w.heap.size ≠ C by have := hS0.lt; omega) _, ((hS0.bel.drew).trans (hB3.mono (by have := hS0.lt; omega))).setCell (show w.heap.size ≤ C by have := hS0.lt; omega) _, by have hz : w4.heap.size ≤ w3.heap.size := hB3.size; have := hS0.sz; simp only [World.size_setCell]; omega, hS0.lt⟩
            go_roundw
            case rel =>
              refine ⟨m + 1 + 1, .slice A2 n2 cc2, by go_num, by omega, by omega, ?_⟩
              rw [show m + 1 + 1 - 4 = (m + 1 - 4) + 1 by omega]
              show NewS w C _ (sched 4 (keyWs l) (m + 1 - 4) ++ [nextW 4 (sched 4 (keyWs l) (m + 1 - 4))]) _
              rw [← HWS.out, ← HBQ.out]
              exact hS3
            case measure => simp [intOf]; omega
          · have h0' : (((m : Int) + 1) % 4 == 0) = false := by simp; omega
            have HY : Box (t = Aes.turnW 4 (m + 1) (ws.getD m 0)) := ⟨by unfold Aes.turnW; rw [if_neg h0, if_neg (by omega), HT.out]⟩
            obtain ⟨y, hy, hyt⟩ : ∃ y, y < 4294967296 ∧ t = y := ⟨t, ht, rfl⟩
            subst hyt
            have hS0 := hS1
            clear h0
            go_wp2_with fail
            have hO : OwnW wr.drew (C + 1) (.slice (some ad2) (m + 1) c2) ws := hS0.own
            obtain ⟨q, hq, hq2⟩ : ∃ q : Nat, q = m + 1 - 4 ∧ q < m + 1 := ⟨_, rfl, by omega⟩
            have hqi : (m : Int) + 1 - 4 = (q : Int) := by omega
            have HQ := Box.mk hqi
            obtain ⟨b, hbq⟩ : ∃ b, ws.getD q 0 = b := ⟨_, rfl⟩
            have hbl : b < 4294967296 := by rw [← hbq]; exact Aes.getD_lt hS0.own.2.2 q
            have hcq := words_cell hS0.own.rd hq2
            rw [hbq] at hcq
            have hby : b ^^^ t < 4294967296 := Aes.xor_lt32 hbl hy
            have hxy := u32_xor_nat b t hbl hy
            have hS9 : CiphB wr.drew C w.heap.size (.slice (some ad2) (m + 1) c2) ∧ CellIs (ad2.add q) (.int .u32 (b : Int)) wr.drew := ⟨hS0.ciph, hcq⟩
            have hB0 : Below (C + 1) wr.drew wr.drew := Below.refl _ _
            have HBQ : Box (b ^^^ t = nextW 4 ws) := ⟨by unfold nextW; rw [HWL.out, HY.out, ← hbq, hq]; rfl⟩
            clear hcq hbq hq hqi
            have i0 : (0 : Int) ≤ (q : Int) := by omega
            have i1 : (q : Int) < (m : Int) + 1 := by omega
            refine wp_region_Z 20 15 (fun w' => CiphB w' C w.heap.size (.slice (some ad2) (m + 1) c2)) (CellIs (ad2.add q) (.int .u32 (b : Int))) (by kernel_rfl) ?_
            have hS := hS9
            refine wpAnyZ_any (i := 0) (oi := ⟨some 106, _, _, _, _, _⟩) (v := .pointer (some ⟨C, 0, none⟩)) rfl (by kernel_rfl) (by kernel_rfl) (by kernel_rfl) (by kernel_rfl) (fun _ _ _ h => h) (Or.inl ⟨by kernel_rfl, fun w' _ => ?_⟩) ⟨.inr hS.1, .inr hS.2⟩ ?_
            · go_simp
            simp only [Act.put, List.setIfInBounds_toArray, List.set_cons_zero, List.set_cons_succ]
            refine wpAnyZ_any (i := 1) (oi := ⟨some 107, _, _, _, _, _⟩) (v := .pointer (some ⟨C, 0, none⟩)) rfl (by kernel_rfl) (by kernel_rfl) (by kernel_rfl) (by kernel_rfl) (fun _ _ _ h => h) (Or.inl ⟨by kernel_rfl, fun w' _ => ?_⟩) ⟨.inr hS.1, .inr hS.2⟩ ?_
            · go_simp
            simp only [Act.put, List.setIfInBounds_toArray, List.set_cons_zero, List.set_cons_succ]
            refine wpAnyZ_any (i := 2) (oi := ⟨some 108, _, _, _, _, _⟩) (v := .pointer (some ⟨C, 0, none⟩)) rfl (by kernel_rfl) (by kernel_rfl) (by kernel_rfl) (by kernel_rfl) (fun _ _ _ h => h) (Or.inl ⟨by kernel_rfl, fun w' _ => ?_⟩) ⟨.inr hS.1, .inr hS.2⟩ ?_
            · go_simp
            simp only [Act.put, List.setIfInBounds_toArray, List.set_cons_zero, List.set_cons_succ]
            refine wpAnyZ_any (i := 3) (oi := ⟨some 109, _, _, _, _, _⟩) (v := .pointer (some ⟨C, 1, none⟩)) rfl (by kernel_rfl) (by kernel_rfl) (by kernel_rfl) (by kernel_rfl) (fun _ _ _ h => h) (Or.inl ⟨by kernel_rfl, fun w' _ => ?_⟩) ⟨.inr hS.1, .inr hS.2⟩ ?_
            · go_simp
            simp only [Act.put, List.setIfInBounds_toArray, List.set_cons_zero, List.set_cons_succ]
            refine wpAnyZ_take (i := 4) (oi := ⟨some 110, _, _, _, _, _⟩) (v := .slice (some ad2) (m + 1) c2) rfl (by kernel_rfl) (by kernel_rfl) (by kernel_rfl) (by kernel_rfl) (fun _ _ _ h => h) (Or.inl ⟨by kernel_rfl, fun w' hSw => ?_⟩) hS ?_
            · (have c := CiphB.keys hSw; go_simp)
            simp only [Act.put, List.setIfInBounds_toArray, List.set_cons_zero, List.set_cons_succ]
            refine wpAnyZ_any (i := 5) (oi := ⟨some 111, _, _, _, _, _⟩) (v := .pointer (some ⟨C, 0, none⟩)) rfl (by kernel_rfl) (by kernel_rfl) (by kernel_rfl) (by kernel_rfl) (fun _ _ _ h => h) (Or.inl ⟨by kernel_rfl, fun w' _ => ?_⟩) ⟨.inr hS.1, .inr hS.2⟩ ?_
            · go_simp
            simp only [Act.put, List.setIfInBounds_toArray, List.set_cons_zero, List.set_cons_succ]
            refine wpAnyZ_any (i := 6) (oi := ⟨some 112, _, _, _, _, _⟩) (v := .pointer (some ⟨C, 0, none⟩)) rfl (by kernel_rfl) (by kernel_rfl) (by kernel_rfl) (by kernel_rfl) (fun _ _ _ h => h) (Or.inl ⟨by kernel_rfl, fun w' _ => ?_⟩) ⟨.inr hS.1, .inr hS.2⟩ ?_
            · go_simp
            simp only [Act.put, List.setIfInBounds_toArray, List.set_cons_zero, List.set_cons_succ]
            refine wpAnyZ_any (i := 7) (oi := ⟨some 113, _, _, _, _, _⟩) (v := .pointer (some ⟨C, 1, none⟩)) rfl (by kernel_rfl) (by kernel_rfl) (by kernel_rfl) (by kernel_rfl) (fun _ _ _ h => h) (Or.inl ⟨by kernel_rfl, fun w' _ => ?_⟩) ⟨.inr hS.1, .inr hS.2⟩ ?_
            · go_simp
            simp only [Act.put, List.setIfInBounds_toArray, List.set_cons_zero, List.set_cons_succ]
            refine wpAnyZ_take (i := 8) (oi := ⟨some 114, _, _, _, _, _⟩) (v := .slice (some ad2) (m + 1) c2) rfl (by kernel_rfl) (by kernel_rfl) (by kernel_rfl) (by kernel_rfl) (fun _ _ _ h => h) (Or.inl ⟨by kernel_rfl, fun w' hSw => ?_⟩) hS ?_
            · (have c := CiphB.keys hSw; go_simp)
            simp only [Act.put, List.setIfInBounds_toArray, List.set_cons_zero, List.set_cons_succ]
            refine wpAnyZ_any (i := 9) (oi := ⟨some 115, _, _, _, _, _⟩) (v := .int .i64 ((m : Int) + 1)) rfl (by kernel_rfl) (by kernel_rfl) (by kernel_rfl) (by kernel_rfl) (fun _ _ _ h => h) (Or.inl ⟨by kernel_rfl, fun w' _ => ?_⟩) ⟨.inr hS.1, .inr hS.2⟩ ?_
            · go_simp
            simp only [Act.put, List.setIfInBounds_toArray, List.set_cons_zero, List.set_cons_succ]
            refine wpAnyZ_any (i := 10) (oi := ⟨some 116, _, _, _, _, _⟩) (v := .int .i64 4) rfl (by kernel_rfl) (by kernel_rfl) (by kernel_rfl) (by kernel_rfl) (fun _ _ _ h => h) (Or.inl ⟨by kernel_rfl, fun w' _ => ?_⟩) ⟨.inr hS.1, .inr hS.2⟩ ?_
            · go_simp
            simp only [Act.put, List.setIfInBounds_toArray, List.set_cons_zero, List.set_cons_succ]
            refine wpAnyZ_any (i := 11) (oi := ⟨some 117, _, _, _, _, _⟩) (v := .int .i64 (q : Int)) rfl (by kernel_rfl) (by kernel_rfl) (by kernel_rfl) (by kernel_rfl) (fun _ _ _ h => h) (Or.inl ⟨by kernel_rfl, fun w' _ => ?_⟩) ⟨.inr hS.1, .inr hS.2⟩ ?_
            · (go_simp; have h := HQ.out; rw [h]; exact IntWalk.i64_in _ (by omega))
            simp only [Act.put, List.setIfInBounds_toArray, List.set_cons_zero, List.set_cons_succ]
            refine wpAnyZ_any (i := 12) (oi := ⟨some 118, _, _, _, _, _⟩) (v := .pointer (some (ad2.add q))) rfl (by kernel_rfl) (by kernel_rfl) (by kernel_rfl) (by kernel_rfl) (fun _ _ _ h => h) (Or.inl ⟨by kernel_rfl, fun w' _ => ?_⟩) ⟨.inr hS.1, .inr hS.2⟩ ?_
            · go_simp
            simp only [Act.put, List.setIfInBounds_toArray, List.set_cons_zero, List.set_cons_succ]
            refine wpAnyZ_take2 (i := 13) (oi := ⟨some 119, _, _, _, _, _⟩) (v := .int .u32 (b : Int)) rfl (by kernel_rfl) (by kernel_rfl) (by kernel_rfl) (by kernel_rfl) (fun _ _ _ h => h) (Or.inl ⟨by kernel_rfl, fun w' hTw => ?_⟩) hS ?_
            · (have c : _ = _ := hTw; go_simp)
            simp only [Act.put, List.setIfInBounds_toArray, List.set_cons_zero, List.set_cons_succ]
            refine wpAnyZ_any (i := 14) (oi := ⟨some 120, _, _, _, _, _⟩) (v := .int .u32 (t : Int)) rfl (by kernel_rfl) (by kernel_rfl) (by kernel_rfl) (by kernel_rfl) (fun _ _ _ h => h) (Or.inl ⟨by kernel_rfl, fun w' _ => ?_⟩) ⟨.inr hS.1, .inr hS.2⟩ ?_
            · go_simp
            simp only [Act.put, List.setIfInBounds_toArray, List.set_cons_zero, List.set_cons_succ]
            refine wpAnyZ_one (i := 15) (o := ⟨some 121, _, _, _, _, _⟩) (by kernel_rfl) rfl (by kernel_rfl) (fun K hK => ?_)
            go_simp
            have hS := hS.1
            refine hK.out _ _ ⟨.inr hS, .inl (show _ = true by kernel_rfl)⟩ ?_
            clear hK K
            refine wpAnyZ_one (i := 16) (o := ⟨some 122, _, _, _, _, _⟩) (by kernel_rfl) rfl (by kernel_rfl) (fun K hK => ?_)
            go_simp
            have hS := (hS.below (hB0.alloc hS0.sz (.cells #[.int .u32 ((b ^^^ t : Nat) : Int)] 50)) (Nat.lt_succ_self C))
            refine hK.out _ _ ⟨.inr hS, .inl (show _ = true by kernel_rfl)⟩ ?_
            clear hK K
            refine wpAnyZ_one (i := 17) (o := ⟨some 123, _, _, _, _, _⟩) (by kernel_rfl) rfl (by kernel_rfl) (fun K hK => ?_)
            refine wpo_appW (.tmp 110) (.tmp 122) rfl (C + 1) (.slice (some ad2) (m + 1) c2) ws rfl (hO.alloc _) (some ⟨wr.heap.size, 0, none⟩) 1 1 [b ^^^ t] rfl (words_one _ _ _ rfl hby) (by have := HWL.out; omega) (by have := hS0.sz; simp; omega) ?_
            intro v2 w3 g1 g2 g3
            obtain ⟨A2, n2, cc2, rfl⟩ := g1.slice_
            have hB3 : Below (C + 1) wr.drew w3 := grown_below (hB0.alloc hS0.sz _) g2 (by have := hS0.sz; simp; omega) (fun k hk => (hS0.own.ge k hk).1)
            have hC3 := CiphB.below (w := wr.drew) hS0.ciph hB3 (Nat.lt_succ_self C)
            have hS := hC3
            refine hK.out _ _ ⟨.inr hS, .inl (show _ = true by kernel_rfl)⟩ ?_
            clear hK K
            simp only [Act.put, List.setIfInBounds_toArray, List.set_cons_zero, List.set_cons_succ]
            refine wpAnyZ_any (i := 18) (oi := ⟨some 124, _, _, _, _, _⟩) (v := .pointer (some ⟨C, 0, none⟩)) rfl (by kernel_rfl) (by kernel_rfl) (by kernel_rfl) (by kernel_rfl) (fun _ _ _ h => h) (Or.inl ⟨by kernel_rfl, fun w' _ => ?_⟩) ⟨.inr hS, .inl (show _ = true by kernel_rfl)⟩ ?_
            · go_simp
            simp only [Act.put, List.setIfInBounds_toArray, List.set_cons_zero, List.set_cons_succ]
            refine wpAnyZ_any (i := 19) (oi := ⟨some 125, _, _, _, _, _⟩) (v := .pointer (some ⟨C, 1, none⟩)) rfl (by kernel_rfl) (by kernel_rfl) (by kernel_rfl) (by kernel_rfl) (fun _ _ _ h => h) (Or.inl ⟨by kernel_rfl, fun w' _ => ?_⟩) ⟨.inr hS, .inl (show _ = true by kernel_rfl)⟩ ?_
            · go_simp
            simp only [Act.put, List.setIfInBounds_toArray, List.set_cons_zero, List.set_cons_succ]
            refine wpAnyZ_one (i := 20) (o := ⟨none, _, _, _, _, _⟩) (by kernel_rfl) rfl (by kernel_rfl) (fun K hK => ?_)
            have c := CiphB.keys hS
            have f := CiphB.free hS 1
            go_simp
            refine hK.out _ _ ⟨.inl (show _ = true by kernel_rfl), .inl (show _ = true by kernel_rfl)⟩ ?_
            clear hK K hS
            refine wpAnyZ_done (by kernel_rfl) ?_ _
            go_wp2_with fail
            have hS3 : NewS w C (.slice A2 n2 cc2) (ws ++ [b ^^^ t]) (w3.setCell ⟨C, 1, none⟩ (.slice A2 n2 cc2)) :=
              ⟨hC3.set, g1.setCell (fun e => by have := (g1.ge C e).1; omega), (tabM_below (w := wr.drew) hS0.tab hB3 hS0.lt).setOther (show w.heap.size ≠ C by have := hS0.lt; omega) _, ((hS0.bel.drew).trans (hB3.mono (by have := hS0.lt; omega))).setCell (show w.heap.size ≤ C by have := hS0.lt; omega) _, by have hz : wr.heap.size ≤ w3.heap.size := hB3.size; have := hS0.sz; simp only [World.size_setCell]; omega, hS0.lt⟩
            go_roundw
            case rel =>
              refine ⟨m + 1 + 1, .slice A2 n2 cc2, by go_num, by omega, by omega, ?_⟩
              rw [show m + 1 + 1 - 4 = (m + 1 - 4) + 1 by omega]
              show NewS w C _ (sched 4 (keyWs l) (m + 1 - 4) ++ [nextW 4 (sched 4 (keyWs l) (m + 1 - 4))]) _
              rw [← HWS.out, ← HBQ.out]
              exact hS3
            case measure => simp [intOf]; omega
    · have hk2 : k < 4 := by omega
      clear hkN
      have h4 : 4 * (k : Int) ≤ 16 := by omega
      have hne : (cap = 4 * k) = False := by simp; omega
      go_wp2_with fail
      have hb := hl.below' hS0.bel
      obtain ⟨b0, b1, b2, b3, x, t0, t1, t2, t3, hx, hkw, o1, o2, o3, hc0, hc1, hc2, hc3⟩ := key_word hb (show 4 * k + 4 ≤ 16 by omega)
      have hblk : (ad.add (4 * k)).block < C + 1 := by rw [block_of_add]; have := hS0.lt; have := hl.blk; omega
      have hS9 : S9 C w.heap.size v (ad.add (4 * k)) b0 b1 b2 b3 wr.drew := ⟨hS0.ciph, hc0, hc1, hc2, hc3, hblk⟩
      have HKW := Box.mk hkw
      have HKL : Box (((keyWs l).take k).length ≤ 8) := ⟨by rw [List.length_take]; omega⟩
      obtain ⟨ks, hks⟩ : ∃ ks, ks = (keyWs l).take k := ⟨_, rfl⟩
      rw [← hks] at HKL
      have HKS := Box.mk hks
      have hO : OwnW wr.drew (C + 1) v ks := by rw [hks]; exact hS0.own
      have hm4 : 4 ≤ 16 - 4 * k := by omega
      have hc4 : 16 - 4 * k ≤ cap - 4 * k := by omega
      have hB0 : Below (C + 1) wr.drew wr.drew := Below.refl _ _
      clear hc0 hc1 hc2 hc3 hkw hks hblk hb hne
      revert hS9 hm4 hc4
      generalize ad.add (4 * k) = ad4
      generalize 16 - 4 * k = m4
      generalize cap - 4 * k = c4
      intro hS9 hm4 hc4
      have hm0 : ¬ m4 = 0 := by omega
      have hm1 : ¬ m4 ≤ 1 := by omega
      have hm2 : ¬ m4 ≤ 2 := by omega
      have hm3 : ¬ m4 ≤ 3 := by omega
      have hm1' : ¬ (m4 : Int) ≤ 1 := by omega
      have hm2' : ¬ (m4 : Int) ≤ 2 := by omega
      have hm3' : ¬ (m4 : Int) ≤ 3 := by omega
      have v0 := u32_nat b0 (by omega)
      have v1 := u32_nat b1 (by omega)
      have v2 := u32_nat b2 (by omega)
      have v3 := u32_nat b3 (by omega)
      have u0 : IntKind.u32.wrap ((b0 : Int) * 16777216) = (b0 : Int) * 16777216 := by have := u32_nat (b0 * 16777216) (by omega); rw [Int.natCast_mul] at this; exact this
      have u1 : IntKind.u32.wrap ((b1 : Int) * 65536) = (b1 : Int) * 65536 := by have := u32_nat (b1 * 65536) (by omega); rw [Int.natCast_mul] at this; exact this
      have u2 : IntKind.u32.wrap ((b2 : Int) * 256) = (b2 : Int) * 256 := by have := u32_nat (b2 * 256) (by omega); rw [Int.natCast_mul] at this; exact this
      refine wp_region_Z 31 31 (S9 C w.heap.size v ad4 b0 b1 b2 b3) (fun _ => True) (by kernel_rfl) ?_
      have hS : _ ∧ True := ⟨hS9, trivial⟩
      refine wpAnyZ_any (i := 0) (oi := ⟨some 32, _, _, _, _, _⟩) (v := .pointer (some ⟨C, 0, none⟩)) rfl (by kernel_rfl) (by kernel_rfl) (by kernel_rfl) (by kernel_rfl) (fun _ _ _ h => h) (Or.inl ⟨by kernel_rfl, fun w' _ => ?_⟩) ⟨.inr hS.1, .inr hS.2⟩ ?_
      · go_simp
      simp only [Act.put, List.setIfInBounds_toArray, List.set_cons_zero, List.set_cons_succ]
      refine wpAnyZ_any (i := 1) (oi := ⟨some 33, _, _, _, _, _⟩) (v := .pointer (some ⟨C, 0, none⟩)) rfl (by kernel_rfl) (by kernel_rfl) (by kernel_rfl) (by kernel_rfl) (fun _ _ _ h => h) (Or.inl ⟨by kernel_rfl, fun w' _ => ?_⟩) ⟨.inr hS.1, .inr hS.2⟩ ?_
      · go_simp
      simp only [Act.put, List.setIfInBounds_toArray, List.set_cons_zero, List.set_cons_succ]
      refine wpAnyZ_any (i := 2) (oi := ⟨some 34, _, _, _, _, _⟩) (v := .pointer (some ⟨C, 0, none⟩)) rfl (by kernel_rfl) (by kernel_rfl) (by kernel_rfl) (by kernel_rfl) (fun _ _ _ h => h) (Or.inl ⟨by kernel_rfl, fun w' _ => ?_⟩) ⟨.inr hS.1, .inr hS.2⟩ ?_
      · go_simp
      simp only [Act.put, List.setIfInBounds_toArray, List.set_cons_zero, List.set_cons_succ]
      refine wpAnyZ_any (i := 3) (oi := ⟨some 35, _, _, _, _, _⟩) (v := .pointer (some ⟨C, 1, none⟩)) rfl (by kernel_rfl) (by kernel_rfl) (by kernel_rfl) (by kernel_rfl) (fun _ _ _ h => h) (Or.inl ⟨by kernel_rfl, fun w' _ => ?_⟩) ⟨.inr hS.1, .inr hS.2⟩ ?_
      · go_simp
      simp only [Act.put, List.setIfInBounds_toArray, List.set_cons_zero, List.set_cons_succ]
      refine wpAnyZ_take (i := 4) (oi := ⟨some 36, _, _, _, _, _⟩) (v := v) rfl (by kernel_rfl) (by kernel_rfl) (by kernel_rfl) (by kernel_rfl) (fun _ _ _ h => h) (Or.inl ⟨by kernel_rfl, fun w' hSw => ?_⟩) hS ?_
      · (have c := hSw.ciph.keys; go_simp)
      simp only [Act.put, List.setIfInBounds_toArray, List.set_cons_zero, List.set_cons_succ]
      refine wpAnyZ_any (i := 5) (oi := ⟨some 37, _, _, _, _, _⟩) (v := .slice (some ad4) m4 c4) rfl (by kernel_rfl) (by kernel_rfl) (by kernel_rfl) (by kernel_rfl) (fun _ _ _ h => h) (Or.inl ⟨by kernel_rfl, fun w' _ => ?_⟩) ⟨.inr hS.1, .inr hS.2⟩ ?_
      · go_simp
      simp only [Act.put, List.setIfInBounds_toArray, List.set_cons_zero, List.set_cons_succ]
      refine wpAnyZ_any (i := 6) (oi := ⟨some 38, _, _, _, _, _⟩) (v := .pointer (some ad4)) rfl (by kernel_rfl) (by kernel_rfl) (by kernel_rfl) (by kernel_rfl) (fun _ _ _ h => h) (Or.inl ⟨by kernel_rfl, fun w' _ => ?_⟩) ⟨.inr hS.1, .inr hS.2⟩ ?_
      · go_simp
      simp only [Act.put, List.setIfInBounds_toArray, List.set_cons_zero, List.set_cons_succ]
      refine wpAnyZ_take (i := 7) (oi := ⟨some 39, _, _, _, _, _⟩) (v := .int .u8 (b0 : Int)) rfl (by kernel_rfl) (by kernel_rfl) (by kernel_rfl) (by kernel_rfl) (fun _ _ _ h => h) (Or.inl ⟨by kernel_rfl, fun w' hSw => ?_⟩) hS ?_
      · (have c := hSw.c0; go_simp)
      simp only [Act.put, List.setIfInBounds_toArray, List.set_cons_zero, List.set_cons_succ]
      refine wpAnyZ_any (i := 8) (oi := ⟨some 40, _, _, _, _, _⟩) (v := .int .u32 (b0 : Int)) rfl (by kernel_rfl) (by kernel_rfl) (by kernel_rfl) (by kernel_rfl) (fun _ _ _ h => h) (Or.inl ⟨by kernel_rfl, fun w' _ => ?_⟩) ⟨.inr hS.1, .inr hS.2⟩ ?_
      · go_simp
      simp only [Act.put, List.setIfInBounds_toArray, List.set_cons_zero, List.set_cons_succ]
      refine wpAnyZ_any (i := 9) (oi := ⟨some 41, _, _, _, _, _⟩) (v := .int .u32 ((b0 : Int) * 16777216)) rfl (by kernel_rfl) (by kernel_rfl) (by kernel_rfl) (by kernel_rfl) (fun _ _ _ h => h) (Or.inl ⟨by kernel_rfl, fun w' _ => ?_⟩) ⟨.inr hS.1, .inr hS.2⟩ ?_
      · go_simp
      simp only [Act.put, List.setIfInBounds_toArray, List.set_cons_zero, List.set_cons_succ]
      refine wpAnyZ_any (i := 10) (oi := ⟨some 42, _, _, _, _, _⟩) (v := .slice (some ad4) m4 c4) rfl (by kernel_rfl) (by kernel_rfl) (by kernel_rfl) (by kernel_rfl) (fun _ _ _ h => h) (Or.inl ⟨by kernel_rfl, fun w' _ => ?_⟩) ⟨.inr hS.1, .inr hS.2⟩ ?_
      · go_simp
      simp only [Act.put, List.setIfInBounds_toArray, List.set_cons_zero, List.set_cons_succ]
      refine wpAnyZ_any (i := 11) (oi := ⟨some 43, _, _, _, _, _⟩) (v := .pointer (some ⟨ad4.block, ad4.off + 1, none⟩)) rfl (by kernel_rfl) (by kernel_rfl) (by kernel_rfl) (by kernel_rfl) (fun _ _ _ h => h) (Or.inl ⟨by kernel_rfl, fun w' _ => ?_⟩) ⟨.inr hS.1, .inr hS.2⟩ ?_
      · go_simp
      simp only [Act.put, List.setIfInBounds_toArray, List.set_cons_zero, List.set_cons_succ]
      refine wpAnyZ_take (i := 12) (oi := ⟨some 44, _, _, _, _, _⟩) (v := .int .u8 (b1 : Int)) rfl (by kernel_rfl) (by kernel_rfl) (by kernel_rfl) (by kernel_rfl) (fun _ _ _ h => h) (Or.inl ⟨by kernel_rfl, fun w' hSw => ?_⟩) hS ?_
      · (have c := hSw.c1; go_simp)
      simp only [Act.put, List.setIfInBounds_toArray, List.set_cons_zero, List.set_cons_succ]
      refine wpAnyZ_any (i := 13) (oi := ⟨some 45, _, _, _, _, _⟩) (v := .int .u32 (b1 : Int)) rfl (by kernel_rfl) (by kernel_rfl) (by kernel_rfl) (by kernel_rfl) (fun _ _ _ h => h) (Or.inl ⟨by kernel_rfl, fun w' _ => ?_⟩) ⟨.inr hS.1, .inr hS.2⟩ ?_
      · go_simp
      simp only [Act.put, List.setIfInBounds_toArray, List.set_cons_zero, List.set_cons_succ]
      refine wpAnyZ_any (i := 14) (oi := ⟨some 46, _, _, _, _, _⟩) (v := .int .u32 ((b1 : Int) * 65536)) rfl (by kernel_rfl) (by kernel_rfl) (by kernel_rfl) (by kernel_rfl) (fun _ _ _ h => h) (Or.inl ⟨by kernel_rfl, fun w' _ => ?_⟩) ⟨.inr hS.1, .inr hS.2⟩ ?_
      · go_simp
      simp only [Act.put, List.setIfInBounds_toArray, List.set_cons_zero, List.set_cons_succ]
      refine wpAnyZ_any (i := 15) (oi := ⟨some 47, _, _, _, _, _⟩) (v := .int .u32 ((b0 : Int) * 16777216 + (b1 : Int) * 65536)) rfl (by kernel_rfl) (by kernel_rfl) (by kernel_rfl) (by kernel_rfl) (fun _ _ _ h => h) (Or.inl ⟨by kernel_rfl, fun w' _ => ?_⟩) ⟨.inr hS.1, .inr hS.2⟩ ?_
      · go_simp
      simp only [Act.put, List.setIfInBounds_toArray, List.set_cons_zero, List.set_cons_succ]
      refine wpAnyZ_any (i := 16) (oi := ⟨some 48, _, _, _, _, _⟩) (v := .slice (some ad4) m4 c4) rfl (by kernel_rfl) (by kernel_rfl) (by kernel_rfl) (by kernel_rfl) (fun _ _ _ h => h) (Or.inl ⟨by kernel_rfl, fun w' _ => ?_⟩) ⟨.inr hS.1, .inr hS.2⟩ ?_
      · go_simp
      simp only [Act.put, List.setIfInBounds_toArray, List.set_cons_zero, List.set_cons_succ]
      refine wpAnyZ_any (i := 17) (oi := ⟨some 49, _, _, _, _, _⟩) (v := .pointer (some ⟨ad4.block, ad4.off + 2, none⟩)) rfl (by kernel_rfl) (by kernel_rfl) (by kernel_rfl) (by kernel_rfl) (fun _ _ _ h => h) (Or.inl ⟨by kernel_rfl, fun w' _ => ?_⟩) ⟨.inr hS.1, .inr hS.2⟩ ?_
      · go_simp
      simp only [Act.put, List.setIfInBounds_toArray, List.set_cons_zero, List.set_cons_succ]
      refine wpAnyZ_take (i := 18) (oi := ⟨some 50, _, _, _, _, _⟩) (v := .int .u8 (b2 : Int)) rfl (by kernel_rfl) (by kernel_rfl) (by kernel_rfl) (by kernel_rfl) (fun _ _ _ h => h) (Or.inl ⟨by kernel_rfl, fun w' hSw => ?_⟩) hS ?_
      · (have c := hSw.c2; go_simp)
      simp only [Act.put, List.setIfInBounds_toArray, List.set_cons_zero, List.set_cons_succ]
      refine wpAnyZ_any (i := 19) (oi := ⟨some 51, _, _, _, _, _⟩) (v := .int .u32 (b2 : Int)) rfl (by kernel_rfl) (by kernel_rfl) (by kernel_rfl) (by kernel_rfl) (fun _ _ _ h => h) (Or.inl ⟨by kernel_rfl, fun w' _ => ?_⟩) ⟨.inr hS.1, .inr hS.2⟩ ?_
      · go_simp
      simp only [Act.put, List.setIfInBounds_toArray, List.set_cons_zero, List.set_cons_succ]
      refine wpAnyZ_any (i := 20) (oi := ⟨some 52, _, _, _, _, _⟩) (v := .int .u32 ((b2 : Int) * 256)) rfl (by kernel_rfl) (by kernel_rfl) (by kernel_rfl) (by kernel_rfl) (fun _ _ _ h => h) (Or.inl ⟨by kernel_rfl, fun w' _ => ?_⟩) ⟨.inr hS.1, .inr hS.2⟩ ?_
      · go_simp
      simp only [Act.put, List.setIfInBounds_toArray, List.set_cons_zero, List.set_cons_succ]
      refine wpAnyZ_any (i := 21) (oi := ⟨some 53, _, _, _, _, _⟩) (v := .int .u32 ((b0 : Int) * 16777216 + (b1 : Int) * 65536 + (b2 : Int) * 256)) rfl (by kernel_rfl) (by kernel_rfl) (by kernel_rfl) (by kernel_rfl) (fun _ _ _ h => h) (Or.inl ⟨by kernel_rfl, fun w' _ => ?_⟩) ⟨.inr hS.1, .inr hS.2⟩ ?_
      · go_simp
      simp only [Act.put, List.setIfInBounds_toArray, List.set_cons_zero, List.set_cons_succ]
      refine wpAnyZ_any (i := 22) (oi := ⟨some 54, _, _, _, _, _⟩) (v := .slice (some ad4) m4 c4) rfl (by kernel_rfl) (by kernel_rfl) (by kernel_rfl) (by kernel_rfl) (fun _ _ _ h => h) (Or.inl ⟨by kernel_rfl, fun w' _ => ?_⟩) ⟨.inr hS.1, .inr hS.2⟩ ?_
      · go_simp
      simp only [Act.put, List.setIfInBounds_toArray, List.set_cons_zero, List.set_cons_succ]
      refine wpAnyZ_any (i := 23) (oi := ⟨some 55, _, _, _, _, _⟩) (v := .pointer (some ⟨ad4.block, ad4.off + 3, none⟩)) rfl (by kernel_rfl) (by kernel_rfl) (by kernel_rfl) (by kernel_rfl) (fun _ _ _ h => h) (Or.inl ⟨by kernel_rfl, fun w' _ => ?_⟩) ⟨.inr hS.1, .inr hS.2⟩ ?_
      · go_simp
      simp only [Act.put, List.setIfInBounds_toArray, List.set_cons_zero, List.set_cons_succ]
      refine wpAnyZ_take (i := 24) (oi := ⟨some 56, _, _, _, _, _⟩) (v := .int .u8 (b3 : Int)) rfl (by kernel_rfl) (by kernel_rfl) (by kernel_rfl) (by kernel_rfl) (fun _ _ _ h => h) (Or.inl ⟨by kernel_rfl, fun w' hSw => ?_⟩) hS ?_
      · (have c := hSw.c3; go_simp)
      simp only [Act.put, List.setIfInBounds_toArray, List.set_cons_zero, List.set_cons_succ]
      refine wpAnyZ_any (i := 25) (oi := ⟨some 57, _, _, _, _, _⟩) (v := .int .u32 (b3 : Int)) rfl (by kernel_rfl) (by kernel_rfl) (by kernel_rfl) (by kernel_rfl) (fun _ _ _ h => h) (Or.inl ⟨by kernel_rfl, fun w' _ => ?_⟩) ⟨.inr hS.1, .inr hS.2⟩ ?_
      · go_simp
      simp only [Act.put, List.setIfInBounds_toArray, List.set_cons_zero, List.set_cons_succ]
      refine wpAnyZ_any (i := 26) (oi := ⟨some 58, _, _, _, _, _⟩) (v := .int .u32 (x : Int)) rfl (by kernel_rfl) (by kernel_rfl) (by kernel_rfl) (by kernel_rfl) (fun _ _ _ h => h) (Or.inl ⟨by kernel_rfl, fun w' _ => ?_⟩) ⟨.inr hS.1, .inr hS.2⟩ ?_
      · go_simp
      simp only [Act.put, List.setIfInBounds_toArray, List.set_cons_zero, List.set_cons_succ]
      refine wpAnyZ_one (i := 27) (o := ⟨some 59, _, _, _, _, _⟩) (by kernel_rfl) rfl (by kernel_rfl) (fun K hK => ?_)
      go_simp
      have hS := (show _ ∧ True from ⟨hS.1.below (hB0.alloc hS0.sz (.cells #[.int .u32 (x : Int)] 50)), trivial⟩)
      refine hK.out _ _ ⟨.inr hS.1, .inr hS.2⟩ ?_
      clear hK K
      refine wpAnyZ_one (i := 28) (o := ⟨some 60, _, _, _, _, _⟩) (by kernel_rfl) rfl (by kernel_rfl) (fun K hK => ?_)
      refine wpo_appW (.tmp 36) (.tmp 59) rfl (C + 1) v ks rfl (hO.alloc _) (some ⟨wr.heap.size, 0, none⟩) 1 1 [x] rfl (words_one _ _ x rfl hx) (by have := HKL.out; omega) (by have := hS0.sz; simp; omega) ?_
      intro v2 w3 g1 g2 g3
      obtain ⟨A2, n2, cc2, rfl⟩ := g1.slice_
      have hB3 : Below (C + 1) wr.drew w3 := grown_below (hB0.alloc hS0.sz _) g2 (by have := hS0.sz; simp; omega) (fun k hk => (hS0.own.ge k hk).1)
      have hC3 := (hS9.below hB3).ciph
      have hS := (show _ ∧ True from ⟨hS9.below hB3, trivial⟩)
      refine hK.out _ _ ⟨.inr hS.1, .inr hS.2⟩ ?_
      clear hK K
      simp only [Act.put, List.setIfInBounds_toArray, List.set_cons_zero, List.set_cons_succ]
      refine wpAnyZ_any (i := 29) (oi := ⟨some 61, _, _, _, _, _⟩) (v := .pointer (some ⟨C, 0, none⟩)) rfl (by kernel_rfl) (by kernel_rfl) (by kernel_rfl) (by kernel_rfl) (fun _ _ _ h => h) (Or.inl ⟨by kernel_rfl, fun w' _ => ?_⟩) ⟨.inr hS.1, .inr hS.2⟩ ?_
      · go_simp
      simp only [Act.put, List.setIfInBounds_toArray, List.set_cons_zero, List.set_cons_succ]
      refine wpAnyZ_any (i := 30) (oi := ⟨some 62, _, _, _, _, _⟩) (v := .pointer (some ⟨C, 1, none⟩)) rfl (by kernel_rfl) (by kernel_rfl) (by kernel_rfl) (by kernel_rfl) (fun _ _ _ h => h) (Or.inl ⟨by kernel_rfl, fun w' _ => ?_⟩) ⟨.inr hS.1, .inr hS.2⟩ ?_
      · go_simp
      simp only [Act.put, List.setIfInBounds_toArray, List.set_cons_zero, List.set_cons_succ]
      refine wpAnyZ_one (i := 31) (o := ⟨none, _, _, _, _, _⟩) (by kernel_rfl) rfl (by kernel_rfl) (fun K hK => ?_)
      have c := hS.1.ciph.keys
      have f := hS.1.ciph.free 1
      go_simp
      refine hK.out _ _ ⟨.inl (show _ = true by kernel_rfl), .inl (show _ = true by kernel_rfl)⟩ ?_
      clear hK K hS
      refine wpAnyZ_done (by kernel_rfl) ?_ _
      go_wp2_with fail
      have hS3 : NewS w C (.slice A2 n2 cc2) (ks ++ [x]) (w3.setCell ⟨C, 1, none⟩ (.slice A2 n2 cc2)) :=
        ⟨hC3.set, g1.setCell (fun e => by have := (g1.ge C e).1; omega), (tabM_below (w := wr.drew) hS0.tab hB3 hS0.lt).setOther (show w.heap.size ≠ C by have := hS0.lt; omega) _, ((hS0.bel.drew).trans (hB3.mono (by have := hS0.lt; omega))).setCell (show w.heap.size ≤ C by have := hS0.lt; omega) _, by have hz : wr.heap.size ≤ w3.heap.size := hB3.size; have := hS0.sz; simp only [World.size_setCell]; omega, hS0.lt⟩
      go_roundw
      case rel =>
        refine ⟨k + 1, .slice A2 n2 cc2, by go_num, by omega, ?_⟩
        rw [take_keyW hl.1 (by omega), ← HKS.out, ← HKW.out]
        exact hS3
      case measure => simp [intOf]; omega
end Go.Proofs.Ytibfihjcjohadaa
