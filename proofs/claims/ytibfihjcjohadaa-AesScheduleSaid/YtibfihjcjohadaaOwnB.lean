/-
  A row of blocks that the call itself has made, and what an append leaves of it; slices of slices of bytes that came in. Conditions: lengths below 2^40.
-/
import Derived.Test.YtibfihjcjohadaaPair
import Derived.Test.YtibfihjcjohadaaOwn2
import Derived.Maps.AppendAt
import Derived.Deep.Matrix
import Derived.ProofKit
import Derived.OpenShut
namespace Go.Proofs.Ytibfihjcjohadaa
open Go.RowKit Go.Op Go.ChangeShapes Go.WideShapes
open Twk (byt dbl hlv tm byt_lt dbl_lt hlv_lt tm_lt up down xor_lt128 byt_xor)
/-- the cells of blocks -/
def blkCells (l : List Nat) : List Value := l.flatMap fun x => bl (byt x)
theorem blkCells_len (l : List Nat) : (blkCells l).length = l.length * 16 := by
  induction l with
  | nil => rfl
  | cons x l ih => unfold blkCells at ih ⊢; rw [List.flatMap_cons, List.length_append, ih, bl_len, List.length_cons]; omega
theorem blkCells_append (l m : List Nat) : blkCells (l ++ m) = blkCells l ++ blkCells m := by unfold blkCells; rw [List.flatMap_append]
theorem blkCells_get (l : List Nat) : ∀ (q i : Nat), i < 16 → (blkCells l)[q * 16 + i]? = (l[q]?).bind fun x => (bl (byt x))[i]? := by
  induction l with
  | nil => intro q i _; simp [blkCells]
  | cons x l ih =>
    intro q i hi
    have e : blkCells (x :: l) = bl (byt x) ++ blkCells l := rfl
    rw [e]
    cases q with
    | zero => rw [Nat.zero_mul, Nat.zero_add, List.getElem?_append_left (by rw [bl_len]; exact hi)]; rfl
    | succ q =>
      rw [List.getElem?_append_right (by rw [bl_len]; omega), bl_len, show (q + 1) * 16 + i - 16 = q * 16 + i by omega, ih q i hi]
      rfl
/-- the value v owns the blocks l, in a block of memory from base on -/
def OwnB (w : World) (base : Nat) (v : Value) (l : List Nat) : Prop :=
  w.ownsRow base 36 16 v l.length (blkCells l) ∧ l.length ≤ 1099511627776 ∧ ∀ x ∈ l, x < 2 ^ 128
theorem ownB_nil (w : World) (base : Nat) : OwnB w base (.slice none 0 0) [] := ⟨World.ownsRow_nil _ _ _ _, by simp, by simp⟩
theorem OwnB.kept {w w' : World} {base : Nat} {v : Value} {l : List Nat} {row : Option Nat} (h : OwnB w base v l) (hg : w.grownBy w' row) (hne : v.ownBlock = none ∨ v.ownBlock ≠ row) : OwnB w' base v l := ⟨h.1.kept hg hne, h.2⟩
theorem OwnB.alloc {w : World} {base : Nat} {v : Value} {l : List Nat} (h : OwnB w base v l) (o : Obj) : OwnB (w.alloc o) base v l := ⟨h.1.alloc o, h.2⟩
theorem OwnB.ge {w : World} {base : Nat} {v : Value} {l : List Nat} (h : OwnB w base v l) : ∀ k, v.ownBlock = some k → base ≤ k ∧ k < w.heap.size := h.1.lt
theorem OwnB.below {w w' : World} {base B : Nat} {v : Value} {l : List Nat} (h : OwnB w base v l) (hb : Below B w w') (hB : w.heap.size ≤ B) : OwnB w' base v l :=
  h.kept (row := none) ⟨hb.os, hb.tape, hb.output, hb.size, fun i hi _ => hb.block i (by omega)⟩ (none_or _)
theorem OwnB.setRow {w : World} {base g : Nat} {v : Value} {l : List Nat} (h : OwnB w base v l) (hne : v.ownBlock ≠ some g) (c : Array Value) : OwnB (w.setRow g c) base v l :=
  h.kept (row := some g) ⟨rfl, rfl, rfl, by simp [World.setRow], fun i _ hi => by
    simp only [World.setRow]
    rw [Array.getElem?_modify, if_neg (fun e => hi (by rw [e]))]⟩ (.inr hne)
theorem OwnB.blocks {w : World} {base : Nat} {v : Value} {l : List Nat} (h : OwnB w base v l) : ∃ A c, v = .slice A l.length c ∧ Blocks w A l.length l := by
  obtain ⟨hr, hle, hx⟩ := h
  rcases hr.2 with ⟨rfl, h0⟩ | ⟨g, cap, cur, rfl, hg⟩
  · have : l = [] := List.eq_nil_of_length_eq_zero h0
    subst this
    exact ⟨none, 0, rfl, blocks_nil w⟩
  · refine ⟨_, _, rfl, rfl, hle, hx, fun _ => ⟨g, 0, rfl, fun j hj i u hu => ?_⟩⟩
    have hi : i < 16 := by have := (List.getElem?_eq_some_iff.mp hu).1; rwa [bl_len] at this
    have h1 := hr.cells (g := g) rfl (j * 16 + i) u (by
      rw [blkCells_get l j i hi, List.getElem?_eq_getElem hj]
      simp only [List.getD, List.getElem?_eq_getElem hj, Option.getD_some] at hu
      exact hu)
    rw [add_off] at h1
    rw [← h1]; congr 2; omega
theorem OwnB.rd {w : World} {base m c : Nat} {A : Option Addr} {l : List Nat} (h : OwnB w base (.slice A m c) l) : Blocks w A m l := by
  obtain ⟨A', c', e, hB⟩ := h.blocks
  injection e with e1 e2 e3
  subst e1 e2
  exact hB
/-- two rows that share nothing -/
def Apart (v u : Value) : Prop := ∀ g, v.ownBlock = some g → u.ownBlock ≠ some g
theorem Apart.symm {v u : Value} (h : Apart v u) : Apart u v := fun g h1 h2 => h g h2 h1
theorem Apart.ne {v u : Value} (h : Apart v u) : v.ownBlock = none ∨ v.ownBlock ≠ u.ownBlock := by
  rcases hv : v.ownBlock with _ | g
  · exact .inl rfl
  · exact .inr (fun e => h g hv e.symm)
/-- what is appended to lies apart from what lay apart, or in a new block -/
theorem Apart.grown {v u v' : Value} {n : Nat} (h : Apart v u) (hv : v'.ownBlock = v.ownBlock ∨ v'.ownBlock = some n) (hu : ∀ k, u.ownBlock = some k → k < n) : Apart v' u := by
  intro g h1 h2
  rcases hv with hv | hv
  · exact h g (hv.symm.trans h1) h2
  · have h3 := hu g h2
    rw [hv] at h1
    injection h1 with h1
    omega
theorem Arr.grown {w w' : World} {g : Nat} {f : Nat → Nat} {row : Option Nat} (h : Arr w g f) (hg : w.grownBy w' row) (hne : some g ≠ row) : Arr w' g f := (hg.block g h.lt hne).trans h
theorem run_appB_nil (w : World) (base : Nat) (ty : TypeId) (i : TypeInfo) (hi : Try.prog.info? 36 = some i) (v : Value) (n : Nat) (xs : List Value) (hown : w.ownsRow base 36 16 v n xs) (c : Nat) :
    (Builtin.append_ #[46, 46] ty #[v, .slice none 0 c]).run Try.prog w = .ok v w := by
  rcases hown.2 with ⟨rfl, rfl⟩ | ⟨g, cap, cur, rfl, _, _, hnc, _⟩
  · simp [Builtin.append_, run_underlying Try.underlying46, sizeOf, typeInfo, hi, Builtin.lenOf, Builtin.firstCells]
  · simp [Builtin.append_, run_underlying Try.underlying46, sizeOf, typeInfo, hi, Builtin.lenOf, Builtin.firstCells, hnc, storeCells]
set_option maxRecDepth 100000 in
/-- 'append(s, x...)' of blocks onto a row of the call's own: x nil, empty or not -/
theorem run_appB (w : World) (ty : TypeId) (base : Nat) (v : Value) (l : List Nat) (hown : OwnB w base v l)
    (A : Option Addr) (m c : Nat) (news : List Nat) (hnews : Blocks w A m news) (hlen : l.length + m ≤ 1099511627776) (hbase : base ≤ w.heap.size) :
    ∃ v' w', (Builtin.append_ #[46, 46] ty #[v, .slice A m c]).run Try.prog w = .ok v' w' ∧ OwnB w' base v' (l ++ news) ∧ w.grownBy w' v.ownBlock ∧ (v'.ownBlock = v.ownBlock ∨ v'.ownBlock = some w.heap.size) := by
  obtain ⟨i, hi, hz0, hz1, hz2⟩ := info_parts info36
  rcases A with _ | ad
  · have hm : m = 0 := by
      rcases Nat.eq_zero_or_pos m with h0 | h0
      · exact h0
      · obtain ⟨_, _, hA, _⟩ := hnews.2.2.2 h0
        cases hA
    subst hm
    have hn : news = [] := List.eq_nil_of_length_eq_zero hnews.1
    subst hn
    exact ⟨v, w, run_appB_nil w base ty i hi v _ _ hown.1 c, by simpa using hown, World.grownBy.refl w _, .inl rfl⟩
  · have hcells : ∀ j u, (blkCells news)[j]? = some u → w.cell? (ad.add j) = some u := by
      intro j u hj
      have hjl : j < m * 16 := by
        have := (List.getElem?_eq_some_iff.mp hj).1
        rwa [blkCells_len, hnews.1] at this
      obtain ⟨b, o, hA, hc⟩ := hnews.2.2.2 (by omega)
      have hA := Option.some.inj hA
      subst hA
      have e : j = j / 16 * 16 + j % 16 := by omega
      rw [e, blkCells_get news _ _ (Nat.mod_lt _ (by decide))] at hj
      have hq : j / 16 < news.length := by rw [hnews.1]; omega
      rw [List.getElem?_eq_getElem hq] at hj
      have h1 := hc (j / 16) (by omega) (j % 16) u (by simpa [List.getD, List.getElem?_eq_getElem hq] using hj)
      rw [add_off, ← h1]; congr 2; omega
    have hone : ∀ u ∈ blkCells news, u.oneCell' = true := by
      intro u hu
      obtain ⟨x, _, hx⟩ := List.mem_flatMap.mp hu
      obtain ⟨y, _, rfl⟩ := List.mem_map.mp hx
      rfl
    obtain ⟨v', w', hr, h2, h3, _, h5⟩ := run_append_own_at (P := Try.prog) w base 46 ty 36 i (.agg (bv (fun _ => 0))) 16 16 Try.underlying46 hi hz0 hz1 hz2 rfl (by decide) v l.length (blkCells l) hown.1 ad m c (blkCells news) (by rw [blkCells_len, hnews.1]) hcells hone (by unfold maxLen; omega) (by omega) hbase
    refine ⟨v', w', hr, ⟨?_, by rw [List.length_append, hnews.1]; exact hlen, fun x hx => ?_⟩, h3, h5⟩
    · rw [List.length_append, hnews.1, blkCells_append]; exact h2
    · rcases List.mem_append.mp hx with hx | hx
      · exact hown.2.2 x hx
      · exact hnews.2.2.1 x hx
set_option maxRecDepth 100000 in
theorem wp_appB {ops : Array Oper} {rest : List Oper} {o : Oper} {a : Act} {w : World} {Q : Exit → Act → World → Prop} (hgd : o.guard = none) (s x : Operand)
    (ho : o.op = .call { callee := .builtin .append, args := #[s, x], argTypes := #[46, 46] })
    (base : Nat) (v : Value) (l : List Nat) (hs : a.eval s = v) (hown : OwnB w base v l)
    (A : Option Addr) (m c : Nat) (news : List Nat) (hx : a.eval x = .slice A m c) (hnews : Blocks w A m news) (hlen : l.length + m ≤ 1099511627776) (hbase : base ≤ w.heap.size)
    (h : ∀ v' w', OwnB w' base v' (l ++ news) → w.grownBy w' v.ownBlock → (v'.ownBlock = v.ownBlock ∨ v'.ownBlock = some w.heap.size) → wpList Try.prog ops Q rest (a.put o.dst v') w') : wpList Try.prog ops Q (o :: rest) a w := by
  refine wpList_plain hgd fun K hK => ?_
  obtain ⟨v', w', hr, h2, h3, h5⟩ := run_appB w o.type base v l hown A m c news hnews hlen hbase
  unfold Oper.wp execOp
  simp only [ho, resolve, invoke, builtin, Sem.run_bind, Sem.run_pure, Result.andThen_ok, List.map_toArray, List.map_cons, List.map_nil, hs, hx, hr]
  exact hK _ _ (h v' w' h2 h3 h5)
theorem fill_one (f : Nat → Nat) : Instr.fill (fun i => some (i * 16, 16)) ((Array.range (1 * 16)).map ((Value.agg (bv (fun _ => 0))).cells[· % (Value.agg (bv (fun _ => 0))).cells.size]!)) [(0, .agg (bv f))] = some (bv f) := by kernel_rfl
theorem wp_one {o : Oper} {a : Act} {w : World} {K : Act → World → Prop} {Q : Exit → Act → World → Prop} (x : Operand) (ho : o.op = .buildSlice 46 1 #[(0, x)])
    (f : Nat → Nat) (hx : a.eval x = .agg (bv f))
    (h : K (a.put o.dst (.slice (some ⟨w.heap.size, 0, none⟩) 1 1)) (w.alloc (.cells (bv f) 36))) : o.wp Try.prog a w K Q := by
  obtain ⟨i, hi, hz0, hz1, hz2⟩ := info_parts info36
  refine wp_buildSlice 46 36 1 _ ho (bv f) i _ Try.underlying46 hi hz0 ?_ ?_ ?_ h
  · rw [hz1]; decide
  · rw [hz1]; decide
  · rw [hz1]
    simp only [List.map_toArray, List.map_cons, List.map_nil, hx]
    exact fill_one f
theorem wpList_one {ops : Array Oper} {rest : List Oper} {o : Oper} {a : Act} {w : World} {Q : Exit → Act → World → Prop} (hg : o.guard = none) (x : Operand) (ho : o.op = .buildSlice 46 1 #[(0, x)])
    (f : Nat → Nat) (hx : a.eval x = .agg (bv f))
    (h : wpList Try.prog ops Q rest (a.put o.dst (.slice (some ⟨w.heap.size, 0, none⟩) 1 1)) (w.alloc (.cells (bv f) 36))) : wpList Try.prog ops Q (o :: rest) a w :=
  wpList_plain hg fun _ hK => wp_one x ho f hx (hK _ _ h)
theorem blocks_one (W : World) (b m : Nat) (hb : b = W.heap.size) (hm : m < 2 ^ 128) : Blocks (W.alloc (.cells (bv (byt m)) 36)) (some ⟨b, 0, none⟩) 1 [m] := by
  subst hb
  refine Blocks.block (l := [m]) (heap_alloc_new W _) (by simp) (by simp [hm]) (fun j hj i hi => ?_)
  match j, hj with
  | 0, _ => rw [Nat.zero_mul, Nat.zero_add]; exact bv_get hi
theorem ownB_one (W : World) (base b m : Nat) (hb : b = W.heap.size) (hbase : base ≤ b) (hm : m < 2 ^ 128) : OwnB (W.alloc (.cells (bv (byt m)) 36)) base (.slice (some ⟨b, 0, none⟩) 1 1) [m] := by
  subst hb
  refine ⟨⟨blkCells_len _, .inr ⟨W.heap.size, 1, bv (byt m), rfl, hbase, heap_alloc_new W _, by simp, by unfold maxLen; omega, by rw [bv_size], ?_⟩⟩, by simp, by simp [hm]⟩
  rfl
/-- a slice of slices of bytes that reads as lists -/
def RowsB (w : World) (A : Option Addr) (n : Nat) (ls : List (List Nat)) : Prop :=
  ls.length = n ∧ n ≤ maxLen ∧ ∀ j, j < n → ∃ ad B m c l, A = some ad ∧ ls[j]? = some l ∧ w.cell? (ad.add j) = some (.slice B m c) ∧ m ≤ c ∧ Bytes w B m l
theorem RowsB.below {w w' : World} {A : Option Addr} {n : Nat} {ls : List (List Nat)} (h : RowsB w A n ls) (hb : Below w.heap.size w w') : RowsB w' A n ls :=
  ⟨h.1, h.2.1, fun j hj => by
    obtain ⟨ad, B, m, c, l, hA, hl, hc, hm, hB⟩ := h.2.2 j hj
    refine ⟨ad, B, m, c, l, hA, hl, (hb.cell ?_).trans hc, hm, hB.below hb⟩
    exact World.block_lt_of_cell? w _ hc⟩
theorem rows_of_trod {H : Type} {enc : TypeId × Value → H} {W : World} {a : Option Addr} {len cap : Nat} {d : DataW H} {p : List MemPlace} {s : Bool} {B : Nat}
    (h : DataW.Trod enc Try.prog W B (fun _ => true) s 44 (.slice a len cap) d p) : ∃ ls, len ≤ cap ∧ RowsB W a len ls := by
  obtain ⟨fuel, hf⟩ := h
  rcases Go.Deep.open_int_rows Try.underlying44 Try.underlying29 Try.underlying5 (by kernel_rfl) (by kernel_rfl) hf with ⟨hcs, _⟩ | ⟨x, l, c, A, L, C, Z, hcs, _, hl, hm, _, hrow⟩
  · simp [Value.cells] at hcs
    obtain ⟨rfl, rfl, rfl⟩ := hcs
    exact ⟨[], Nat.le_refl _, rfl, Nat.zero_le _, fun j hj => absurd hj (by omega)⟩
  · simp [Value.cells] at hcs
    obtain ⟨rfl, rfl, rfl⟩ := hcs
    refine ⟨(List.range len).map fun r => ((Z r).take (L r)).map Int.toNat, hl, by simp, by omega, fun j hj => ?_⟩
    obtain ⟨h1, h2, h3, h4, h5, h6, h7⟩ := hrow j (by omega)
    refine ⟨x, A j, L j, C j, _, rfl, by rw [List.getElem?_map, List.getElem?_range hj]; rfl, h1, h2, by simp [h4]; omega, by omega, fun y hy => ?_, fun h0 => ?_⟩
    · obtain ⟨z, hz, rfl⟩ := List.mem_map.mp hy
      have := bounds_u8 (h5 z (List.mem_of_mem_take hz))
      omega
    · rcases hA : A j with _ | ad
      · have := h6 hA; omega
      · obtain ⟨_, hc⟩ := h7 ad hA
        refine ⟨ad, rfl, fun q hq => ?_⟩
        have hqz : q < (Z j).length := by omega
        have hb := bounds_u8 (h5 (Z j)[q] (List.getElem_mem hqz))
        rw [hc q (by omega)]
        congr 2
        simp [List.getD, List.getElem?_map, hq, List.getElem?_eq_getElem hqz]
        omega
end Go.Proofs.Ytibfihjcjohadaa
