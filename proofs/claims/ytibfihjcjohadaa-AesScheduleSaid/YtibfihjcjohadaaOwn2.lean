/-
  Rows of bytes and of words that the call itself has made, and what an append leaves of them, with the place where the row lies. Conditions: lengths below 2^40.
-/
import Derived.Test.YtibfihjcjohadaaOwn
import Derived.Maps.AppendAt
import Derived.Lib.Hide
namespace Go.Proofs.Ytibfihjcjohadaa
open Go.RowKit Go.Op
theorem add_off (b o j : Nat) : (⟨b, o, none⟩ : Addr).add j = ⟨b, o + j, none⟩ := by unfold Addr.add; split <;> simp_all
theorem none_or (o : Option Nat) : o = none ∨ o ≠ none := by cases o <;> simp
theorem grown_below {a w w' : World} {B : Nat} {v : Value} (hb : Below B a w) (hg : w.grownBy w' v.ownBlock) (hB : B ≤ w.heap.size) (hv : ∀ k, v.ownBlock = some k → B ≤ k) : Below B a w' :=
  ⟨hg.os.trans hb.os, hg.tape.trans hb.tape, hg.output.trans hb.output, Nat.le_trans hb.size hg.size, fun i hi => (hg.block i (by omega) (fun e => by have := hv i e.symm; omega)).trans (hb.block i hi)⟩
/-- words in a row in memory, nil let in -/
def Words (w : World) (A : Option Addr) (n : Nat) (l : List Nat) : Prop :=
  l.length = n ∧ n ≤ maxLen ∧ (∀ x ∈ l, x < 4294967296) ∧ (0 < n → ∃ ad, A = some ad ∧ ∀ j, j < n → w.cell? (ad.add j) = some (.int .u32 ((l.getD j 0 : Nat) : Int)))
theorem Words.keep {w w' : World} {A : Option Addr} {n : Nat} {l : List Nat} (h : Words w A n l) (hk : ∀ p : Addr, p.block < w.heap.size → w'.cell? p = w.cell? p) : Words w' A n l :=
  ⟨h.1, h.2.1, h.2.2.1, fun hn => by
    obtain ⟨ad, hA, hc⟩ := h.2.2.2 hn
    refine ⟨ad, hA, fun j hj => ?_⟩
    have h1 := hc j hj
    exact (hk _ (World.block_lt_of_cell? w _ h1)).trans h1⟩
theorem Words.below {w w' : World} {A : Option Addr} {n : Nat} {l : List Nat} (h : Words w A n l) (hb : Below w.heap.size w w') : Words w' A n l := h.keep fun _ hp => hb.cell hp
theorem Words.alloc {w : World} {A : Option Addr} {n : Nat} {l : List Nat} (h : Words w A n l) (o : Obj) : Words (w.alloc o) A n l := h.keep fun p hp => World.cell?_alloc_lt w o p hp
/-- the value v owns the words l, in a block from base on -/
def OwnW (w : World) (base : Nat) (v : Value) (l : List Nat) : Prop :=
  w.ownsRow base 50 1 v l.length (l.map fun x : Nat => Value.int .u32 (x : Int)) ∧ l.length ≤ 1099511627776 ∧ ∀ x ∈ l, x < 4294967296
theorem ownW_nil (w : World) (base : Nat) : OwnW w base (.slice none 0 0) [] := ⟨World.ownsRow_nil _ _ _ _, by simp, by simp⟩
theorem OwnW.kept {w w' : World} {base : Nat} {v : Value} {l : List Nat} {row : Option Nat} (h : OwnW w base v l) (hg : w.grownBy w' row) (hne : v.ownBlock = none ∨ v.ownBlock ≠ row) : OwnW w' base v l := ⟨h.1.kept hg hne, h.2⟩
theorem OwnW.alloc {w : World} {base : Nat} {v : Value} {l : List Nat} (h : OwnW w base v l) (o : Obj) : OwnW (w.alloc o) base v l := ⟨h.1.alloc o, h.2⟩
theorem OwnW.below {w w' : World} {base B : Nat} {v : Value} {l : List Nat} (h : OwnW w base v l) (hb : Below B w w') (hB : w.heap.size ≤ B) : OwnW w' base v l :=
  h.kept (row := none) ⟨hb.os, hb.tape, hb.output, hb.size, fun i hi _ => hb.block i (by omega)⟩ (none_or _)
theorem OwnW.ge {w : World} {base : Nat} {v : Value} {l : List Nat} (h : OwnW w base v l) : ∀ k, v.ownBlock = some k → base ≤ k ∧ k < w.heap.size := h.1.lt
theorem try_info50 : (Try.prog.info? 50).map (fun i => (i.zero, i.size, i.bytes)) = some (some (.int .u32 0), 1, 4) := by kernel_rfl

/-- 'append(s, x...)' onto a row of the call's own: x nil, empty or not -/
theorem run_appA (w : World) (ty : TypeId) (base : Nat) (v : Value) (l : List Nat) (hown : Own w base v l)
    (A : Option Addr) (m c : Nat) (news : List Nat) (hnews : Bytes w A m news) (hlen : l.length + m ≤ 1099511627776) (hbase : base ≤ w.heap.size) :
    ∃ v' w', (Builtin.append_ #[29, 29] ty #[v, .slice A m c]).run Try.prog w = .ok v' w' ∧ Own w' base v' (l ++ news) ∧ w.grownBy w' v.ownBlock ∧ (v'.ownBlock = v.ownBlock ∨ v'.ownBlock = some w.heap.size) := by
  obtain ⟨i, hi, hz0, hz1, hz2⟩ := info_parts try_info5
  rcases A with _ | ad
  · have hm : m = 0 := by
      rcases Nat.eq_zero_or_pos m with h0 | h0
      · exact h0
      · obtain ⟨_, hA, _⟩ := hnews.2.2.2 h0
        cases hA
    subst hm
    have hn : news = [] := List.eq_nil_of_length_eq_zero hnews.1
    subst hn
    refine ⟨v, w, ?_, by simpa using hown, World.grownBy.refl w _, .inl rfl⟩
    rcases hown.1.2 with ⟨rfl, _⟩ | ⟨g, cap, cur, rfl, _, _, hnc, _⟩
    · simp [Builtin.append_, run_underlying Try.underlying29, sizeOf, typeInfo, hi, Builtin.lenOf, Builtin.firstCells]
    · simp [Builtin.append_, run_underlying Try.underlying29, sizeOf, typeInfo, hi, Builtin.lenOf, Builtin.firstCells, hnc, storeCells]
  · have hcells : ∀ j u, (news.map fun x : Nat => Value.int .u8 (x : Int))[j]? = some u → w.cell? (ad.add j) = some u := by
      intro j u hj
      have hjm : j < m := by
        have := (List.getElem?_eq_some_iff.mp hj).1
        simp [hnews.1] at this; exact this
      obtain ⟨ad', hA, hc⟩ := hnews.2.2.2 (by omega)
      have hA := Option.some.inj hA
      subst hA
      rw [hc j hjm, ← hj]
      have hjl : j < news.length := by rw [hnews.1]; exact hjm
      simp [List.getD, List.getElem?_eq_getElem hjl]
    have hone : ∀ u ∈ (news.map fun x : Nat => Value.int .u8 (x : Int)), u.oneCell' = true := by
      intro u hu
      obtain ⟨y, _, rfl⟩ := List.mem_map.mp hu
      rfl
    obtain ⟨v', w', hr, h2, h3, _, h5⟩ := run_append_own_at (P := Try.prog) w base 29 ty 5 i (.int .u8 0) 1 1 Try.underlying29 hi hz0 hz1 hz2 rfl (by decide) v l.length (l.map fun x : Nat => Value.int .u8 (x : Int)) hown.1 ad m c (news.map fun x : Nat => Value.int .u8 (x : Int)) (by simp [hnews.1]) hcells hone (by unfold maxLen; omega) (by omega) hbase
    refine ⟨v', w', hr, ⟨?_, by rw [List.length_append, hnews.1]; exact hlen, fun x hx => ?_⟩, h3, h5⟩
    · rw [List.length_append, hnews.1, List.map_append]; exact h2
    · rcases List.mem_append.mp hx with hx | hx
      · exact hown.2.2 x hx
      · exact hnews.2.2.1 x hx
set_option maxRecDepth 100000 in
theorem wp_appA {ops : Array Oper} {rest : List Oper} {o : Oper} {a : Act} {w : World} {Q : Exit → Act → World → Prop} (hgd : o.guard = none) (s x : Operand)
    (ho : o.op = .call { callee := .builtin .append, args := #[s, x], argTypes := #[29, 29] })
    (base : Nat) (v : Value) (l : List Nat) (hs : a.eval s = v) (hown : Own w base v l)
    (A : Option Addr) (m c : Nat) (news : List Nat) (hx : a.eval x = .slice A m c) (hnews : Bytes w A m news) (hlen : l.length + m ≤ 1099511627776) (hbase : base ≤ w.heap.size)
    (h : ∀ v' w', Own w' base v' (l ++ news) → w.grownBy w' v.ownBlock → (v'.ownBlock = v.ownBlock ∨ v'.ownBlock = some w.heap.size) → wpList Try.prog ops Q rest (a.put o.dst v') w') : wpList Try.prog ops Q (o :: rest) a w := by
  refine wpList_plain hgd fun K hK => ?_
  obtain ⟨v', w', hr, h2, h3, h5⟩ := run_appA w o.type base v l hown A m c news hnews hlen hbase
  unfold Oper.wp execOp
  simp only [ho, resolve, invoke, builtin, Sem.run_bind, Sem.run_pure, Result.andThen_ok, List.map_toArray, List.map_cons, List.map_nil, hs, hx, hr]
  exact hK _ _ (h v' w' h2 h3 h5)
theorem Own.rd {w : World} {base m c : Nat} {A : Option Addr} {l : List Nat} (h : Own w base (.slice A m c) l) : Bytes w A m l := by
  obtain ⟨hr, hle, hx⟩ := h
  have hml : l.length ≤ maxLen := by unfold maxLen; omega
  rcases hr.2 with ⟨hv, h0⟩ | ⟨g, cap, cur, hv, _, hg, _, _, hs, ht⟩
  · have : l = [] := List.eq_nil_of_length_eq_zero h0
    subst this
    injection hv with e1 e2 e3
    subst e1 e2
    exact ⟨rfl, by unfold maxLen; omega, by simp, fun h => absurd h (by omega)⟩
  · injection hv with e1 e2 e3
    subst e1 e2
    refine ⟨rfl, hml, hx, fun _ => ⟨_, rfl, fun j hj => ?_⟩⟩
    rw [add_off, Nat.zero_add, cell_of_row w g j cur 5 (0, 0) hg]
    have h1 : (cur.toList.take (l.length * 1))[j]? = (l.map fun x : Nat => Value.int .u8 (x : Int))[j]? := by rw [ht]
    rw [List.getElem?_take, if_pos (by omega)] at h1
    rw [← Array.getElem?_toList, h1]
    simp [List.getD, List.getElem?_eq_getElem hj]
theorem Own.len {w : World} {base m c : Nat} {A : Option Addr} {l : List Nat} (h : Own w base (.slice A m c) l) : m = l.length := h.rd.1.symm
theorem Own.form {w : World} {base : Nat} {v : Value} {l : List Nat} (h : Own w base v l) : ∃ A c, v = .slice A l.length c := by
  rcases h.1.2 with ⟨rfl, h0⟩ | ⟨g, cap, cur, rfl, _⟩
  · rw [h0]; exact ⟨_, _, rfl⟩
  · exact ⟨_, _, rfl⟩
/-- a row of one, just made -/
theorem ownA_one (W : World) (base b x : Nat) (hb : b = W.heap.size) (hbase : base ≤ b) (hx : x < 256) : Own (W.alloc (.cells #[.int .u8 (x : Int)] 5)) base (.slice (some ⟨b, 0, none⟩) 1 1) [x] := by
  subst hb
  exact ⟨⟨rfl, .inr ⟨W.heap.size, 1, _, rfl, hbase, heap_alloc_new W _, by simp, by unfold maxLen; omega, by simp, by simp⟩⟩, by simp, by simp [hx]⟩

/-- 'append(s, x...)' onto a row of the call's own: x nil, empty or not -/
theorem run_appW (w : World) (ty : TypeId) (base : Nat) (v : Value) (l : List Nat) (hown : OwnW w base v l)
    (A : Option Addr) (m c : Nat) (news : List Nat) (hnews : Words w A m news) (hlen : l.length + m ≤ 1099511627776) (hbase : base ≤ w.heap.size) :
    ∃ v' w', (Builtin.append_ #[70, 70] ty #[v, .slice A m c]).run Try.prog w = .ok v' w' ∧ OwnW w' base v' (l ++ news) ∧ w.grownBy w' v.ownBlock ∧ (v'.ownBlock = v.ownBlock ∨ v'.ownBlock = some w.heap.size) := by
  obtain ⟨i, hi, hz0, hz1, hz2⟩ := info_parts try_info50
  rcases A with _ | ad
  · have hm : m = 0 := by
      rcases Nat.eq_zero_or_pos m with h0 | h0
      · exact h0
      · obtain ⟨_, hA, _⟩ := hnews.2.2.2 h0
        cases hA
    subst hm
    have hn : news = [] := List.eq_nil_of_length_eq_zero hnews.1
    subst hn
    refine ⟨v, w, ?_, by simpa using hown, World.grownBy.refl w _, .inl rfl⟩
    rcases hown.1.2 with ⟨rfl, _⟩ | ⟨g, cap, cur, rfl, _, _, hnc, _⟩
    · simp [Builtin.append_, run_underlying Try.underlying70, sizeOf, typeInfo, hi, Builtin.lenOf, Builtin.firstCells]
    · simp [Builtin.append_, run_underlying Try.underlying70, sizeOf, typeInfo, hi, Builtin.lenOf, Builtin.firstCells, hnc, storeCells]
  · have hcells : ∀ j u, (news.map fun x : Nat => Value.int .u32 (x : Int))[j]? = some u → w.cell? (ad.add j) = some u := by
      intro j u hj
      have hjm : j < m := by
        have := (List.getElem?_eq_some_iff.mp hj).1
        simp [hnews.1] at this; exact this
      obtain ⟨ad', hA, hc⟩ := hnews.2.2.2 (by omega)
      have hA := Option.some.inj hA
      subst hA
      rw [hc j hjm, ← hj]
      have hjl : j < news.length := by rw [hnews.1]; exact hjm
      simp [List.getD, List.getElem?_eq_getElem hjl]
    have hone : ∀ u ∈ (news.map fun x : Nat => Value.int .u32 (x : Int)), u.oneCell' = true := by
      intro u hu
      obtain ⟨y, _, rfl⟩ := List.mem_map.mp hu
      rfl
    obtain ⟨v', w', hr, h2, h3, _, h5⟩ := run_append_own_at (P := Try.prog) w base 70 ty 50 i (.int .u32 0) 1 4 Try.underlying70 hi hz0 hz1 hz2 rfl (by decide) v l.length (l.map fun x : Nat => Value.int .u32 (x : Int)) hown.1 ad m c (news.map fun x : Nat => Value.int .u32 (x : Int)) (by simp [hnews.1]) hcells hone (by unfold maxLen; omega) (by omega) hbase
    refine ⟨v', w', hr, ⟨?_, by rw [List.length_append, hnews.1]; exact hlen, fun x hx => ?_⟩, h3, h5⟩
    · rw [List.length_append, hnews.1, List.map_append]; exact h2
    · rcases List.mem_append.mp hx with hx | hx
      · exact hown.2.2 x hx
      · exact hnews.2.2.1 x hx
set_option maxRecDepth 100000 in
theorem wp_appW {ops : Array Oper} {rest : List Oper} {o : Oper} {a : Act} {w : World} {Q : Exit → Act → World → Prop} (hgd : o.guard = none) (s x : Operand)
    (ho : o.op = .call { callee := .builtin .append, args := #[s, x], argTypes := #[70, 70] })
    (base : Nat) (v : Value) (l : List Nat) (hs : a.eval s = v) (hown : OwnW w base v l)
    (A : Option Addr) (m c : Nat) (news : List Nat) (hx : a.eval x = .slice A m c) (hnews : Words w A m news) (hlen : l.length + m ≤ 1099511627776) (hbase : base ≤ w.heap.size)
    (h : ∀ v' w', OwnW w' base v' (l ++ news) → w.grownBy w' v.ownBlock → (v'.ownBlock = v.ownBlock ∨ v'.ownBlock = some w.heap.size) → wpList Try.prog ops Q rest (a.put o.dst v') w') : wpList Try.prog ops Q (o :: rest) a w := by
  refine wpList_plain hgd fun K hK => ?_
  obtain ⟨v', w', hr, h2, h3, h5⟩ := run_appW w o.type base v l hown A m c news hnews hlen hbase
  unfold Oper.wp execOp
  simp only [ho, resolve, invoke, builtin, Sem.run_bind, Sem.run_pure, Result.andThen_ok, List.map_toArray, List.map_cons, List.map_nil, hs, hx, hr]
  exact hK _ _ (h v' w' h2 h3 h5)
theorem OwnW.rd {w : World} {base m c : Nat} {A : Option Addr} {l : List Nat} (h : OwnW w base (.slice A m c) l) : Words w A m l := by
  obtain ⟨hr, hle, hx⟩ := h
  have hml : l.length ≤ maxLen := by unfold maxLen; omega
  rcases hr.2 with ⟨hv, h0⟩ | ⟨g, cap, cur, hv, _, hg, _, _, hs, ht⟩
  · have : l = [] := List.eq_nil_of_length_eq_zero h0
    subst this
    injection hv with e1 e2 e3
    subst e1 e2
    exact ⟨rfl, by unfold maxLen; omega, by simp, fun h => absurd h (by omega)⟩
  · injection hv with e1 e2 e3
    subst e1 e2
    refine ⟨rfl, hml, hx, fun _ => ⟨_, rfl, fun j hj => ?_⟩⟩
    rw [add_off, Nat.zero_add, cell_of_row w g j cur 50 (0, 0) hg]
    have h1 : (cur.toList.take (l.length * 1))[j]? = (l.map fun x : Nat => Value.int .u32 (x : Int))[j]? := by rw [ht]
    rw [List.getElem?_take, if_pos (by omega)] at h1
    rw [← Array.getElem?_toList, h1]
    simp [List.getD, List.getElem?_eq_getElem hj]
theorem OwnW.len {w : World} {base m c : Nat} {A : Option Addr} {l : List Nat} (h : OwnW w base (.slice A m c) l) : m = l.length := h.rd.1.symm
theorem OwnW.form {w : World} {base : Nat} {v : Value} {l : List Nat} (h : OwnW w base v l) : ∃ A c, v = .slice A l.length c := by
  rcases h.1.2 with ⟨rfl, h0⟩ | ⟨g, cap, cur, rfl, _⟩
  · rw [h0]; exact ⟨_, _, rfl⟩
  · exact ⟨_, _, rfl⟩
/-- a row of one, just made -/
theorem ownW_one (W : World) (base b x : Nat) (hb : b = W.heap.size) (hbase : base ≤ b) (hx : x < 4294967296) : OwnW (W.alloc (.cells #[.int .u32 (x : Int)] 50)) base (.slice (some ⟨b, 0, none⟩) 1 1) [x] := by
  subst hb
  exact ⟨⟨rfl, .inr ⟨W.heap.size, 1, _, rfl, hbase, heap_alloc_new W _, by simp, by unfold maxLen; omega, by simp, by simp⟩⟩, by simp, by simp [hx]⟩
end Go.Proofs.Ytibfihjcjohadaa
