/-
  A row of bytes that the call itself has made, and what an append leaves of it. Conditions: lengths below 2^40.
-/
import Derived.Test.YtibfihjcjohadaaProg
import Derived.Test.YtibfihjcjohadaaByt
import Derived.WalkKit
import Derived.Laws.AppendOwnNone
import Derived.Deep.AppendLies
namespace Go.Proofs.Ytibfihjcjohadaa
open Go.RowKit Go.Op

theorem bytes_one (W : World) (b x : Nat) (t : TypeId) (hb : b = W.heap.size) (hx : x < 256) : Bytes (W.alloc (.cells #[.int .u8 (x : Int)] t)) (some ⟨b, 0, none⟩) 1 [x] := by
  subst hb
  refine Bytes.block (l := [x]) (heap_alloc_new W _) (by unfold maxLen; simp) (by simp [hx]) (fun j hj => ?_)
  match j, hj with
  | 0, _ => rfl
/-- a byte as a cell -/
abbrev cellOf (x : Nat) : Value := .int .u8 (x : Int)
/-- the value v owns the bytes l, in a block from base on -/
def Own (w : World) (base : Nat) (v : Value) (l : List Nat) : Prop :=
  w.ownsRow base 5 1 v l.length (l.map cellOf) ∧ l.length ≤ 1099511627776 ∧ ∀ x ∈ l, x < 256
theorem own_nil (w : World) (base : Nat) : Own w base (.slice none 0 0) [] := ⟨World.ownsRow_nil _ _ _ _, by simp, by simp⟩
theorem Own.alloc {w : World} {base : Nat} {v : Value} {l : List Nat} (h : Own w base v l) (o : Obj) : Own (w.alloc o) base v l := ⟨h.1.alloc o, h.2⟩
theorem Own.kept {w w' : World} {base : Nat} {v : Value} {l : List Nat} {row : Option Nat} (h : Own w base v l) (hg : w.grownBy w' row) (hne : v.ownBlock = none ∨ v.ownBlock ≠ row) : Own w' base v l := ⟨h.1.kept hg hne, h.2⟩
theorem Own.below {w w' : World} {base B : Nat} {v : Value} {l : List Nat} (h : Own w base v l) (hb : Below B w w') (hB : w.heap.size ≤ B) : Own w' base v l := by
  refine h.kept (row := none) ⟨hb.os, hb.tape, hb.output, hb.size, fun i hi _ => hb.block i (by omega)⟩ ?_
  rcases hv : v.ownBlock with _ | g
  · exact .inl rfl
  · exact .inr (by simp)
theorem Own.bytes {w : World} {base : Nat} {v : Value} {l : List Nat} (h : Own w base v l) : ∃ A c, v = .slice A l.length c ∧ Bytes w A l.length l := by
  obtain ⟨hr, hle, hx⟩ := h
  have hml : l.length ≤ maxLen := by unfold maxLen; omega
  rcases hr.2 with ⟨rfl, h0⟩ | ⟨g, cap, cur, rfl, _, hg, _, _, hs, ht⟩
  · have : l = [] := List.eq_nil_of_length_eq_zero h0
    subst this
    exact ⟨none, 0, rfl, bytes_nil w⟩
  · refine ⟨_, _, rfl, Bytes.block hg hml hx (fun j hj => ?_)⟩
    have h1 : (cur.toList.take (l.length * 1))[j]? = (l.map cellOf)[j]? := by rw [ht]
    rw [List.getElem?_take, if_pos (by omega)] at h1
    rw [← Array.getElem?_toList, h1]
    simp [List.getD, List.getElem?_eq_getElem hj]
theorem Own.ge {w : World} {base : Nat} {v : Value} {l : List Nat} (h : Own w base v l) : ∀ k, v.ownBlock = some k → base ≤ k ∧ k < w.heap.size := h.1.lt

theorem try_info5 : (Try.prog.info? 5).map (fun i => (i.zero, i.size, i.bytes)) = some (some (.int .u8 0), 1, 1) := by kernel_rfl
theorem run_app_nil (w : World) (base : Nat) (ty : TypeId) (i : TypeInfo) (hi : Try.prog.info? 5 = some i) (v : Value) (n : Nat) (xs : List Value) (hown : w.ownsRow base 5 1 v n xs) (c : Nat) :
    (Builtin.append_ #[29, 29] ty #[v, .slice none 0 c]).run Try.prog w = .ok v w := by
  rcases hown.2 with ⟨rfl, rfl⟩ | ⟨g, cap, cur, rfl, _, _, hnc, _⟩
  · simp [Builtin.append_, run_underlying Try.underlying29, sizeOf, typeInfo, hi, Builtin.lenOf, Builtin.firstCells]
  · simp [Builtin.append_, run_underlying Try.underlying29, sizeOf, typeInfo, hi, Builtin.lenOf, Builtin.firstCells, hnc, storeCells]
/-- 'append(s, x...)' of bytes onto a row of the call's own: x nil, empty or not -/
theorem wp_app {ops : Array Oper} {rest : List Oper} {o : Oper} {a : Act} {w : World} {Q : Exit → Act → World → Prop} (hgd : o.guard = none) (s x : Operand)
    (ho : o.op = .call { callee := .builtin .append, args := #[s, x], argTypes := #[29, 29] })
    (base : Nat) (v : Value) (l : List Nat) (hs : a.eval s = v) (hown : Own w base v l)
    (A : Option Addr) (m c : Nat) (news : List Nat) (hx : a.eval x = .slice A m c) (hnews : Bytes w A m news) (hlen : l.length + m ≤ 1099511627776) (hbase : base ≤ w.heap.size)
    (h : ∀ v' w', Own w' base v' (l ++ news) → w.grownBy w' v.ownBlock → wpList Try.prog ops Q rest (a.put o.dst v') w') : wpList Try.prog ops Q (o :: rest) a w := by
  obtain ⟨i, hi, hz0, hz1, hz2⟩ := info_parts try_info5
  rcases A with _ | ad
  · have hm : m = 0 := by
      rcases Nat.eq_zero_or_pos m with h0 | h0
      · exact h0
      · obtain ⟨ad, hA, _⟩ := hnews.2.2.2 h0
        cases hA
    subst hm
    have hn : news = [] := List.eq_nil_of_length_eq_zero hnews.1
    subst hn
    refine wpList_plain hgd fun K hK => ?_
    have hrun := run_app_nil w base o.type i hi v _ _ hown.1 c
    have h' := h v w (by simpa using hown) (World.grownBy.refl w _)
    unfold Oper.wp
    simp [execOp, ho, resolve, invoke, builtin, hs, hx, hrun, Result.andThen]
    exact hK _ _ h'
  · refine wpList_append_own (w := w) hgd s x 29 ho base 5 i (.int .u8 0) 1 1 Try.underlying29 hi hz0 hz1 hz2 rfl (by decide) v _ _ hs hown.1 ad m c (news.map cellOf) hx ?_ ?_ ?_ ?_ ?_ hbase ?_
    · simp [hnews.1]
    · intro j u hj
      have hjm : j < m := by
        have := (List.getElem?_eq_some_iff.mp hj).1
        simp [hnews.1] at this; exact this
      obtain ⟨ad', y, hA, _, _, hy, hc⟩ := hnews.at_ hjm
      cases hA
      rw [List.getElem?_map, hy] at hj
      simp at hj
      subst hj; exact hc
    · intro u hu
      obtain ⟨y, _, rfl⟩ := List.mem_map.mp hu
      rfl
    · unfold maxLen; omega
    · omega
    · intro v' w' hown' hgrow _
      refine h v' w' ⟨by simpa [hnews.1] using hown', by rw [List.length_append, hnews.1]; exact hlen, ?_⟩ hgrow
      intro y hy
      rcases List.mem_append.mp hy with hy | hy
      · exact hown.2.2 y hy
      · exact hnews.2.2.1 y hy
end Go.Proofs.Ytibfihjcjohadaa
