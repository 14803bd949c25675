/-
  Small laws that many walks want: a fact that no tactic lays open, a guard that says yes, a variable too long to be written out. No condition.
-/
import Derived.Test.YtibfihjcjohadaaOwn2
import Derived.Deep.OwnRows
namespace Go.Proofs.Ytibfihjcjohadaa
open Go.RowKit Go.Op
/-- a fact that no tactic lays open -/
structure Box (p : Prop) : Prop where
  out : p
theorem below_alloc1 (w : World) (o : Obj) : Below w.heap.size w (w.alloc o) := (Below.refl _ _).alloc (Nat.le_refl _) _
theorem wpList_unguard {P : Program} {ops : Array Oper} {Q : Exit → Act → World → Prop} {a : Act} {w : World} {rest : List Oper} {d : Option Tmp} {op : Op} {ty : TypeId} {ps : String} {af : Array Edge} {g : Option (Nat × Bool)}
    (hw : Region.wanted ⟨d, op, ty, ps, af, g⟩ (yielded ops a.tmps) = true) (h : wpList P ops Q (⟨d, op, ty, ps, af, none⟩ :: rest) a w) : wpList P ops Q (⟨d, op, ty, ps, af, g⟩ :: rest) a w := by
  unfold wpList at h ⊢
  rw [if_pos hw]
  rw [if_pos (by simp [Region.wanted])] at h
  exact h
/-- a variable that is too long to be written out -/
theorem wpList_allocT {ops : Array Oper} {rest : List Oper} {o : Oper} {a : Act} {w : World} {Q : Exit → Act → World → Prop} (hgd : o.guard = none) (T : TypeId) (ho : o.op = .alloc T) (ob : Obj)
    (hrun : (Instr.alloc T true (.tuple #[])).run Try.prog w = .ok (.pointer (some ⟨w.heap.size, 0, none⟩)) (w.alloc ob))
    (h : wpList Try.prog ops Q rest (a.put o.dst (.pointer (some ⟨w.heap.size, 0, none⟩))) (w.alloc ob)) : wpList Try.prog ops Q (o :: rest) a w := by
  refine wpList_plain hgd fun K hK => ?_
  unfold Oper.wp execOp
  simp only [ho, Sem.run_bind, Sem.run_pure, Result.andThen_ok, hrun]
  exact hK _ _ h
theorem rowIs_below {w w' : World} {b B : Nat} {t : TypeId} {n : Nat} {f : Nat → Value} (h : w.rowIs b t n f) (hb : Below B w w') (hB : b < B) : w'.rowIs b t n f := h.of_block (hb.block b hB)
end Go.Proofs.Ytibfihjcjohadaa
