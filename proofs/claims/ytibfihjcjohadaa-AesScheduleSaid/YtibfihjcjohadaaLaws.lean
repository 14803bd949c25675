/-
  Laws at an operation of a plain region: a guard that says yes, two blocks held against each other, a block of noughts. No condition.
-/
import Derived.Test.YtibfihjcjohadaaOwnB
import Derived.Test.YtibfihjcjohadaaBase
namespace Go.Proofs.Ytibfihjcjohadaa
open Go.RowKit Go.Op
open Twk (byt)
/-- are the first 16 the same? -/
def eqB (f g : Nat → Nat) : Bool := (List.range 16).all fun i => f i == g i
theorem eqB_self (f : Nat → Nat) : eqB f f = true := all_self f
theorem eqB_iff (f g : Nat → Nat) : eqB f g = true ↔ ∀ i, i < 16 → f i = g i := by
  unfold eqB
  rw [List.all_eq_true]
  constructor
  · intro h i hi; exact eq_of_beq (h i (List.mem_range.mpr hi))
  · intro h i hi; rw [h i (List.mem_range.mp hi)]; simp
theorem run_eqB (f g : Nat → Nat) (w : World) : (Op.equalIn 10000 36 (.agg (bv f)) (.agg (bv g))).run Try.prog w = .ok (eqB f g) w := run_eq16 9998 f g w
theorem exec_eqB {o : Oper} {a : Act} (x y : Operand) (ho : o.op = .binOp .eql 36 x y 36) (f g : Nat → Nat) (hx : a.eval x = .agg (bv f)) (hy : a.eval y = .agg (bv g)) (w : World) :
    (execOp a.eval o).run Try.prog w = .ok (.value (.bool (eqB f g))) w := by
  have hs := run_eqB f g w
  have hg := guard36
  unfold execOp
  simp only [ho, hx, hy]
  go_simp
/-- two blocks held against each other -/
theorem wpList_eqB {ops : Array Oper} {rest : List Oper} {o : Oper} {a : Act} {w : World} {Q : Exit → Act → World → Prop} (hgd : o.guard = none) (x y : Operand) (ho : o.op = .binOp .eql 36 x y 36)
    (f g : Nat → Nat) (hx : a.eval x = .agg (bv f)) (hy : a.eval y = .agg (bv g))
    (h : wpList Try.prog ops Q rest (a.put o.dst (.bool (eqB f g))) w) : wpList Try.prog ops Q (o :: rest) a w := by
  refine wpList_plain hgd fun K hK => ?_
  unfold Oper.wp
  rw [exec_eqB x y ho f g hx hy w]
  exact hK _ _ h
theorem wpList_same {ops : Array Oper} {rest : List Oper} {o : Oper} {a : Act} {w : World} {Q : Exit → Act → World → Prop} (hgd : o.guard = none) (x y : Operand) (ho : o.op = .binOp .eql 36 x y 36)
    (f : Nat → Nat) (hx : a.eval x = .agg (bv f)) (hy : a.eval y = .agg (bv f))
    (h : wpList Try.prog ops Q rest (a.put o.dst (.bool true)) w) : wpList Try.prog ops Q (o :: rest) a w :=
  wpList_eqB hgd x y ho f f hx hy (by rw [eqB_self]; exact h)
/-- a block of noughts -/
theorem wpList_noughts {ops : Array Oper} {rest : List Oper} {o : Oper} {a : Act} {w : World} {Q : Exit → Act → World → Prop} (hgd : o.guard = none) (ho : o.op = .build 36 #[])
    (h : wpList Try.prog ops Q rest (a.put o.dst (.agg (bv (byt 0)))) w) : wpList Try.prog ops Q (o :: rest) a w := by
  refine wpList_plain hgd fun K hK => ?_
  unfold Oper.wp execOp
  simp only [ho]
  go_simp
  exact hK _ _ h
end Go.Proofs.Ytibfihjcjohadaa
