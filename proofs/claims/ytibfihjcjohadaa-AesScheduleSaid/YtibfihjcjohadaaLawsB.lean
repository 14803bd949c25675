/-
  Laws at an operation of a region that draws its order: two blocks held against each other. No condition.
-/
import Derived.Test.YtibfihjcjohadaaAw6
import Derived.Test.YtibfihjcjohadaaLaws
namespace Go.Proofs.Ytibfihjcjohadaa
open Go.RowKit Go.Op
theorem yields_eqB {ops : Array Oper} {S : World → Prop} {op : Oper} {a : Act} (hw : Region.wanted op (yielded ops a.tmps) = true) (x y : Operand) (ho : op.op = .binOp .eql 36 x y 36)
    (f g : Nat → Nat) (b : Bool) (hb : eqB f g = b) (hx : a.eval x = .agg (bv f)) (hy : a.eval y = .agg (bv g)) : YieldsIf Try.prog ops S op (.bool b) a :=
  .inl ⟨hw, fun w _ => by rw [exec_eqB x y ho f g hx hy w, hb]⟩
theorem eqB_encK {l : List Nat} {f g : Nat → Nat} (hf : ∀ i, f i < 256) (hg : ∀ i, g i < 256) : eqB (encK l f) (encK l g) = eqB f g := by
  rw [Bool.eq_iff_iff, eqB_iff, eqB_iff]
  constructor
  · exact encK_inj hf hg
  · intro h
    exact bv_inj (encK_congr (l := l) h)
end Go.Proofs.Ytibfihjcjohadaa
