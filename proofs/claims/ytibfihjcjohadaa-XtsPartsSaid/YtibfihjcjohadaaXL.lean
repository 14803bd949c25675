/-
  What the laws on sectors use: parts of rows, blocks of sectors held against each other, strings that differ. Conditions: bytes.
-/
import Derived.Test.YtibfihjcjohadaaL26
namespace Go.Proofs.Ytibfihjcjohadaa
open Go.RowKit Go.Op
open Twk (byt)
/-- two strings that are held against each other for unlikeness -/
theorem exec_strNe {o : Oper} {a : Act} (x y : Operand) (ho : o.op = .binOp .neq 9 x y 9) (s t : ByteArray) (b : Bool) (hb : decide (s = t) = b) (hx : a.eval x = .string s) (hy : a.eval y = .string t) (w : World) :
    (execOp a.eval o).run Try.prog w = .ok (.value (.bool (!b))) w := by
  subst hb
  have e : (s.toList == t.toList) = decide (s = t) := by
    rw [Lib.toList_data, Lib.toList_data, Bool.eq_iff_iff, beq_iff_eq, decide_eq_true_iff]
    refine ⟨fun h => ?_, fun h => by rw [h]⟩
    cases s; cases t
    exact congrArg _ (Array.toList_inj.mp h)
  unfold execOp
  simp only [ho, hx, hy]
  go_simp
theorem wpList_strNe {ops : Array Oper} {rest : List Oper} {o : Oper} {a : Act} {w : World} {Q : Exit → Act → World → Prop} (hgd : o.guard = none) (x y : Operand) (ho : o.op = .binOp .neq 9 x y 9)
    (s t : ByteArray) (b : Bool) (hb : decide (s = t) = b) (hx : a.eval x = .string s) (hy : a.eval y = .string t)
    (h : wpList Try.prog ops Q rest (a.put o.dst (.bool (!b))) w) : wpList Try.prog ops Q (o :: rest) a w := by
  refine wpList_plain hgd fun K hK => ?_
  unfold Oper.wp
  rw [exec_strNe x y ho s t b hb hx hy w]
  exact hK _ _ h
/-- a part of a row of bytes -/
theorem Bytes.part {w : World} {ad : Addr} {n q : Nat} {l : List Nat} (hl : Bytes w (some ad) n l) (hq : q + 16 ≤ n) : Bytes w (some (ad.add q)) 16 ((l.drop q).take 16) :=
  (hl.drop (h := q) (by omega)).take (by omega)
theorem getD_part {l : List Nat} {q j : Nat} (hj : j < 16) : ((l.drop q).take 16).getD j 0 = l.getD (q + j) 0 := by
  rw [List.getD_eq_getElem?_getD, List.getD_eq_getElem?_getD, List.getElem?_take, if_pos hj, List.getElem?_drop]
/-- a sector's block is a part of its row -/
theorem xtL_part (b : Bool) (k1 k2 : List Nat) (u : Nat) (d : List Nat) {n i : Nat} (hi : i < n) : ((xtL b k1 k2 u d n).drop (16 * i)).take 16 = listB (byt (xtB b k1 k2 u d i)) := by
  refine ext16 (n := 1) (by rw [List.length_take, List.length_drop, xtL_len]; omega) (by rw [listB_len]) fun k j hk hj => ?_
  have hk : k = 0 := by omega
  subst hk
  rw [show 16 * 0 + j = j by omega, getD_part hj, xtL_get b k1 k2 u d n i j hi hj, listB_get hj]
theorem listB_byt {x y : Nat} (hx : x < 2 ^ 128) (hy : y < 2 ^ 128) : decide (strL (listB (byt x)) = strL (listB (byt y))) = decide (x = y) := by
  rw [strEq_lists (listB_lt (Twk.byt_lt x)) (listB_lt (Twk.byt_lt y)), decide_eq_decide]
  refine ⟨fun h => byt_ext hx hy fun i hi => ?_, fun h => by rw [h]⟩
  rw [← listB_get (f := byt x) hi, h, listB_get hi]
theorem xtB_inj {k1 k2 : List Nat} {u : Nat} {d e : List Nat} {i : Nat} (hd : ∀ x ∈ d, x < 256) (he : ∀ x ∈ e, x < 256) : xtB false k1 k2 u d i = xtB false k1 k2 u e i ↔ datN d i = datN e i := by
  rw [xtB_forth, xtB_forth]
  constructor
  · intro h
    have h2 : encN k1 (datN d i ^^^ twN k2 u i) = encN k1 (datN e i ^^^ twN k2 u i) := by
      have h3 := congrArg (· ^^^ twN k2 u i) h
      simpa only [Nat.xor_assoc, Nat.xor_self, Nat.xor_zero] using h3
    have h4 := encN_inj k1 (Twk.xor_lt128 (datN_lt hd i) (twN_lt _ _ _)) (Twk.xor_lt128 (datN_lt he i) (twN_lt _ _ _)) h2
    have h5 := congrArg (· ^^^ twN k2 u i) h4
    simpa only [Nat.xor_assoc, Nat.xor_self, Nat.xor_zero] using h5
  · intro h; rw [h]
/-- one byte turned: just its block is another one -/
theorem datN_set {d : List Nat} {k v i : Nat} (hd : ∀ x ∈ d, x < 256) (hv : v < 256) (hk : k < d.length) (hne : v ≠ d.getD k 0) : datN d i = datN (d.set k v) i ↔ i ≠ k / 16 := by
  have hd2 : ∀ x ∈ d.set k v, x < 256 := fun x hx => by
    rcases List.mem_or_eq_of_mem_set hx with hx | rfl
    · exact hd x hx
    · exact hv
  constructor
  · rintro h rfl
    have e : byt (datN d (k / 16)) (k % 16) = byt (datN (d.set k v) (k / 16)) (k % 16) := by rw [h]
    rw [datN, datN, byt_numF (datF_lt hd _) 16 _ (by omega), byt_numF (datF_lt hd2 _) 16 _ (by omega), datF, datF, show 16 * (k / 16) + k % 16 = k by omega, set_get hk, if_pos rfl] at e
    exact hne e.symm
  · intro h
    refine byt_ext (datN_lt hd _) (datN_lt hd2 _) fun j hj => ?_
    rw [datN, datN, byt_numF (datF_lt hd _) 16 _ hj, byt_numF (datF_lt hd2 _) 16 _ hj, datF, datF, set_get hk, if_neg (by omega)]
end Go.Proofs.Ytibfihjcjohadaa
