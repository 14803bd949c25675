/-
  Two and three blocks put into a new row, in a plain region and in one that draws its order; what a region that draws reads of whole arrays. No condition but that blocks lie below 2^128.
-/
import Derived.Test.YtibfihjcjohadaaXor
import Derived.Deep.RegionHeld3
import Derived.Great.BuildSlice
namespace Go.Proofs.Ytibfihjcjohadaa
open Go.RowKit Go.Op
open Twk (byt dbl hlv tm byt_lt dbl_lt hlv_lt tm_lt up down xor_lt128 byt_xor)
theorem info36 : (Try.prog.info? 36).map (fun i => (i.zero, i.size, i.bytes)) = some (some (.agg (bv (fun _ => 0))), 16, 16) := by kernel_rfl
theorem fill_two (f g : Nat → Nat) : Instr.fill (fun i => some (i * 16, 16)) ((Array.range (2 * 16)).map ((Value.agg (bv (fun _ => 0))).cells[· % (Value.agg (bv (fun _ => 0))).cells.size]!)) [(0, .agg (bv f)), (1, .agg (bv g))] = some (bv f ++ bv g) := by kernel_rfl
theorem fill_three (f g h : Nat → Nat) : Instr.fill (fun i => some (i * 16, 16)) ((Array.range (3 * 16)).map ((Value.agg (bv (fun _ => 0))).cells[· % (Value.agg (bv (fun _ => 0))).cells.size]!)) [(0, .agg (bv f)), (1, .agg (bv g)), (2, .agg (bv h))] = some (bv f ++ bv g ++ bv h) := by kernel_rfl
theorem wp_two {o : Oper} {a : Act} {w : World} {K : Act → World → Prop} {Q : Exit → Act → World → Prop} (x y : Operand) (ho : o.op = .buildSlice 46 2 #[(0, x), (1, y)])
    (f g : Nat → Nat) (hx : a.eval x = .agg (bv f)) (hy : a.eval y = .agg (bv g))
    (h : K (a.put o.dst (.slice (some ⟨w.heap.size, 0, none⟩) 2 2)) (w.alloc (.cells (bv f ++ bv g) 36))) : o.wp Try.prog a w K Q := by
  obtain ⟨i, hi, hz0, hz1, hz2⟩ := info_parts info36
  refine wp_buildSlice 46 36 2 _ ho (bv f ++ bv g) i _ Try.underlying46 hi hz0 ?_ ?_ ?_ h
  · rw [hz1]; decide
  · rw [hz1]; decide
  · rw [hz1]
    simp only [List.map_toArray, List.map_cons, List.map_nil, hx, hy]
    exact fill_two f g
theorem wp_three {o : Oper} {a : Act} {w : World} {K : Act → World → Prop} {Q : Exit → Act → World → Prop} (x y z : Operand) (ho : o.op = .buildSlice 46 3 #[(0, x), (1, y), (2, z)])
    (f g k : Nat → Nat) (hx : a.eval x = .agg (bv f)) (hy : a.eval y = .agg (bv g)) (hz : a.eval z = .agg (bv k))
    (h : K (a.put o.dst (.slice (some ⟨w.heap.size, 0, none⟩) 3 3)) (w.alloc (.cells (bv f ++ bv g ++ bv k) 36))) : o.wp Try.prog a w K Q := by
  obtain ⟨i, hi, hz0, hz1, hz2⟩ := info_parts info36
  refine wp_buildSlice 46 36 3 _ ho (bv f ++ bv g ++ bv k) i _ Try.underlying46 hi hz0 ?_ ?_ ?_ h
  · rw [hz1]; decide
  · rw [hz1]; decide
  · rw [hz1]
    simp only [List.map_toArray, List.map_cons, List.map_nil, hx, hy, hz]
    exact fill_three f g k
theorem wpList_two {ops : Array Oper} {rest : List Oper} {o : Oper} {a : Act} {w : World} {Q : Exit → Act → World → Prop} (hg : o.guard = none) (x y : Operand) (ho : o.op = .buildSlice 46 2 #[(0, x), (1, y)])
    (f g : Nat → Nat) (hx : a.eval x = .agg (bv f)) (hy : a.eval y = .agg (bv g))
    (h : wpList Try.prog ops Q rest (a.put o.dst (.slice (some ⟨w.heap.size, 0, none⟩) 2 2)) (w.alloc (.cells (bv f ++ bv g) 36))) : wpList Try.prog ops Q (o :: rest) a w :=
  wpList_plain hg fun _ hK => wp_two x y ho f g hx hy (hK _ _ h)
theorem wpList_three {ops : Array Oper} {rest : List Oper} {o : Oper} {a : Act} {w : World} {Q : Exit → Act → World → Prop} (hg : o.guard = none) (x y z : Operand) (ho : o.op = .buildSlice 46 3 #[(0, x), (1, y), (2, z)])
    (f g k : Nat → Nat) (hx : a.eval x = .agg (bv f)) (hy : a.eval y = .agg (bv g)) (hz : a.eval z = .agg (bv k))
    (h : wpList Try.prog ops Q rest (a.put o.dst (.slice (some ⟨w.heap.size, 0, none⟩) 3 3)) (w.alloc (.cells (bv f ++ bv g ++ bv k) 36))) : wpList Try.prog ops Q (o :: rest) a w :=
  wpList_plain hg fun _ hK => wp_three x y z ho f g k hx hy hz (hK _ _ h)
theorem Blocks.block {W : World} {b : Nat} {t : TypeId} {l : List Nat} {cs : Array Value} {fz : Nat × Nat} (hb : W.heap[b]? = some (.cells cs t fz)) (hm : l.length ≤ 1099511627776) (hx : ∀ x ∈ l, x < 2 ^ 128)
    (hc : ∀ j, j < l.length → ∀ i, i < 16 → cs[j * 16 + i]? = some (cellOf (byt (l.getD j 0) i))) : Blocks W (some ⟨b, 0, none⟩) l.length l :=
  ⟨rfl, hm, hx, fun _ => ⟨b, 0, rfl, fun j hj i v hv => by
    have hi : i < 16 := by have := (List.getElem?_eq_some_iff.mp hv).1; rwa [bl_len] at this
    rw [cell_of_row W b _ cs t fz hb, Nat.zero_add, hc j hj i hi, ← hv]
    simp [bl, List.getElem?_map, List.getElem?_range hi]⟩⟩
theorem app_left {f g : Nat → Nat} {i : Nat} (hi : i < 16) : (bv f ++ bv g)[0 * 16 + i]? = some (cellOf (f i)) := by
  rw [Nat.zero_mul, Nat.zero_add, Array.getElem?_append_left (by rw [bv_size]; exact hi), bv_get hi]
theorem app_right {f g : Nat → Nat} {i : Nat} (hi : i < 16) : (bv f ++ bv g)[1 * 16 + i]? = some (cellOf (g i)) := by
  rw [Nat.one_mul, Array.getElem?_append_right (by rw [bv_size]; omega), bv_size, show 16 + i - 16 = i by omega, bv_get hi]
theorem blocks_two (W : World) (b m n : Nat) (hb : b = W.heap.size) (hm : m < 2 ^ 128) (hn : n < 2 ^ 128) :
    Blocks (W.alloc (.cells (bv (byt m) ++ bv (byt n)) 36)) (some ⟨b, 0, none⟩) 2 [m, n] := by
  subst hb
  refine Blocks.block (l := [m, n]) (heap_alloc_new W _) (by simp) (by simp [hm, hn]) (fun j hj i hi => ?_)
  match j, hj with
  | 0, _ => exact app_left hi
  | 1, _ => exact app_right hi
theorem blocks_three (W : World) (b m n k : Nat) (hb : b = W.heap.size) (hm : m < 2 ^ 128) (hn : n < 2 ^ 128) (hk : k < 2 ^ 128) :
    Blocks (W.alloc (.cells (bv (byt m) ++ bv (byt n) ++ bv (byt k)) 36)) (some ⟨b, 0, none⟩) 3 [m, n, k] := by
  subst hb
  have hs : (bv (byt m) ++ bv (byt n)).size = 32 := by rw [Array.size_append, bv_size, bv_size]
  refine Blocks.block (l := [m, n, k]) (heap_alloc_new W _) (by simp) (by simp [hm, hn, hk]) (fun j hj i hi => ?_)
  match j, hj with
  | 0, _ => rw [Array.getElem?_append_left (by rw [hs]; omega)]; exact app_left hi
  | 1, _ => rw [Array.getElem?_append_left (by rw [hs]; omega)]; exact app_right hi
  | 2, _ => rw [Array.getElem?_append_right (by rw [hs]; omega), hs, show 2 * 16 + i - 32 = i by omega, bv_get hi]; rfl
theorem blocks_nil (w : World) : Blocks w none 0 [] := ⟨rfl, by omega, by simp, fun h => absurd h (by omega)⟩
theorem Arr.range {w : World} {g : Nat} {f : Nat → Nat} (h : Arr w g f) : w.rangeAt g 0 (bl f) := fun j v hv => by
  have hj : j < 16 := by have := (List.getElem?_eq_some_iff.mp hv).1; rwa [bl_len] at this
  rw [Nat.zero_add, h.cell hj, ← hv]
  simp [bl, List.getElem?_map, List.getElem?_range hj]
/-- a whole array, in a region that draws its order -/
theorem yields_arr {ops : Array Oper} {S : World → Prop} {op : Oper} {a : Act} (hw : Region.wanted op (yielded ops a.tmps) = true) (x : Operand) (ho : op.op = .load 36 x)
    (g : Nat) (f : Nat → Nat) (hx : a.eval x = .pointer (some ⟨g, 0, none⟩)) (hS : ∀ w, S w → Arr w g f) : YieldsIf Try.prog ops S op (.agg (bv f)) a :=
  yieldsIf_load_mid hw 36 x ho g 0 hx (bl f) _ (fun w h => (hS w h).range) Try.underlying36 rfl (by rw [bl_len]; exact size36)
/-- two equal blocks are equal, in a region that draws its order -/
theorem yields_same {ops : Array Oper} {S : World → Prop} {op : Oper} {a : Act} (hw : Region.wanted op (yielded ops a.tmps) = true) (x y : Operand) (ho : op.op = .binOp .eql 36 x y 36)
    (f : Nat → Nat) (hx : a.eval x = .agg (bv f)) (hy : a.eval y = .agg (bv f)) : YieldsIf Try.prog ops S op (.bool true) a :=
  .inl ⟨hw, fun w _ => by
    have hs := run_same f w
    have hg := guard36
    unfold execOp
    simp only [ho, hx, hy]
    go_simp⟩
end Go.Proofs.Ytibfihjcjohadaa
