/-
  Long arrays of bytes as values: what they hold, how they are read, stored, taken apart. No condition beside the index's bound.
-/
import Derived.Test.YtibfihjcjohadaaRBox
import Derived.Test.YtibfihjcjohadaaArr
import Derived.Deep.MidRow
import Derived.Deep.RegionHeld3
namespace Go.Proofs.Ytibfihjcjohadaa
open Go.RowKit Go.Op
/-- n bytes as cells -/
def cellsN (n : Nat) (f : Nat → Nat) : Array Value := ((List.range n).map fun i => cellOf (f i)).toArray
theorem cellsN_size (n : Nat) (f : Nat → Nat) : (cellsN n f).size = n := by simp [cellsN]
theorem cellsN_get {n : Nat} {f : Nat → Nat} {k : Nat} (hk : k < n) : (cellsN n f)[k]? = some (cellOf (f k)) := by
  simp [cellsN, List.getElem?_map, List.getElem?_range hk]
theorem cellsN_one (n : Nat) (f : Nat → Nat) : (cellsN n f).all (·.oneCell') = true := by
  rw [Array.all_eq_true_iff_forall_mem]
  intro v hv
  simp only [cellsN, List.mem_toArray, List.mem_map] at hv
  obtain ⟨i, _, rfl⟩ := hv
  rfl
theorem cellsN_congr {n : Nat} {f g : Nat → Nat} (h : ∀ i, i < n → f i = g i) : cellsN n f = cellsN n g := by
  unfold cellsN
  congr 1
  apply List.map_congr_left
  intro i hi
  rw [h i (List.mem_range.mp hi)]
theorem rowIs_heap {w : World} {b t n : Nat} {f : Nat → Nat} (h : w.rowIs b t n (bCell f)) : w.heap[b]? = some (.cells (cellsN n f) t (0, 0)) := by
  obtain ⟨c, hb, hn, hc⟩ := h
  have e : c = cellsN n f := by
    apply Array.ext_getElem?
    intro i
    by_cases hi : i < n
    · rw [hc i hi, cellsN_get hi]; rfl
    · rw [Array.getElem?_eq_none (by omega), Array.getElem?_eq_none (by rw [cellsN_size]; omega)]
  rw [← e]; exact hb
theorem heap_rowIs {w : World} {b t n : Nat} {f : Nat → Nat} (h : w.heap[b]? = some (.cells (cellsN n f) t (0, 0))) : w.rowIs b t n (bCell f) :=
  ⟨_, h, cellsN_size _ _, fun _ hi => cellsN_get hi⟩
theorem size53 : (Try.prog.info? 53).map (·.size) = some 256 := by kernel_rfl
theorem size53' (f : Nat → Nat) : (Try.prog.info? 53).map (·.size) = some (cellsN 256 f).size := by rw [cellsN_size]; exact size53
theorem size88 : (Try.prog.info? 88).map (·.size) = some 255 := by kernel_rfl
theorem size88' (f : Nat → Nat) : (Try.prog.info? 88).map (·.size) = some (cellsN 255 f).size := by rw [cellsN_size]; exact size88
theorem run_index53 {f : Nat → Nat} {k : Nat} (hk : k < 256) (w : World) : (Instr.index 53 (.agg (cellsN 256 f)) (.int .i64 (k : Int))).run Try.prog w = .ok (.int .u8 ((f k : Nat) : Int)) w := by
  obtain ⟨i5, hi, hz0, hz1, hz2⟩ := info_parts try_info5
  have hb := cellsN_get (f := f) hk
  unfold Instr.index
  simp [asIntOf, run_underlying Try.underlying53, part, isAgg, run_underlying Try.underlying5, sizeOf, typeInfo, hi, hz1, hb]
  omega
theorem run_index88 {f : Nat → Nat} {k : Nat} (hk : k < 255) (w : World) : (Instr.index 88 (.agg (cellsN 255 f)) (.int .i64 (k : Int))).run Try.prog w = .ok (.int .u8 ((f k : Nat) : Int)) w := by
  obtain ⟨i5, hi, hz0, hz1, hz2⟩ := info_parts try_info5
  have hb := cellsN_get (f := f) hk
  unfold Instr.index
  simp [asIntOf, run_underlying Try.underlying88, part, isAgg, run_underlying Try.underlying5, sizeOf, typeInfo, hi, hz1, hb]
  omega
theorem wp_load53 {ops : Array Oper} {rest : List Oper} {o : Oper} {a : Act} {w : World} {Q : Exit → Act → World → Prop} (hgd : o.guard = none) (x : Operand) (ho : o.op = .load 53 x)
    (g : Nat) (f : Nat → Nat) (hx : a.eval x = .pointer (some ⟨g, 0, none⟩)) (ha : w.rowIs g 53 256 (bCell f))
    (h : wpList Try.prog ops Q rest (a.put o.dst (.agg (cellsN 256 f))) w) : wpList Try.prog ops Q (o :: rest) a w :=
  wpList_load_row hgd 53 x ho g hx 53 (cellsN 256 f) (0, 0) _ (rowIs_heap ha) Try.underlying53 rfl (size53' f) h
theorem wp_load88 {ops : Array Oper} {rest : List Oper} {o : Oper} {a : Act} {w : World} {Q : Exit → Act → World → Prop} (hgd : o.guard = none) (x : Operand) (ho : o.op = .load 88 x)
    (g : Nat) (f : Nat → Nat) (hx : a.eval x = .pointer (some ⟨g, 0, none⟩)) (ha : w.rowIs g 88 255 (bCell f))
    (h : wpList Try.prog ops Q rest (a.put o.dst (.agg (cellsN 255 f))) w) : wpList Try.prog ops Q (o :: rest) a w :=
  wpList_load_row hgd 88 x ho g hx 88 (cellsN 255 f) (0, 0) _ (rowIs_heap ha) Try.underlying88 rfl (size88' f) h
/-- a whole array of 256, in a region that draws its order -/
theorem yields53 {ops : Array Oper} {S : World → Prop} {op : Oper} {a : Act} (hw : Region.wanted op (yielded ops a.tmps) = true) (x : Operand) (ho : op.op = .load 53 x)
    (g : Nat) (f : Nat → Nat) (hx : a.eval x = .pointer (some ⟨g, 0, none⟩)) (hS : ∀ w, S w → w.rowIs g 53 256 (bCell f)) : YieldsIf Try.prog ops S op (.agg (cellsN 256 f)) a :=
  yieldsIf_load_mid hw 53 x ho g 0 hx ((List.range 256).map fun i => cellOf (f i)) _ (fun w h j v hv => by
    have hj : j < 256 := by have := (List.getElem?_eq_some_iff.mp hv).1; simpa using this
    rw [Nat.zero_add, World.rowIs.cell (hS w h) hj, ← hv, List.getElem?_map, List.getElem?_range hj]; rfl) Try.underlying53 rfl (by rw [List.length_map, List.length_range]; exact size53)
/-- a whole array of 256 is stored, in a region that draws its order -/
theorem wpo_store53 {o : Oper} {a : Act} {w : World} {K : Act → World → Prop} {Q : Exit → Act → World → Prop} (x y : Operand) (ho : o.op = .store 53 x y)
    (g : Nat) (f k : Nat → Nat) (hx : a.eval x = .pointer (some ⟨g, 0, none⟩)) (hy : a.eval y = .agg (cellsN 256 k)) (ha : w.rowIs g 53 256 (bCell f))
    (h : K (a.put o.dst undef) (w.setRow g (cellsN 256 k))) : o.wp Try.prog a w K Q :=
  wp_store_row 53 x y ho g (cellsN 256 k) hx hy 53 (cellsN 256 f) (rowIs_heap ha) (size53' k) (by rw [cellsN_size, cellsN_size]) (cellsN_one 256 k) h
theorem rowIs_setRow {w : World} {g t n : Nat} {f k : Nat → Nat} (h : w.rowIs g t n (bCell f)) : (w.setRow g (cellsN n k)).rowIs g t n (bCell k) :=
  heap_rowIs (setRow_heap w g _ _ t (0, 0) (rowIs_heap h))
theorem rowIs_setRow_far {w : World} {g g' t n : Nat} {f : Nat → Value} {c : Array Value} (h : w.rowIs g t n f) (hne : g ≠ g') : (w.setRow g' c).rowIs g t n f := h.of_block (setRow_other w g' g c hne)
/-- two results that lie in arrays' blocks -/
theorem results_two53 {fn : Func} {p q : Tmp} (h : fn.results = #[.cell p 53, .cell q 53]) (tmps : Array Value) (w : World) (g1 g2 : Nat) (f1 f2 : Nat → Nat)
    (hp : tmps.getD p undef = .pointer (some ⟨g1, 0, none⟩)) (hq : tmps.getD q undef = .pointer (some ⟨g2, 0, none⟩)) (h1 : w.rowIs g1 53 256 (bCell f1)) (h2 : w.rowIs g2 53 256 (bCell f2)) :
    (results fn tmps).run Try.prog w = .ok (.tuple #[.agg (cellsN 256 f1), .agg (cellsN 256 f2)]) w := by
  have l1 := run_loadVar_row (P := Try.prog) w g1 53 53 (cellsN 256 f1) (0, 0) _ (rowIs_heap h1) Try.underlying53 rfl (size53' f1)
  have l2 := run_loadVar_row (P := Try.prog) w g2 53 53 (cellsN 256 f2) (0, 0) _ (rowIs_heap h2) Try.underlying53 rfl (size53' f2)
  have hp' : tmps[p]?.getD undef = .pointer (some ⟨g1, 0, none⟩) := by simpa using hp
  have hq' : tmps[q]?.getD undef = .pointer (some ⟨g2, 0, none⟩) := by simpa using hq
  simp [results, h, hp', hq', asAddr, l1, l2]
end Go.Proofs.Ytibfihjcjohadaa
