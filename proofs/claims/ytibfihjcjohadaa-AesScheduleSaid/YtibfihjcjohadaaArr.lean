/-
  Arrays of sixteen bytes: as values, as blocks in memory; one cell read, one cell stored, the whole read and stored. No condition.
-/
import Derived.Test.YtibfihjcjohadaaOwn
import Derived.Test.YtibfihjcjohadaaPTwk
import Derived.WalkSpells
import Derived.WalkLawsBesides
import Derived.Lib.Hide
import Derived.Deep.WholeRow
namespace Go.Proofs.Ytibfihjcjohadaa
open Go.RowKit Go.Op

/-- the cells of a block of bytes -/
def bv (f : Nat → Nat) : Array Value := ((List.range 16).map fun i => cellOf (f i)).toArray
theorem bv_size (f : Nat → Nat) : (bv f).size = 16 := by simp [bv]
theorem bv_get {f : Nat → Nat} {k : Nat} (hk : k < 16) : (bv f)[k]? = some (cellOf (f k)) := by
  simp [bv, List.getElem?_map, List.getElem?_range hk]
theorem bv_one (f : Nat → Nat) : (bv f).all (·.oneCell') = true := by
  rw [Array.all_eq_true_iff_forall_mem]
  intro v hv
  simp only [bv, List.mem_toArray, List.mem_map] at hv
  obtain ⟨i, _, rfl⟩ := hv
  rfl
theorem bv_congr {f g : Nat → Nat} (h : ∀ i, i < 16 → f i = g i) : bv f = bv g := by
  unfold bv
  congr 1
  apply List.map_congr_left
  intro i hi
  rw [h i (List.mem_range.mp hi)]
theorem bv_inj {f g : Nat → Nat} (h : bv f = bv g) : ∀ i, i < 16 → f i = g i := by
  intro i hi
  have h1 := bv_get (f := f) hi
  rw [h, bv_get hi] at h1
  injection h1 with h1
  injection h1 with _ h1
  omega
/-- one byte put in another's place -/
def upd (f : Nat → Nat) (k x : Nat) : Nat → Nat := fun i => if i = k then x else f i
theorem bv_upd {f : Nat → Nat} {k x : Nat} : (bv f).setIfInBounds k (cellOf x) = bv (upd f k x) := by
  apply Array.ext_getElem?
  intro i
  rw [Array.getElem?_setIfInBounds]
  by_cases hi : i < 16
  · rw [bv_get hi, bv_get hi]
    unfold upd
    by_cases h : k = i
    · subst h; rw [if_pos rfl, if_pos (by rw [bv_size]; exact hi), if_pos rfl]
    · rw [if_neg h, if_neg (fun h' => h h'.symm)]
  · rw [Array.getElem?_eq_none (by rw [bv_size]; omega), Array.getElem?_eq_none (by rw [bv_size]; omega)]
    split
    · rename_i h; subst h; rw [if_neg (by rw [bv_size]; omega)]
    · rfl
/-- block g of the memory holds the bytes f -/
def Arr (w : World) (g : Nat) (f : Nat → Nat) : Prop := w.heap[g]? = some (.cells (bv f) 36 (0, 0))
theorem Arr.lt {w : World} {g : Nat} {f : Nat → Nat} (h : Arr w g f) : g < w.heap.size := by
  rcases Nat.lt_or_ge g w.heap.size with hlt | hge
  · exact hlt
  · unfold Arr at h; rw [Array.getElem?_eq_none hge] at h; cases h
theorem Arr.cell {w : World} {g k : Nat} {f : Nat → Nat} (h : Arr w g f) (hk : k < 16) : w.cell? ⟨g, k, none⟩ = some (.int .u8 ((f k : Nat) : Int)) := by
  rw [cell_of_row w g k _ 36 (0, 0) h]; exact bv_get hk
theorem Arr.free {w : World} {g : Nat} {f : Nat → Nat} (h : Arr w g f) (k : Nat) : w.frozen? ⟨g, k, none⟩ = false := by
  unfold Arr at h
  simp [World.frozen?, h]
theorem Arr.set {w : World} {g k x : Nat} {f : Nat → Nat} (h : Arr w g f) : Arr (w.setCell ⟨g, k, none⟩ (.int .u8 (x : Int))) g (upd f k x) := by
  unfold Arr at h ⊢
  rw [← bv_upd]
  simp [World.setCell, Array.getElem?_modify, h]
theorem Arr.far {w : World} {g : Nat} {f : Nat → Nat} (h : Arr w g f) {p : Addr} (hp : g ≠ p.block) (u : Value) : Arr (w.setCell p u) g f := (Below.heap_setCell w p u g hp).trans h
theorem Arr.alloc {w : World} {g : Nat} {f : Nat → Nat} (h : Arr w g f) (o : Obj) : Arr (w.alloc o) g f := (Below.heap_alloc w o g h.lt).trans h
theorem Arr.drew {w : World} {g : Nat} {f : Nat → Nat} (h : Arr w g f) : Arr w.drew g f := h
theorem Arr.drewN {w : World} {g : Nat} {f : Nat → Nat} (h : Arr w g f) (n : Nat) : Arr (w.drewN n) g f := h
theorem Arr.below {w w' : World} {g B : Nat} {f : Nat → Nat} (h : Arr w g f) (hb : Below B w w') (hg : g < B) : Arr w' g f := (hb.block g hg).trans h
theorem Arr.new (w : World) (f : Nat → Nat) (g : Nat) (hg : g = w.heap.size) : Arr (w.alloc (.cells (bv f) 36)) g f := by subst hg; exact heap_alloc_new w _
theorem Arr.zero (w : World) (g : Nat) (hg : g = w.heap.size) : Arr (w.alloc (.cells #[.int .u8 0, .int .u8 0, .int .u8 0, .int .u8 0, .int .u8 0, .int .u8 0, .int .u8 0, .int .u8 0, .int .u8 0, .int .u8 0, .int .u8 0, .int .u8 0, .int .u8 0, .int .u8 0, .int .u8 0, .int .u8 0] 36)) g (fun _ => 0) := by
  subst hg
  exact heap_alloc_new w _
theorem Arr.setRow {w : World} {g : Nat} {f h : Nat → Nat} (ha : Arr w g f) : Arr (w.setRow g (bv h)) g h := by
  unfold Arr at ha ⊢
  simp [World.setRow, Array.getElem?_modify, ha]
theorem Arr.setRow_far {w : World} {g g' : Nat} {f : Nat → Nat} {c : Array Value} (ha : Arr w g f) (hne : g ≠ g') : Arr (w.setRow g' c) g f := by
  unfold Arr at ha ⊢
  simp [World.setRow, Array.getElem?_modify, Ne.symm hne, ha]
theorem Arr.congr {w : World} {g : Nat} {f h : Nat → Nat} (ha : Arr w g f) (e : ∀ i, i < 16 → f i = h i) : Arr w g h := by
  unfold Arr at ha ⊢
  rw [ha, bv_congr e]
theorem below_setRow {B : Nat} {a w : World} (h : Below B a w) {g : Nat} (hg : B ≤ g) (c : Array Value) : Below B a (w.setRow g c) :=
  ⟨h.os, h.tape, h.output, by simpa [World.setRow] using h.size, fun k hk => by
    rw [← h.block k hk]
    simp only [World.setRow]
    rw [Array.getElem?_modify, if_neg (by omega)]⟩
theorem run_index {f : Nat → Nat} {k : Nat} (hk : k < 16) (w : World) : (Instr.index 36 (.agg (bv f)) (.int .i64 (k : Int))).run Try.prog w = .ok (.int .u8 ((f k : Nat) : Int)) w := by
  obtain ⟨i5, hi, hz0, hz1, hz2⟩ := info_parts try_info5
  have hb := bv_get (f := f) hk
  unfold Instr.index
  simp [asIntOf, run_underlying Try.underlying36, part, isAgg, run_underlying Try.underlying5, sizeOf, typeInfo, hi, hz1, hb]
  omega
theorem size36 : (Try.prog.info? 36).map (·.size) = some 16 := by kernel_rfl
theorem size36' (f : Nat → Nat) : (Try.prog.info? 36).map (·.size) = some (bv f).size := by rw [bv_size]; exact size36
/-- a whole array is read -/
theorem wp_load_arr {ops : Array Oper} {rest : List Oper} {o : Oper} {a : Act} {w : World} {Q : Exit → Act → World → Prop} (hgd : o.guard = none) (x : Operand) (ho : o.op = .load 36 x)
    (g : Nat) (f : Nat → Nat) (hx : a.eval x = .pointer (some ⟨g, 0, none⟩)) (ha : Arr w g f)
    (h : wpList Try.prog ops Q rest (a.put o.dst (.agg (bv f))) w) : wpList Try.prog ops Q (o :: rest) a w :=
  wpList_load_row hgd 36 x ho g hx 36 (bv f) (0, 0) _ ha Try.underlying36 rfl (size36' f) h
/-- a whole array is stored -/
theorem wp_store_arr {ops : Array Oper} {rest : List Oper} {o : Oper} {a : Act} {w : World} {Q : Exit → Act → World → Prop} (hgd : o.guard = none) (x y : Operand) (ho : o.op = .store 36 x y)
    (g : Nat) (f k : Nat → Nat) (hx : a.eval x = .pointer (some ⟨g, 0, none⟩)) (hy : a.eval y = .agg (bv k)) (ha : Arr w g f)
    (h : wpList Try.prog ops Q rest (a.put o.dst undef) (w.setRow g (bv k))) : wpList Try.prog ops Q (o :: rest) a w :=
  wpList_store_row hgd 36 x y ho g (bv k) hx hy 36 (bv f) ha (size36' k) (by rw [bv_size, bv_size]) (bv_one k) h
/-- a result that lies in an array's block -/
theorem results_arr {fn : Func} {p : Tmp} (h : fn.results = #[.cell p 36]) (tmps : Array Value) (w : World) (g : Nat) (f : Nat → Nat)
    (hp : tmps.getD p undef = .pointer (some ⟨g, 0, none⟩)) (ha : Arr w g f) : (results fn tmps).run Try.prog w = .ok (.agg (bv f)) w :=
  results_cell_row h tmps w g 36 (bv f) (0, 0) _ hp ha Try.underlying36 rfl (size36' f)
end Go.Proofs.Ytibfihjcjohadaa
