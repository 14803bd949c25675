/-
  Long rows, the tables, aes.made, regions whose last operation stores. No condition beside the bounds.
-/
import Derived.Test.YtibfihjcjohadaaMS
import Derived.Test.YtibfihjcjohadaaMB
import Derived.Deep.MidRow
import Derived.Deep.RegionHeld3
import Derived.Test.YtibfihjcjohadaaPA
import Derived.Lib.LazyBuf
import Derived.OrdersHeld
/- Long arrays of bytes as values: what they hold, how they are read, stored, taken apart. No condition beside the index's bound. -/
namespace Go.Proofs.Ytibfihjcjohadaa
open Go.RowKit Go.Op
/-- n bytes as cells -/
def cellsN (n : Nat) (f : Nat → Nat) : Array Value := ((List.range n).map fun i => cellOf (f i)).toArray
theorem cellsN_size (n : Nat) (f : Nat → Nat) : (cellsN n f).size = n := by simp [cellsN]
theorem cellsN_get {n : Nat} {f : Nat → Nat} {k : Nat} (hk : k < n) : (cellsN n f)[k]? = some (cellOf (f k)) := by
  simp [cellsN, List.getElem?_map, List.getElem?_range hk]
theorem cellsN_one (n : Nat) (f : Nat → Nat) : (cellsN n f).all (·.oneCell') = true := by
  rw [Array.all_eq_true_iff_forall_mem]
  intro v hv
  simp only [cellsN, List.mem_toArray, List.mem_map] at hv
  obtain ⟨i, _, rfl⟩ := hv
  rfl
theorem cellsN_congr {n : Nat} {f g : Nat → Nat} (h : ∀ i, i < n → f i = g i) : cellsN n f = cellsN n g := by
  unfold cellsN
  congr 1
  apply List.map_congr_left
  intro i hi
  rw [h i (List.mem_range.mp hi)]
theorem rowIs_heap {w : World} {b t n : Nat} {f : Nat → Nat} (h : w.rowIs b t n (bCell f)) : w.heap[b]? = some (.cells (cellsN n f) t (0, 0)) := by
  obtain ⟨c, hb, hn, hc⟩ := h
  have e : c = cellsN n f := by
    apply Array.ext_getElem?
    intro i
    by_cases hi : i < n
    · rw [hc i hi, cellsN_get hi]; rfl
    · rw [Array.getElem?_eq_none (by omega), Array.getElem?_eq_none (by rw [cellsN_size]; omega)]
  rw [← e]; exact hb
theorem heap_rowIs {w : World} {b t n : Nat} {f : Nat → Nat} (h : w.heap[b]? = some (.cells (cellsN n f) t (0, 0))) : w.rowIs b t n (bCell f) :=
  ⟨_, h, cellsN_size _ _, fun _ hi => cellsN_get hi⟩
theorem size53 : (Try.prog.info? 53).map (·.size) = some 256 := by kernel_rfl
theorem size53' (f : Nat → Nat) : (Try.prog.info? 53).map (·.size) = some (cellsN 256 f).size := by rw [cellsN_size]; exact size53
theorem size88 : (Try.prog.info? 88).map (·.size) = some 255 := by kernel_rfl
theorem size88' (f : Nat → Nat) : (Try.prog.info? 88).map (·.size) = some (cellsN 255 f).size := by rw [cellsN_size]; exact size88
theorem run_index53 {f : Nat → Nat} {k : Nat} (hk : k < 256) (w : World) : (Instr.index 53 (.agg (cellsN 256 f)) (.int .i64 (k : Int))).run Try.prog w = .ok (.int .u8 ((f k : Nat) : Int)) w := by
  obtain ⟨i5, hi, hz0, hz1, hz2⟩ := info_parts try_info5
  have hb := cellsN_get (f := f) hk
  unfold Instr.index
  simp [asIntOf, run_underlying Try.underlying53, part, isAgg, run_underlying Try.underlying5, sizeOf, typeInfo, hi, hz1, hb]
  omega
theorem run_index88 {f : Nat → Nat} {k : Nat} (hk : k < 255) (w : World) : (Instr.index 88 (.agg (cellsN 255 f)) (.int .i64 (k : Int))).run Try.prog w = .ok (.int .u8 ((f k : Nat) : Int)) w := by
  obtain ⟨i5, hi, hz0, hz1, hz2⟩ := info_parts try_info5
  have hb := cellsN_get (f := f) hk
  unfold Instr.index
  simp [asIntOf, run_underlying Try.underlying88, part, isAgg, run_underlying Try.underlying5, sizeOf, typeInfo, hi, hz1, hb]
  omega
theorem wp_load53 {ops : Array Oper} {rest : List Oper} {o : Oper} {a : Act} {w : World} {Q : Exit → Act → World → Prop} (hgd : o.guard = none) (x : Operand) (ho : o.op = .load 53 x)
    (g : Nat) (f : Nat → Nat) (hx : a.eval x = .pointer (some ⟨g, 0, none⟩)) (ha : w.rowIs g 53 256 (bCell f))
    (h : wpList Try.prog ops Q rest (a.put o.dst (.agg (cellsN 256 f))) w) : wpList Try.prog ops Q (o :: rest) a w :=
  wpList_load_row hgd 53 x ho g hx 53 (cellsN 256 f) (0, 0) _ (rowIs_heap ha) Try.underlying53 rfl (size53' f) h
theorem wp_load88 {ops : Array Oper} {rest : List Oper} {o : Oper} {a : Act} {w : World} {Q : Exit → Act → World → Prop} (hgd : o.guard = none) (x : Operand) (ho : o.op = .load 88 x)
    (g : Nat) (f : Nat → Nat) (hx : a.eval x = .pointer (some ⟨g, 0, none⟩)) (ha : w.rowIs g 88 255 (bCell f))
    (h : wpList Try.prog ops Q rest (a.put o.dst (.agg (cellsN 255 f))) w) : wpList Try.prog ops Q (o :: rest) a w :=
  wpList_load_row hgd 88 x ho g hx 88 (cellsN 255 f) (0, 0) _ (rowIs_heap ha) Try.underlying88 rfl (size88' f) h
/-- a whole array of 256, in a region that draws its order -/
theorem yields53 {ops : Array Oper} {S : World → Prop} {op : Oper} {a : Act} (hw : Region.wanted op (yielded ops a.tmps) = true) (x : Operand) (ho : op.op = .load 53 x)
    (g : Nat) (f : Nat → Nat) (hx : a.eval x = .pointer (some ⟨g, 0, none⟩)) (hS : ∀ w, S w → w.rowIs g 53 256 (bCell f)) : YieldsIf Try.prog ops S op (.agg (cellsN 256 f)) a :=
  yieldsIf_load_mid hw 53 x ho g 0 hx ((List.range 256).map fun i => cellOf (f i)) _ (fun w h j v hv => by
    have hj : j < 256 := by have := (List.getElem?_eq_some_iff.mp hv).1; simpa using this
    rw [Nat.zero_add, World.rowIs.cell (hS w h) hj, ← hv, List.getElem?_map, List.getElem?_range hj]; rfl) Try.underlying53 rfl (by rw [List.length_map, List.length_range]; exact size53)
/-- a whole array of 256 is stored, in a region that draws its order -/
theorem wpo_store53 {o : Oper} {a : Act} {w : World} {K : Act → World → Prop} {Q : Exit → Act → World → Prop} (x y : Operand) (ho : o.op = .store 53 x y)
    (g : Nat) (f k : Nat → Nat) (hx : a.eval x = .pointer (some ⟨g, 0, none⟩)) (hy : a.eval y = .agg (cellsN 256 k)) (ha : w.rowIs g 53 256 (bCell f))
    (h : K (a.put o.dst undef) (w.setRow g (cellsN 256 k))) : o.wp Try.prog a w K Q :=
  wp_store_row 53 x y ho g (cellsN 256 k) hx hy 53 (cellsN 256 f) (rowIs_heap ha) (size53' k) (by rw [cellsN_size, cellsN_size]) (cellsN_one 256 k) h
theorem rowIs_setRow {w : World} {g t n : Nat} {f k : Nat → Nat} (h : w.rowIs g t n (bCell f)) : (w.setRow g (cellsN n k)).rowIs g t n (bCell k) :=
  heap_rowIs (setRow_heap w g _ _ t (0, 0) (rowIs_heap h))
theorem rowIs_setRow_far {w : World} {g g' t n : Nat} {f : Nat → Value} {c : Array Value} (h : w.rowIs g t n f) (hne : g ≠ g') : (w.setRow g' c).rowIs g t n f := h.of_block (setRow_other w g' g c hne)
/-- two results that lie in arrays' blocks -/
theorem results_two53 {fn : Func} {p q : Tmp} (h : fn.results = #[.cell p 53, .cell q 53]) (tmps : Array Value) (w : World) (g1 g2 : Nat) (f1 f2 : Nat → Nat)
    (hp : tmps.getD p undef = .pointer (some ⟨g1, 0, none⟩)) (hq : tmps.getD q undef = .pointer (some ⟨g2, 0, none⟩)) (h1 : w.rowIs g1 53 256 (bCell f1)) (h2 : w.rowIs g2 53 256 (bCell f2)) :
    (results fn tmps).run Try.prog w = .ok (.tuple #[.agg (cellsN 256 f1), .agg (cellsN 256 f2)]) w := by
  have l1 := run_loadVar_row (P := Try.prog) w g1 53 53 (cellsN 256 f1) (0, 0) _ (rowIs_heap h1) Try.underlying53 rfl (size53' f1)
  have l2 := run_loadVar_row (P := Try.prog) w g2 53 53 (cellsN 256 f2) (0, 0) _ (rowIs_heap h2) Try.underlying53 rfl (size53' f2)
  have hp' : tmps[p]?.getD undef = .pointer (some ⟨g1, 0, none⟩) := by simpa using hp
  have hq' : tmps[q]?.getD undef = .pointer (some ⟨g2, 0, none⟩) := by simpa using hq
  simp [results, h, hp', hq', asAddr, l1, l2]
end Go.Proofs.Ytibfihjcjohadaa
/- The walk of sbox.Tables: what each byte is turned into, and back, as two arrays; nothing that was there is written. -/
namespace Go.Proofs.Ytibfihjcjohadaa
open Go.RowKit Go.Op
open Fld (tw mul tw_lt xor_lt mul_lt pw npow inv inv_lt)
open Sbx (sub sub_lt back back_lt turn turn_lt lg npow3_inj npow3_lt)
/-- what the last region reads -/
structure ST (w w' : World) : Prop where
  a : w'.rowIs w.heap.size 53 256 (bCell sub)
  b : w'.rowIs (w.heap.size + 1) 53 256 (bCell back)
  bel : Below w.heap.size w w'
theorem mul3 {a : Nat} (ha : a < 256) : mul a 3 = a ^^^ tw a :=
  eq_of_beq (Fld.all256 (p := fun a => mul a 3 == a ^^^ tw a) (by decide +kernel) ha)
theorem pow3_all {a : Nat} (ha : a < 256) : a = 0 ∨ ∃ j, j < 255 ∧ npow 3 j = a := by
  rcases Sbx.lg_all ha with h | ⟨h1, h2, _⟩
  · exact .inl h
  · exact .inr ⟨_, h1, by rw [← Sbx.pw3 h1, h2]⟩
theorem inv_pow3 {k : Nat} (hk : k < 255) : npow 3 ((255 - k) % 255) = inv (npow 3 k) := by
  have h := Sbx.lg_all (npow3_lt k)
  have hl := Sbx.lg_pw hk
  rw [Sbx.pw3 hk] at hl
  rcases h with h | ⟨_, _, h3⟩
  · exfalso
    have h1 : mul (npow 3 k) (npow 3 (255 - k)) = 1 := by rw [← Fld.npow_add (by decide), show k + (255 - k) = 255 by omega, Fld.npow255 (by decide) (by decide)]
    rw [h, Fld.zero_mul (npow3_lt _)] at h1
    omega
  · rw [hl, Sbx.pw3 (Nat.mod_lt _ (by decide))] at h3; exact h3
set_option maxRecDepth 100000 in
set_option maxHeartbeats 8000000 in
theorem tables_any (w : World) :
    Calls Try.prog 93 #[] w fun e w' => e = .returned (.tuple #[.agg (cellsN 256 sub), .agg (cellsN 256 back)]) ∧ Below w.heap.size w w' := by
  have z0 := zero_cells (show Try.zeroCells53 = Array.replicate 256 (.int .u8 0) by kernel_rfl) w 53
  have z1 := zero_cells (show Try.zeroCells53 = Array.replicate 256 (.int .u8 0) by kernel_rfl) (w.alloc (.cells Try.zeroCells53 53)) 53
  have z2 := zero_cells (show Try.zeroCells88 = Array.replicate 255 (.int .u8 0) by kernel_rfl) ((w.alloc (.cells Try.zeroCells53 53)).alloc (.cells Try.zeroCells53 53)) 88
  have zb : Below w.heap.size w (((w.alloc (.cells Try.zeroCells53 53)).alloc (.cells Try.zeroCells53 53)).alloc (.cells Try.zeroCells88 88)) := (((Below.refl _ _).alloc (Nat.le_refl _) _).alloc (by simp) _).alloc (by simp; omega) _
  have y0 := (z0.alloc (.cells Try.zeroCells53 53)).alloc (.cells Try.zeroCells88 88)
  have y1 := z1.alloc (.cells Try.zeroCells88 88)
  have zs : w.heap.size + 3 ≤ (((w.alloc (.cells Try.zeroCells53 53)).alloc (.cells Try.zeroCells53 53)).alloc (.cells Try.zeroCells88 88)).heap.size := by simp
  simp only [World.size_alloc] at y1 z2
  have HT0 : ∃ s0 : Nat, Box (sub 0 = s0) ∧ Box (∀ w, Calls Try.prog 77 #[.int .u8 0] w fun e w' => e = .returned (.int .u8 (s0 : Int)) ∧ Below w.heap.size w w') := ⟨_, ⟨rfl⟩, ⟨fun w => by
    have h := turned_any 0 (by decide) w
    rw [show turn 0 = sub 0 by decide +kernel] at h
    exact h⟩⟩
  obtain ⟨s0, HS0, HT0⟩ := HT0
  clear z0 z1
  go_enter Try.func93, Try.ntmps93
  go_wp2_with fail
  revert z2 zb y0 y1 zs
  generalize ((w.alloc (.cells Try.zeroCells53 53)).alloc (.cells Try.zeroCells53 53)).alloc (.cells Try.zeroCells88 88) = w1
  intro zb z0 zs z1 z2
  go_loopw [3, 4, 9] (fun x u i wr => ∃ (k : Nat), i = .int .i64 (k : Int) ∧ k ≤ 255 ∧ x = .int .u8 ((npow 3 k : Nat) : Int) ∧ wr.rowIs w.heap.size 53 256 (bCell fun _ => 0) ∧ wr.rowIs (w.heap.size + 1) 53 256 (bCell fun _ => 0) ∧ wr.rowIs (w.heap.size + 2) 88 255 (bCell (upN k)) ∧ Below w.heap.size w wr ∧ w.heap.size + 3 ≤ wr.heap.size) (fun _ _ i _ => 255 - (intOf i).toNat)
  case atStart => exact ⟨0, rfl, by omega, rfl, z0, z1, z2, zb, zs⟩
  case round =>
    obtain ⟨k, rfl, hk, rfl, h0, h1, h2, hbel, hsz⟩ := hrel
    clear z0 z1 z2 zb zs w1
    by_cases hk5 : k = 255
    · subst hk5
      have e0 := h0.cell (show 0 < 256 by decide)
      unfold bCell at e0
      have g0 := h0.frozen 0
      go_wp2_with fail
      refine (HT0.out _).mono ?_
      rintro e w1 ⟨rfl, hb1⟩
      have h0 := rowIs_below h0 hb1 h0.lt
      have h1 := rowIs_below h1 hb1 h1.lt
      have h2 := rowIs_below h2 hb1 h2.lt
      have hsz1 := hb1.size
      have hbel := hbel.trans (hb1.mono hbel.size)
      have e0 := h0.cell (show 0 < 256 by decide)
      unfold bCell at e0
      have g0 := h0.frozen 0
      clear hb1
      go_wp2_with (first
          | ((with_reducible show wpList _ _ _ (⟨some 22, Op.load 88 (.tmp 2), _, _, _, _⟩ :: _) _ _); refine wp_load88 rfl (.tmp 2) rfl (w.heap.size + 2) (upN 255) rfl (h2.setOther (show w.heap.size + 2 ≠ w.heap.size by omega) _) ?_))
      go_loopw [23] (fun i wr => ∃ (k : Nat) (f : Nat → Nat), i = .int .i64 (k : Int) ∧ k ≤ 255 ∧ Box (f 0 = sub 0 ∧ ∀ j, j < k → f (npow 3 j) = sub (npow 3 j)) ∧ wr.rowIs w.heap.size 53 256 (bCell f) ∧ wr.rowIs (w.heap.size + 1) 53 256 (bCell fun _ => 0) ∧ wr.rowIs (w.heap.size + 2) 88 255 (bCell (upN 255)) ∧ Below w.heap.size w wr ∧ w.heap.size + 3 ≤ wr.heap.size) (fun i _ => 255 - (intOf i).toNat)
      case atStart =>
        refine ⟨0, fun j => if j = 0 then s0 else 0, rfl, by omega, ⟨by show s0 = _; exact HS0.out.symm, fun j hj => absurd hj (by omega)⟩, rowIs_set (x := s0) (g := fun j => if j = 0 then s0 else 0) h0 (fun j _ => ?_) rfl, h1.setOther (show w.heap.size + 1 ≠ w.heap.size by omega) _, h2.setOther (show w.heap.size + 2 ≠ w.heap.size by omega) _, hbel.setCell (Nat.le_refl _) _, by simp only [World.size_setCell]; omega⟩
        unfold bCell
        by_cases e : j = 0
        · rw [if_pos e, if_pos e]
        · rw [if_neg e, if_neg e]
      case round =>
        obtain ⟨k, f, rfl, hk, HF, h0', h1', h2', hbel', hsz'⟩ := hrel
        clear h0 h1 h2 hbel hsz hsz1 e0 g0 HT0
        by_cases hk5 : k = 255
        · subst hk5
          have hA : wr.rowIs w.heap.size 53 256 (bCell sub) := by
            refine h0'.congr (fun i hi => ?_)
            unfold bCell
            rcases pow3_all hi with rfl | ⟨j, hj, rfl⟩
            · rw [HF.out.1]
            · rw [HF.out.2 j hj]
          clear HF h0' HS0
          go_wp2_with (first
              | ((with_reducible show wpList _ _ _ (⟨some 36, Op.load 53 (.tmp 0), _, _, _, _⟩ :: _) _ _); refine wp_load53 rfl (.tmp 0) rfl (w.heap.size) (sub) rfl (hA) ?_))
          go_loopw [37] (fun i wr => ∃ (k : Nat) (g : Nat → Nat), i = .int .i64 (k : Int) ∧ k ≤ 256 ∧ Box (∀ j, j < k → g (sub j) = j) ∧ wr.rowIs w.heap.size 53 256 (bCell sub) ∧ wr.rowIs (w.heap.size + 1) 53 256 (bCell g) ∧ Below w.heap.size w wr) (fun i _ => 256 - (intOf i).toNat)
          case atStart => exact ⟨0, _, rfl, by omega, ⟨fun j hj => absurd hj (by omega)⟩, hA, h1', hbel'⟩
          case round =>
            obtain ⟨k, g, rfl, hk, HG, a1, a2, hb⟩ := hrel
            clear hA h1' h2' hbel' hsz'
            by_cases hk6 : k = 256
            · subst hk6
              have hB : wr.rowIs (w.heap.size + 1) 53 256 (bCell back) := by
                refine a2.congr (fun i hi => ?_)
                unfold bCell
                have := HG.out (back i) (back_lt hi)
                rw [Sbx.sub_back hi] at this
                rw [this]
              clear HG a2
              go_wp2_with fail
              have hS1 : ST w wr.drew := ⟨a1, hB, hb.drew⟩
              clear a1 hB hb
              refine wp_region_held_drew (S := ST w) (by kernel_rfl) hS1 (fun hS => ?_)
              clear hS1
              refine wpAnyH_take (i := 0) (oi := ⟨some 46, _, _, _, _, _⟩) (v := .agg (cellsN 256 sub)) rfl (by kernel_rfl) (by kernel_rfl) (by kernel_rfl) (fun _ _ _ h => h) (yields53 (by kernel_rfl) (.tmp 0) rfl w.heap.size sub rfl (fun _ h => h.a)) hS ?_
              simp only [Act.put, List.setIfInBounds_toArray, List.set_cons_zero, List.set_cons_succ]
              refine wpAnyH_take (i := 1) (oi := ⟨some 47, _, _, _, _, _⟩) (v := .agg (cellsN 256 back)) rfl (by kernel_rfl) (by kernel_rfl) (by kernel_rfl) (fun _ _ _ h => h) (yields53 (by kernel_rfl) (.tmp 1) rfl (w.heap.size + 1) back rfl (fun _ h => h.b)) hS ?_
              simp only [Act.put, List.setIfInBounds_toArray, List.set_cons_zero, List.set_cons_succ]
              refine wpAnyH_ready (rs := [2]) (by kernel_rfl) (by simp) ?_
              refine AllReadyH.cons (o := ⟨none, _, _, _, _, _⟩) rfl (fun K hK => ?_) AllReadyH.nil
              rw [if_pos (by kernel_rfl)]
              refine wpo_store53 (.tmp 0) (.tmp 46) rfl w.heap.size sub sub rfl rfl hS.a ?_
              refine hK.out _ _ ⟨rowIs_setRow hS.a, rowIs_setRow_far hS.b (by omega), below_setRow hS.bel (Nat.le_refl _) _⟩ (fun hS => ?_)
              clear hK K
              refine wpAnyH_ready (rs := [3]) (by kernel_rfl) (by simp) ?_
              refine AllReadyH.cons (o := ⟨none, _, _, _, _, _⟩) rfl (fun K hK => ?_) AllReadyH.nil
              rw [if_pos (by kernel_rfl)]
              refine wpo_store53 (.tmp 1) (.tmp 47) rfl (w.heap.size + 1) back back rfl rfl hS.b ?_
              refine hK.out _ _ ⟨rowIs_setRow_far hS.a (by omega), rowIs_setRow hS.b, below_setRow hS.bel (by omega) _⟩ (fun hS => ?_)
              clear hK K
              refine wpAnyH_done (by kernel_rfl) ?_ _
              go_wp2_with fail
              exact bodyPost_ret (results_two53 rfl _ _ w.heap.size (w.heap.size + 1) sub back rfl rfl hS.a hS.b) rfl ⟨rfl, hS.bel⟩
            · have hk2 : k < 256 := by omega
              have hi := run_index53 (f := sub) hk2
              have hs := sub_lt hk2
              have c1 := a2.cell hs
              have f1 := a2.frozen (sub k)
              unfold bCell at c1
              clear hk6
              go_wp2_with fail
              go_roundw
              case rel =>
                refine ⟨k + 1, fun y => if y = sub k then k else g y, by go_num, by omega, ⟨fun j hj => ?_⟩, a1.setOther (show w.heap.size ≠ w.heap.size + 1 by omega) _, rowIs_set (x := k) (g := fun y => if y = sub k then k else g y) a2 (fun j _ => ?_) rfl, hb.setCell (show w.heap.size ≤ w.heap.size + 1 by omega) _⟩
                · show (if sub j = sub k then k else g (sub j)) = j
                  by_cases e : j = k
                  · subst e; exact if_pos rfl
                  · rw [if_neg (fun h => e (Sbx.sub_inj (by omega) hk2 h))]; exact HG.out j (by omega)
                · unfold bCell
                  by_cases e : j = sub k
                  · rw [if_pos e, if_pos e]
                  · rw [if_neg e, if_neg e]
              case measure => simp [intOf]; omega
        · have hk2 : k < 255 := by omega
          have hi := run_index88 (f := upN 255) hk2
          rw [show upN 255 k = npow 3 k from if_pos hk2] at hi
          have hp := npow3_lt k
          have hq : ∃ q : Nat, (255 - (k : Int)) % 255 = (q : Int) ∧ q < 255 ∧ npow 3 q = inv (npow 3 k) := ⟨(255 - k) % 255, by omega, Nat.mod_lt _ (by decide), inv_pow3 hk2⟩
          obtain ⟨q, hq, hq2, hqi⟩ := hq
          have c2 := h2'.cell hq2
          unfold bCell upN at c2
          rw [if_pos hq2, hqi] at c2
          have HC : ∃ y s : Nat, inv (npow 3 k) = y ∧ Box (sub (npow 3 k) = s) ∧ Box (∀ w, Calls Try.prog 77 #[.int .u8 (y : Int)] w fun e w' => e = .returned (.int .u8 (s : Int)) ∧ Below w.heap.size w w') := ⟨_, _, rfl, ⟨rfl⟩, ⟨fun w => turned_any _ (inv_lt hp) w⟩⟩
          obtain ⟨y, s, hy, HS, HT⟩ := HC
          rw [hy] at c2
          clear hy hqi hk5
          have HI : Box (∀ j, j < 255 → npow 3 j = npow 3 k → j = k) := ⟨fun j hj h => npow3_inj hj hk2 h⟩
          have HZ : Box (npow 3 k ≠ 0) := ⟨fun h => by
            have h1 : mul (npow 3 k) (npow 3 (255 - k)) = 1 := by rw [← Fld.npow_add (by decide), show k + (255 - k) = 255 by omega, Fld.npow255 (by decide) (by decide)]
            rw [h, Fld.zero_mul (npow3_lt _)] at h1
            omega⟩
          have HFO : Box (f 0 = sub 0 ∧ ∀ j, j < k → f (npow 3 j) = sub (npow 3 j)) := HF
          have HNEW : Box (∀ j, j < k + 1 → (if npow 3 j = npow 3 k then s else f (npow 3 j)) = sub (npow 3 j)) := ⟨fun j hj => by
            by_cases e : j = k
            · subst e; rw [if_pos rfl, HS.out]
            · rw [if_neg (fun h => e (HI.out j (by omega) h))]; exact HFO.out.2 j (by omega)⟩
          clear HF HI HS
          revert hi hp HZ HNEW
          generalize hPk : npow 3 k = p
          intro hi hp HZ HNEW
          clear hPk
          go_wp2_with fail
          refine (HT.out _).mono ?_
          rintro e w1 ⟨rfl, hb1⟩
          have h0 := rowIs_below h0' hb1 h0'.lt
          have h1 := rowIs_below h1' hb1 h1'.lt
          have h2 := rowIs_below h2' hb1 h2'.lt
          have hsz1 := hb1.size
          have hbel := hbel'.trans (hb1.mono hbel'.size)
          have e0 := h0.cell hp
          unfold bCell at e0
          have g0 := h0.frozen p
          clear hb1 h0' h1' h2' hbel' c2
          go_wp2_with fail
          go_roundw
          case rel =>
            refine ⟨k + 1, fun y => if y = p then s else f y, by go_num, by omega, ⟨?_, HNEW.out⟩, rowIs_set (x := s) (g := fun y => if y = p then s else f y) h0 (fun j _ => ?_) rfl, h1.setOther (show w.heap.size + 1 ≠ w.heap.size by omega) _, h2.setOther (show w.heap.size + 2 ≠ w.heap.size by omega) _, hbel.setCell (Nat.le_refl _) _, by simp only [World.size_setCell]; omega⟩
            · show (if 0 = p then s else f 0) = sub 0
              rw [if_neg (fun h => HZ.out h.symm), HFO.out.1]
            · unfold bCell
              by_cases e : j = p
              · rw [if_pos e, if_pos e]
              · rw [if_neg e, if_neg e]
          case measure => simp [intOf]; omega
    · have hk2 : k < 255 := by omega
      have hp := npow3_lt k
      have c1 := h2.cell hk2
      have f1 := h2.frozen k
      unfold bCell at c1
      have HM : Box (npow 3 k ^^^ tw (npow 3 k) = npow 3 (k + 1)) := ⟨(mul3 hp).symm⟩
      have ht := tw_lt hp
      have hx := u8_xor_nat _ _ hp ht
      rw [HM.out] at hx
      clear hk5
      go_wp2_with fail
      refine (twice_any (npow 3 k) hp _).mono ?_
      rintro e w' ⟨rfl, rfl⟩
      go_wp2_with fail
      go_roundw
      case rel =>
        refine ⟨k + 1, by go_num, by omega, rfl, h0.setOther (show w.heap.size ≠ w.heap.size + 2 by omega) _, h1.setOther (show w.heap.size + 1 ≠ w.heap.size + 2 by omega) _, rowIs_set (x := npow 3 k) (g := upN (k + 1)) h2 (fun j _ => ?_) rfl, hbel.setCell (show w.heap.size ≤ w.heap.size + 2 by omega) _, by simpa [World.setCell] using hsz⟩
        unfold bCell upN
        by_cases e : j = k
        · subst e; rw [if_pos rfl, if_pos (by omega)]
        · rw [if_neg e]
          by_cases hj : j < k
          · rw [if_pos hj, if_pos (by omega)]
          · rw [if_neg hj, if_neg (by omega)]
      case measure => simp [intOf]; omega
end Go.Proofs.Ytibfihjcjohadaa
/- The walk of aes.made: a new block of 2560 bytes: what each byte is turned into, and back, and its products; nothing that was there is written. -/
namespace Go.Proofs.Ytibfihjcjohadaa
open Go.RowKit Go.Op
open Fld (tw mul tw_lt xor_lt mul_lt pw npow inv inv_lt)
open Sbx (sub sub_lt back back_lt)
open Aes (mx un)
/-- what the tables hold -/
def tabN (i : Nat) : Nat :=
  if i < 256 then sub i else if i < 512 then back (i - 256) else if i < 1536 then mul ((i - 512) / 4) (mx ((i - 512) % 4)) else mul ((i - 1536) / 4) (un ((i - 1536) % 4))
/-- block T is the tables -/
def TabM (w : World) (T : Nat) : Prop := w.rowIs T 101 2560 (bCell tabN)
/-- the tables, up to byte k -/
def TabP (k : Nat) (f : Nat → Nat) : Prop := (∀ j, j < 512 → f j = tabN j) ∧ ∀ a, a < k → ∀ c, c < 4 → f (512 + a * 4 + c) = tabN (512 + a * 4 + c) ∧ f (1536 + a * 4 + c) = tabN (1536 + a * 4 + c)
theorem tabP_all {f : Nat → Nat} (h : TabP 256 f) : ∀ j, j < 2560 → f j = tabN j := by
  intro j hj
  by_cases h1 : j < 512
  · exact h.1 j h1
  · by_cases h2 : j < 1536
    · have := (h.2 ((j - 512) / 4) (by omega) ((j - 512) % 4) (by omega)).1
      rwa [show 512 + (j - 512) / 4 * 4 + (j - 512) % 4 = j by omega] at this
    · have := (h.2 ((j - 1536) / 4) (by omega) ((j - 1536) % 4) (by omega)).2
      rwa [show 1536 + (j - 1536) / 4 * 4 + (j - 1536) % 4 = j by omega] at this
/-- four cells anew -/
def four (f : Nat → Nat) (o a b c d : Nat) (j : Nat) : Nat := if o ≤ j ∧ j < o + 4 then [a, b, c, d].getD (j - o) 0 else f j
theorem tabN_mix {k c : Nat} (hk : k < 256) (hc : c < 4) : tabN (512 + k * 4 + c) = [tw k, k, k, mul k 3].getD c 0 := by
  unfold tabN
  rw [if_neg (by omega), if_neg (by omega), if_pos (by omega), show (512 + k * 4 + c - 512) / 4 = k by omega, show (512 + k * 4 + c - 512) % 4 = c by omega]
  have h : c = 0 ∨ c = 1 ∨ c = 2 ∨ c = 3 := by omega
  rcases h with rfl | rfl | rfl | rfl
  · show mul k 2 = tw k
    rw [Fld.mul_comm hk (by decide), Fld.two_mul hk]
  · exact Fld.mul_one
  · exact Fld.mul_one
  · rfl
theorem tabN_undo {k c : Nat} (hk : k < 256) (hc : c < 4) : tabN (1536 + k * 4 + c) = [mul k 14, mul k 9, mul k 13, mul k 11].getD c 0 := by
  unfold tabN
  rw [if_neg (by omega), if_neg (by omega), if_neg (by omega), show (1536 + k * 4 + c - 1536) / 4 = k by omega, show (1536 + k * 4 + c - 1536) % 4 = c by omega]
  have h : c = 0 ∨ c = 1 ∨ c = 2 ∨ c = 3 := by omega
  rcases h with rfl | rfl | rfl | rfl <;> rfl
theorem tabP_succ {k : Nat} {f : Nat → Nat} (hk : k < 256) (h : TabP k f) : TabP (k + 1) (four (four f (512 + k * 4) (tw k) k k (mul k 3)) (1536 + k * 4) (mul k 14) (mul k 9) (mul k 13) (mul k 11)) := by
  refine ⟨fun j hj => ?_, fun a ha c hc => ⟨?_, ?_⟩⟩
  · unfold four
    rw [if_neg (by omega), if_neg (by omega)]
    exact h.1 j hj
  · unfold four
    rw [if_neg (by omega)]
    by_cases e : a = k
    · subst e
      rw [if_pos (by omega), tabN_mix hk hc, show 512 + a * 4 + c - (512 + a * 4) = c by omega]
    · rw [if_neg (by omega)]
      exact (h.2 a (by omega) c hc).1
  · unfold four
    by_cases e : a = k
    · subst e
      rw [if_pos (by omega), tabN_undo hk hc, show 1536 + a * 4 + c - (1536 + a * 4) = c by omega]
    · rw [if_neg (by omega), if_neg (by omega)]
      exact (h.2 a (by omega) c hc).2
abbrev cells4 (a b c d : Nat) : Array Value := #[.int .u8 (a : Int), .int .u8 (b : Int), .int .u8 (c : Int), .int .u8 (d : Int)]
theorem rowIs_four {w : World} {T : Nat} {f : Nat → Nat} (h : w.rowIs T 101 2560 (bCell f)) (o a b c d : Nat) : (w.setCells T o (cells4 a b c d).toList).rowIs T 101 2560 (bCell (four f o a b c d)) := by
  refine (Go.rowIs_setCells _ o w _ h).congr (fun j _ => ?_)
  unfold four bCell
  simp only [List.length_cons, List.length_nil]
  by_cases e : o ≤ j ∧ j < o + 4
  · rw [if_pos e, if_pos e]
    have h : j - o = 0 ∨ j - o = 1 ∨ j - o = 2 ∨ j - o = 3 := by omega
    rcases h with h | h | h | h <;> rw [h] <;> rfl
  · rw [if_neg e, if_neg e]
theorem rowIs_there {w : World} {T t n : Nat} {f : Nat → Value} (h : w.rowIs T t n f) {o m : Nat} (hm : o + m ≤ n) : w.there T o m := fun j hj => ⟨by rw [h.cell (show o + j < n by omega)]; rfl, h.frozen _⟩
theorem size98 : (Try.prog.info? 98).map (·.size) = some 4 := by kernel_rfl
theorem wpo_store98 {o : Oper} {ac : Act} {w : World} {K : Act → World → Prop} {Q : Exit → Act → World → Prop} (x y : Operand) (ho : o.op = .store 98 x y)
    (T off : Nat) (f : Nat → Nat) (a b c d : Nat) (hx : ac.eval x = .pointer (some ⟨T, off, none⟩)) (hy : ac.eval y = .agg (cells4 a b c d)) (ha : w.rowIs T 101 2560 (bCell f)) (hoff : off + 4 ≤ 2560)
    (h : K (ac.put o.dst undef) (w.setCells T off (cells4 a b c d).toList)) : o.wp Try.prog ac w K Q :=
  wp_store_mid 98 x y ho T off (cells4 a b c d) hx hy (rowIs_there ha hoff) size98 (by simp [cells4, Value.oneCell']) h
theorem wp_store53m {ops : Array Oper} {rest : List Oper} {o : Oper} {a : Act} {w : World} {Q : Exit → Act → World → Prop} (hgd : o.guard = none) (x y : Operand) (ho : o.op = .store 53 x y)
    (T off : Nat) (f k : Nat → Nat) (hx : a.eval x = .pointer (some ⟨T, off, none⟩)) (hy : a.eval y = .agg (cellsN 256 k)) (ha : w.rowIs T 101 2560 (bCell f)) (hoff : off + 256 ≤ 2560)
    (h : wpList Try.prog ops Q rest (a.put o.dst undef) (w.setCells T off (cellsN 256 k).toList)) : wpList Try.prog ops Q (o :: rest) a w :=
  wpList_store_mid hgd 53 x y ho T off (cellsN 256 k) hx hy (by rw [cellsN_size]; exact rowIs_there ha hoff) (size53' k) (cellsN_one 256 k) h
theorem rowIs_long {w : World} {T off : Nat} {f k : Nat → Nat} (h : w.rowIs T 101 2560 (bCell f)) : (w.setCells T off (cellsN 256 k).toList).rowIs T 101 2560 (bCell fun j => if off ≤ j ∧ j < off + 256 then k (j - off) else f j) := by
  refine (Go.rowIs_setCells _ off w _ h).congr (fun j _ => ?_)
  have hl : (cellsN 256 k).toList.length = 256 := by rw [Array.length_toList, cellsN_size]
  show (if off ≤ j ∧ j < off + (cellsN 256 k).toList.length then (cellsN 256 k).toList[j - off]?.getD default else Value.int .u8 ((f j : Nat) : Int)) = Value.int .u8 ((if off ≤ j ∧ j < off + 256 then k (j - off) else f j : Nat) : Int)
  rw [hl]
  by_cases e : off ≤ j ∧ j < off + 256
  · rw [if_pos e, if_pos e, Array.getElem?_toList, cellsN_get (show j - off < 256 by omega)]; rfl
  · rw [if_neg e, if_neg e]
/-- what a region of made keeps -/
structure SM (w : World) (f : Nat → Nat) (w' : World) : Prop where
  row : w'.rowIs w.heap.size 101 2560 (bCell f)
  bel : Below w.heap.size w w'
  sz : w.heap.size + 1 ≤ w'.heap.size
/-- the tables hold f, or what f has become -/
def SA (w : World) (f g : Nat → Nat) (w' : World) : Prop := SM w f w' ∨ SM w g w'
theorem size_setCells (b : Nat) : ∀ (vs : List Value) (o : Nat) (w : World), (w.setCells b o vs).heap.size = w.heap.size
  | [], _, _ => rfl
  | v :: r, o, w => by
    show ((w.setCell ⟨b, o, none⟩ v).setCells b (o + 1) r).heap.size = _
    rw [size_setCells b r (o + 1) _, World.size_setCell]
theorem SM.set4 {w : World} {f : Nat → Nat} {w' : World} (h : SM w f w') (o a b c d : Nat) : SM w (four f o a b c d) (w'.setCells w.heap.size o (cells4 a b c d).toList) :=
  ⟨rowIs_four h.row o a b c d, Go.below_setCells (Nat.le_refl _) _ _ _ h.bel, by rw [size_setCells]; exact h.sz⟩
theorem SM.drew {w : World} {f : Nat → Nat} {w' : World} (h : SM w f w') : SM w f w'.drew := ⟨h.row, h.bel.drew, h.sz⟩
set_option maxRecDepth 100000 in
set_option maxHeartbeats 8000000 in
theorem made_any (w : World) :
    Calls Try.prog 81 #[] w fun e w' => e = .returned (.pointer (some ⟨w.heap.size, 0, none⟩)) ∧ TabM w' w.heap.size ∧ Below w.heap.size w w' ∧ w.heap.size + 1 ≤ w'.heap.size := by
  have z0 := zero_cells (show Try.zeroCells101 = Array.replicate 2560 (.int .u8 0) by kernel_rfl) w 101
  go_enter Try.func81, Try.ntmps81
  go_wp2_with fail
  refine (tables_any _).mono ?_
  rintro e w1 ⟨rfl, hb1⟩
  have hr : w1.rowIs w.heap.size 101 2560 (bCell fun _ => 0) := rowIs_below z0 hb1 (by simp)
  have hbel := below_alloc hb1
  have hsz : w.heap.size + 1 ≤ w1.heap.size := by have := hb1.size; simpa using this
  clear z0 hb1
  go_wp2_with (first
    | ((with_reducible show wpList _ _ _ (⟨none, Op.store 53 (.tmp 13) (.tmp 10), _, _, _, _⟩ :: _) _ _); refine wp_store53m rfl (.tmp 13) (.tmp 10) rfl w.heap.size 0 (fun _ => 0) sub rfl rfl hr (by omega) ?_)
    | ((with_reducible show wpList _ _ _ (⟨none, Op.store 53 (.tmp 15) (.tmp 11), _, _, _, _⟩ :: _) _ _); refine wp_store53m rfl (.tmp 15) (.tmp 11) rfl w.heap.size 256 _ back rfl rfl (rowIs_long hr) (by omega) ?_))

  have hM0 : SM w (fun j => if 256 ≤ j ∧ j < 256 + 256 then back (j - 256) else if 0 ≤ j ∧ j < 0 + 256 then sub (j - 0) else 0) ((w1.setCells w.heap.size 0 (cellsN 256 sub).toList).setCells w.heap.size 256 (cellsN 256 back).toList) :=
    ⟨rowIs_long (rowIs_long hr), Go.below_setCells (Nat.le_refl _) _ _ _ (Go.below_setCells (Nat.le_refl _) _ _ _ hbel), by rw [size_setCells, size_setCells]; exact hsz⟩
  clear hr hbel hsz
  revert hM0
  generalize (w1.setCells w.heap.size 0 (cellsN 256 sub).toList).setCells w.heap.size 256 (cellsN 256 back).toList = w2
  intro hM0
  go_loopw [2, 3, 16] (fun u c i wr => ∃ (k : Nat) (f : Nat → Nat), i = .int .i64 (k : Int) ∧ k ≤ 256 ∧ Box (TabP k f) ∧ SM w f wr) (fun _ _ i _ => 256 - (intOf i).toNat)
  case atStart =>
    refine ⟨0, _, rfl, by omega, ⟨fun j hj => ?_, fun a ha => absurd ha (by omega)⟩, hM0⟩
    unfold tabN
    by_cases h : j < 256
    · rw [if_neg (by omega), if_pos (by omega), if_pos h]; rfl
    · rw [if_pos (by omega), if_neg h, if_pos hj]
  case round =>
    obtain ⟨k, f, rfl, hk, HT, hM⟩ := hrel
    clear hM0 w2
    by_cases hk6 : k = 256
    · subst hk6
      have hR : TabM wr w.heap.size := hM.row.congr (fun i hi => by unfold bCell; rw [tabP_all HT.out i hi])
      clear HT
      go_wp2_with fail
      go_ret
      exact ⟨rfl, hR, hM.bel, hM.sz⟩
    · have hk2 : k < 256 := by omega
      have HT2 := Box.mk (tabP_succ hk2 HT.out)
      clear hk6 HT
      go_wp2_with fail
      have hM := hM.drew
      refine wp_region_held_drew (S := fun _ => True) (by kernel_rfl) trivial (fun hS => ?_)
      refine wpAnyH_take (i := 0) (oi := ⟨some 21, _, _, _, _, _⟩) (v := .pointer (some ⟨w.heap.size, 0, none⟩)) rfl (by kernel_rfl) (by kernel_rfl) (by kernel_rfl) (fun _ _ _ h => h) (Or.inl ⟨by kernel_rfl, fun w' hSw => ?_⟩) hS ?_
      · go_simp
      simp only [Act.put, List.setIfInBounds_toArray, List.set_cons_zero, List.set_cons_succ]
      refine wpAnyH_take (i := 1) (oi := ⟨some 22, _, _, _, _, _⟩) (v := .int .i64 (k : Int)) rfl (by kernel_rfl) (by kernel_rfl) (by kernel_rfl) (fun _ _ _ h => h) (Or.inl ⟨by kernel_rfl, fun w' hSw => ?_⟩) hS ?_
      · go_simp
      simp only [Act.put, List.setIfInBounds_toArray, List.set_cons_zero, List.set_cons_succ]
      refine wpAnyH_take (i := 2) (oi := ⟨some 23, _, _, _, _, _⟩) (v := .int .u8 (k : Int)) rfl (by kernel_rfl) (by kernel_rfl) (by kernel_rfl) (fun _ _ _ h => h) (Or.inl ⟨by kernel_rfl, fun w' hSw => ?_⟩) hS ?_
      · go_simp
      simp only [Act.put, List.setIfInBounds_toArray, List.set_cons_zero, List.set_cons_succ]
      refine wpAnyH_take (i := 4) (oi := ⟨some 25, _, _, _, _, _⟩) (v := .int .u8 (k : Int)) rfl (by kernel_rfl) (by kernel_rfl) (by kernel_rfl) (fun _ _ _ h => h) (Or.inl ⟨by kernel_rfl, fun w' hSw => ?_⟩) hS ?_
      · go_simp
      simp only [Act.put, List.setIfInBounds_toArray, List.set_cons_zero, List.set_cons_succ]
      refine wpAnyH_take (i := 5) (oi := ⟨some 26, _, _, _, _, _⟩) (v := .int .u8 (k : Int)) rfl (by kernel_rfl) (by kernel_rfl) (by kernel_rfl) (fun _ _ _ h => h) (Or.inl ⟨by kernel_rfl, fun w' hSw => ?_⟩) hS ?_
      · go_simp
      simp only [Act.put, List.setIfInBounds_toArray, List.set_cons_zero, List.set_cons_succ]
      refine wpAnyH_take (i := 6) (oi := ⟨some 27, _, _, _, _, _⟩) (v := .int .u8 (k : Int)) rfl (by kernel_rfl) (by kernel_rfl) (by kernel_rfl) (fun _ _ _ h => h) (Or.inl ⟨by kernel_rfl, fun w' hSw => ?_⟩) hS ?_
      · go_simp
      simp only [Act.put, List.setIfInBounds_toArray, List.set_cons_zero, List.set_cons_succ]
      refine wpAnyH_take (i := 9) (oi := ⟨some 30, _, _, _, _, _⟩) (v := .pointer (some ⟨w.heap.size, 0, none⟩)) rfl (by kernel_rfl) (by kernel_rfl) (by kernel_rfl) (fun _ _ _ h => h) (Or.inl ⟨by kernel_rfl, fun w' hSw => ?_⟩) hS ?_
      · go_simp
      simp only [Act.put, List.setIfInBounds_toArray, List.set_cons_zero, List.set_cons_succ]
      refine wpAnyH_take (i := 10) (oi := ⟨some 31, _, _, _, _, _⟩) (v := .pointer (some ⟨w.heap.size, 512, none⟩)) rfl (by kernel_rfl) (by kernel_rfl) (by kernel_rfl) (fun _ _ _ h => h) (Or.inl ⟨by kernel_rfl, fun w' hSw => ?_⟩) hS ?_
      · go_simp
      simp only [Act.put, List.setIfInBounds_toArray, List.set_cons_zero, List.set_cons_succ]
      refine wpAnyH_ready (rs := [3]) (by kernel_rfl) (by simp) ?_
      refine AllReadyH.cons (o := ⟨some 24, _, _, _, _, _⟩) rfl (fun K hK => ?_) AllReadyH.nil
      rw [if_pos (by kernel_rfl)]
      go_simp
      refine (twice_any k hk2 _).mono ?_
      rintro e v ⟨rfl, rfl⟩
      refine hK.out _ _ hS (fun hS => ?_)
      clear hK K
      refine wpAnyH_ready (rs := [7]) (by kernel_rfl) (by simp) ?_
      refine AllReadyH.cons (o := ⟨some 28, _, _, _, _, _⟩) rfl (fun K hK => ?_) AllReadyH.nil
      rw [if_pos (by kernel_rfl)]
      go_simp
      refine (mul_any k 3 hk2 (by decide) _).mono ?_
      rintro e v ⟨rfl, rfl⟩
      refine hK.out _ _ hS (fun hS => ?_)
      clear hK K
      refine wpAnyH_take (i := 8) (oi := ⟨some 29, _, _, _, _, _⟩) (v := .agg #[.int .u8 ((tw k : Nat) : Int), .int .u8 (k : Int), .int .u8 (k : Int), .int .u8 ((mul k 3 : Nat) : Int)]) rfl (by kernel_rfl) (by kernel_rfl) (by kernel_rfl) (fun _ _ _ h => h) (Or.inl ⟨by kernel_rfl, fun w' hSw => ?_⟩) hS ?_
      · go_simp
      simp only [Act.put, List.setIfInBounds_toArray, List.set_cons_zero, List.set_cons_succ]
      refine wpAnyH_take (i := 11) (oi := ⟨some 32, _, _, _, _, _⟩) (v := .pointer (some ⟨w.heap.size, (512 + k * 4), none⟩)) rfl (by kernel_rfl) (by kernel_rfl) (by kernel_rfl) (fun _ _ _ h => h) (Or.inl ⟨by kernel_rfl, fun w' hSw => ?_⟩) hS ?_
      · go_simp
      simp only [Act.put, List.setIfInBounds_toArray, List.set_cons_zero, List.set_cons_succ]
      refine wpAnyH_ready (rs := [12]) (by kernel_rfl) (by simp) ?_
      refine AllReadyH.cons (o := ⟨none, _, _, _, _, _⟩) rfl (fun K hK => ?_) AllReadyH.nil
      rw [if_pos (by kernel_rfl)]
      refine wpo_store98 (.tmp 32) (.tmp 29) rfl w.heap.size (512 + k * 4) f (tw k) k k (mul k 3) rfl rfl hM.row (by omega) ?_
      refine hK.out _ _ trivial (fun hS => ?_)
      clear hK K
      simp only [Act.put]
      refine wpAnyH_done (by kernel_rfl) ?_ _
      go_wp2_with fail
      obtain ⟨f2, hf2⟩ : ∃ f2, f2 = four f (512 + k * 4) (tw k) k k (mul k 3) := ⟨_, rfl⟩
      have hM := (hM.set4 (512 + k * 4) (tw k) k k (mul k 3)).drew
      rw [← hf2] at hM HT2
      clear hf2
      refine wp_region_held_drew (S := fun _ => True) (by kernel_rfl) trivial (fun hS => ?_)
      refine wpAnyH_take (i := 0) (oi := ⟨some 33, _, _, _, _, _⟩) (v := .pointer (some ⟨w.heap.size, 0, none⟩)) rfl (by kernel_rfl) (by kernel_rfl) (by kernel_rfl) (fun _ _ _ h => h) (Or.inl ⟨by kernel_rfl, fun w' hSw => ?_⟩) hS ?_
      · go_simp
      simp only [Act.put, List.setIfInBounds_toArray, List.set_cons_zero, List.set_cons_succ]
      refine wpAnyH_take (i := 1) (oi := ⟨some 34, _, _, _, _, _⟩) (v := .int .i64 (k : Int)) rfl (by kernel_rfl) (by kernel_rfl) (by kernel_rfl) (fun _ _ _ h => h) (Or.inl ⟨by kernel_rfl, fun w' hSw => ?_⟩) hS ?_
      · go_simp
      simp only [Act.put, List.setIfInBounds_toArray, List.set_cons_zero, List.set_cons_succ]
      refine wpAnyH_take (i := 2) (oi := ⟨some 35, _, _, _, _, _⟩) (v := .int .u8 (k : Int)) rfl (by kernel_rfl) (by kernel_rfl) (by kernel_rfl) (fun _ _ _ h => h) (Or.inl ⟨by kernel_rfl, fun w' hSw => ?_⟩) hS ?_
      · go_simp
      simp only [Act.put, List.setIfInBounds_toArray, List.set_cons_zero, List.set_cons_succ]
      refine wpAnyH_take (i := 4) (oi := ⟨some 37, _, _, _, _, _⟩) (v := .int .u8 (k : Int)) rfl (by kernel_rfl) (by kernel_rfl) (by kernel_rfl) (fun _ _ _ h => h) (Or.inl ⟨by kernel_rfl, fun w' hSw => ?_⟩) hS ?_
      · go_simp
      simp only [Act.put, List.setIfInBounds_toArray, List.set_cons_zero, List.set_cons_succ]
      refine wpAnyH_take (i := 6) (oi := ⟨some 39, _, _, _, _, _⟩) (v := .int .u8 (k : Int)) rfl (by kernel_rfl) (by kernel_rfl) (by kernel_rfl) (fun _ _ _ h => h) (Or.inl ⟨by kernel_rfl, fun w' hSw => ?_⟩) hS ?_
      · go_simp
      simp only [Act.put, List.setIfInBounds_toArray, List.set_cons_zero, List.set_cons_succ]
      refine wpAnyH_take (i := 8) (oi := ⟨some 41, _, _, _, _, _⟩) (v := .int .u8 (k : Int)) rfl (by kernel_rfl) (by kernel_rfl) (by kernel_rfl) (fun _ _ _ h => h) (Or.inl ⟨by kernel_rfl, fun w' hSw => ?_⟩) hS ?_
      · go_simp
      simp only [Act.put, List.setIfInBounds_toArray, List.set_cons_zero, List.set_cons_succ]
      refine wpAnyH_take (i := 11) (oi := ⟨some 44, _, _, _, _, _⟩) (v := .pointer (some ⟨w.heap.size, 0, none⟩)) rfl (by kernel_rfl) (by kernel_rfl) (by kernel_rfl) (fun _ _ _ h => h) (Or.inl ⟨by kernel_rfl, fun w' hSw => ?_⟩) hS ?_
      · go_simp
      simp only [Act.put, List.setIfInBounds_toArray, List.set_cons_zero, List.set_cons_succ]
      refine wpAnyH_take (i := 12) (oi := ⟨some 45, _, _, _, _, _⟩) (v := .pointer (some ⟨w.heap.size, 1536, none⟩)) rfl (by kernel_rfl) (by kernel_rfl) (by kernel_rfl) (fun _ _ _ h => h) (Or.inl ⟨by kernel_rfl, fun w' hSw => ?_⟩) hS ?_
      · go_simp
      simp only [Act.put, List.setIfInBounds_toArray, List.set_cons_zero, List.set_cons_succ]
      refine wpAnyH_ready (rs := [3]) (by kernel_rfl) (by simp) ?_
      refine AllReadyH.cons (o := ⟨some 36, _, _, _, _, _⟩) rfl (fun K hK => ?_) AllReadyH.nil
      rw [if_pos (by kernel_rfl)]
      go_simp
      refine (mul_any k 14 hk2 (by decide) _).mono ?_
      rintro e v ⟨rfl, rfl⟩
      refine hK.out _ _ hS (fun hS => ?_)
      clear hK K
      refine wpAnyH_ready (rs := [5]) (by kernel_rfl) (by simp) ?_
      refine AllReadyH.cons (o := ⟨some 38, _, _, _, _, _⟩) rfl (fun K hK => ?_) AllReadyH.nil
      rw [if_pos (by kernel_rfl)]
      go_simp
      refine (mul_any k 9 hk2 (by decide) _).mono ?_
      rintro e v ⟨rfl, rfl⟩
      refine hK.out _ _ hS (fun hS => ?_)
      clear hK K
      refine wpAnyH_ready (rs := [7]) (by kernel_rfl) (by simp) ?_
      refine AllReadyH.cons (o := ⟨some 40, _, _, _, _, _⟩) rfl (fun K hK => ?_) AllReadyH.nil
      rw [if_pos (by kernel_rfl)]
      go_simp
      refine (mul_any k 13 hk2 (by decide) _).mono ?_
      rintro e v ⟨rfl, rfl⟩
      refine hK.out _ _ hS (fun hS => ?_)
      clear hK K
      refine wpAnyH_ready (rs := [9]) (by kernel_rfl) (by simp) ?_
      refine AllReadyH.cons (o := ⟨some 42, _, _, _, _, _⟩) rfl (fun K hK => ?_) AllReadyH.nil
      rw [if_pos (by kernel_rfl)]
      go_simp
      refine (mul_any k 11 hk2 (by decide) _).mono ?_
      rintro e v ⟨rfl, rfl⟩
      refine hK.out _ _ hS (fun hS => ?_)
      clear hK K
      refine wpAnyH_take (i := 10) (oi := ⟨some 43, _, _, _, _, _⟩) (v := .agg #[.int .u8 ((mul k 14 : Nat) : Int), .int .u8 ((mul k 9 : Nat) : Int), .int .u8 ((mul k 13 : Nat) : Int), .int .u8 ((mul k 11 : Nat) : Int)]) rfl (by kernel_rfl) (by kernel_rfl) (by kernel_rfl) (fun _ _ _ h => h) (Or.inl ⟨by kernel_rfl, fun w' hSw => ?_⟩) hS ?_
      · go_simp
      simp only [Act.put, List.setIfInBounds_toArray, List.set_cons_zero, List.set_cons_succ]
      refine wpAnyH_take (i := 13) (oi := ⟨some 46, _, _, _, _, _⟩) (v := .pointer (some ⟨w.heap.size, (1536 + k * 4), none⟩)) rfl (by kernel_rfl) (by kernel_rfl) (by kernel_rfl) (fun _ _ _ h => h) (Or.inl ⟨by kernel_rfl, fun w' hSw => ?_⟩) hS ?_
      · go_simp
      simp only [Act.put, List.setIfInBounds_toArray, List.set_cons_zero, List.set_cons_succ]
      refine wpAnyH_ready (rs := [14]) (by kernel_rfl) (by simp) ?_
      refine AllReadyH.cons (o := ⟨none, _, _, _, _, _⟩) rfl (fun K hK => ?_) AllReadyH.nil
      rw [if_pos (by kernel_rfl)]
      refine wpo_store98 (.tmp 46) (.tmp 43) rfl w.heap.size (1536 + k * 4) f2 (mul k 14) (mul k 9) (mul k 13) (mul k 11) rfl rfl hM.row (by omega) ?_
      refine hK.out _ _ trivial (fun hS => ?_)
      clear hK K
      simp only [Act.put]
      refine wpAnyH_done (by kernel_rfl) ?_ _
      go_wp2_with fail
      have hM := hM.set4 (1536 + k * 4) (mul k 14) (mul k 9) (mul k 13) (mul k 11)
      go_roundw
      case rel => exact ⟨k + 1, _, by go_num, by omega, HT2, hM⟩
      case measure => simp [intOf]; omega
end Go.Proofs.Ytibfihjcjohadaa
/- A region that draws its order and whose last operation, number z, stores where the region itself has read: a read may be taken first if z waits for it; behind z nothing is asked of the world. No condition. -/
namespace Go.Proofs.Ytibfihjcjohadaa
open Go
section
variable {P : Program} {ops : Array Oper} {Q : Exit → Act → World → Prop} {md : Region.Mode} {S T : World → Prop} {z y : Nat}
/-- Has z come up? -/
def behind (z : Nat) (listed : Array Bool) : Prop := listed.getD z true = true
/-- S holds till z has come up, T till y has. -/
def Till (S T : World → Prop) (z y : Nat) (listed : Array Bool) (w : World) : Prop := (behind z listed ∨ S w) ∧ (behind y listed ∨ T w)
/-- Whatever order is picked, S holds till z has come up, T till y has. -/
def wpAnyZ (P : Program) (md : Region.Mode) (ops : Array Oper) (Q : Exit → Act → World → Prop) (S T : World → Prop) (z y : Nat) : Nat → Array Bool → Act → World → Prop
  | 0, listed, a, w => Region.ready md ops listed = [] ∧ Q .normal a w
  | n + 1, listed, a, w =>
    (Region.ready md ops listed = [] → Q .normal a w) ∧
    ∀ j ∈ Region.ready md ops listed, wpOp P ops Q j (fun a' w' => Till S T z y (listed.setIfInBounds j true) w' ∧ wpAnyZ P md ops Q S T z y n (listed.setIfInBounds j true) a' w') a w
theorem wpAny_of_Z : ∀ (n : Nat) (listed : Array Bool) (a : Act) (w : World), wpAnyZ P md ops Q S T z y n listed a w → wpAny P md ops Q n listed a w
  | 0, _, _, _, h => h
  | n + 1, _, _, _, h => ⟨h.1, fun j hj => wpOp_mono (fun a' w' h' => wpAny_of_Z n _ a' w' h'.2) (h.2 j hj)⟩
/-- Does z wait for i? -/
def waitsB (md : Region.Mode) (ops : Array Oper) (z i : Nat) : Bool :=
  match ops[z]? with
  | some oz => oz.after.any fun e => Region.binds md e && e.on == i
  | none => false
/-- does j wait for i, if it does then not before it -/
theorem waits_not {i j : Nat} {oj : Oper} (hoj : ops[j]? = some oj) (hno : ∀ e ∈ oj.after, Region.binds md e = true → e.on ≠ i) (hz : waitsB md ops z i = true) : j ≠ z := by
  rintro rfl
  unfold waitsB at hz
  rw [hoj] at hz
  obtain ⟨e, he, hb⟩ := Array.any_eq_true'.1 hz
  simp only [Bool.and_eq_true, beq_iff_eq] at hb
  exact hno e he hb.1 hb.2
theorem not_waiting {listed : Array Bool} {i : Nat} {oj : Oper} (hi : i ∈ Region.ready md ops listed) (hall : ∀ e ∈ oj.after, Region.binds md e = true → listed.getD e.on false = true) :
    ∀ e ∈ oj.after, Region.binds md e = true → e.on ≠ i := by
  intro e he hb heq
  have h1 := hall e he hb
  have h0 := (mem_ready.1 hi).1
  rw [heq] at h1
  by_cases h' : i < listed.size
  · simp only [Array.getD_eq_getD_getElem?, Array.getElem?_eq_getElem h', Option.getD_some] at h0 h1
    rw [h0] at h1; cases h1
  · simp only [Array.getD_eq_getD_getElem?, Array.getElem?_eq_none (Nat.not_lt.1 h'), Option.getD_none] at h0
    cases h0
theorem behind_set {listed : Array Bool} {i : Nat} (h : behind z listed) : behind z (listed.setIfInBounds i true) := by
  unfold behind at h ⊢
  by_cases e : i = z
  · subst e
    by_cases h' : i < listed.size
    · simp [h']
    · simp
  · rw [getD_set_ne true e]; exact h
theorem behind_of_set {listed : Array Bool} {i : Nat} (hi : i ≠ z) (h : behind z (listed.setIfInBounds i true)) : behind z listed := by
  unfold behind at h ⊢
  rwa [getD_set_ne true hi] at h
theorem Till.set {listed : Array Bool} {i : Nat} {w : World} (h : Till S T z y listed w) : Till S T z y (listed.setIfInBounds i true) w := ⟨h.1.imp behind_set id, h.2.imp behind_set id⟩
theorem Till.of_set {listed : Array Bool} {i : Nat} {w : World} (hz : i ≠ z) (hy : i ≠ y) (h : Till S T z y (listed.setIfInBounds i true) w) : Till S T z y listed w := ⟨h.1.imp (behind_of_set hz) id, h.2.imp (behind_of_set hy) id⟩
/-- An operation that may come up, and that yields its value wherever S holds, is taken first: x, not come up yet, waits for it; or it yields in whatever world. -/
theorem wpAnyZ_first {i x : Nat} {oi : Oper} {v : Value} {Y : World → Prop} (hi : ops[i]? = some oi) (hsel : ∀ (j : Nat) (o : Oper) cs b, ops[j]? = some o → o.op ≠ .select cs b)
    (hQ : ∀ c a w, Q (.panic c) (a.put oi.dst v) w → Q (.panic c) a w) (hiz : i ≠ z) (hiy : i ≠ y) (hY : (waitsB md ops x i = true ∧ ∀ listed w, ¬ behind x listed → Till S T z y listed w → Y w) ∨ ∀ w, Y w) (n : Nat) :
    ∀ (listed : Array Bool) (a : Act) (w : World),
      (∀ j oj, ops[j]? = some oj → j ≠ i → listed.getD j true = false → (∀ e ∈ oj.after, Region.binds md e = true → e.on ≠ i) → oi.apart ops oj = true) →
      (¬ behind x listed ∨ ∀ w, Y w) → i ∈ Region.ready md ops listed → YieldsIf P ops Y oi v a → Y w → Till S T z y listed w →
      wpAnyZ P md ops Q S T z y n (listed.setIfInBounds i true) (a.put oi.dst v) w → wpAnyZ P md ops Q S T z y (n + 1) listed a w := by
  induction n with
  | zero =>
    intro listed a w _ _ hr hy hw hS H
    refine ⟨fun h => (by rw [h] at hr; cases hr), fun j hj => ?_⟩
    by_cases e : j = i
    · subst e
      exact hy.wpOp hi hw ⟨hS.set, H⟩
    · have h0 := ready_mono hj e
      rw [H.1] at h0
      cases h0
  | succ n ih =>
    intro listed a w hfree hzl hr hy hw hS H
    refine ⟨fun h => (by rw [h] at hr; cases hr), fun j hj => ?_⟩
    by_cases e : j = i
    · subst e
      exact hy.wpOp hi hw ⟨hS.set, H⟩
    · obtain ⟨hjun, oj, hoj, hall⟩ := mem_ready.1 hj
      have hnot := not_waiting hr hall
      have h2 := wpOp_putIf hoj (hfree j oj hoj e hjun hnot) (fun cs b => hsel i oi cs b hi) (fun cs b => hsel j oj cs b hoj) hQ hy (H.2 j (ready_mono hj e))
      refine wpOp_mono (fun a' w' h3 => ?_) h2
      obtain ⟨hy', hS', hrest⟩ := h3
      rw [← Array.setIfInBounds_comm _ _ e] at hS' hrest
      have hS2 : Till S T z y (listed.setIfInBounds j true) w' := hS'.of_set hiz hiy
      have hzl2 : ¬ behind x (listed.setIfInBounds j true) ∨ ∀ w, Y w := by
        rcases hY with ⟨hwait, _⟩ | h
        · rcases hzl with h | h
          · exact .inl (fun hb => h (behind_of_set (waits_not hoj hnot hwait) hb))
          · exact .inr h
        · exact .inr h
      have hYw : Y w' := by
        rcases hzl2 with hb | h
        · rcases hY with ⟨_, hSY⟩ | h
          · exact hSY _ w' hb hS2
          · exact h w'
        · exact h w'
      refine ⟨hS2, ih (listed.setIfInBounds j true) a' w' (fun k ok hk hki hun hno => hfree k ok hk hki ?_ hno) hzl2 (ready_mono hr (Ne.symm e)) hy' hYw hS2 hrest⟩
      by_cases hjk : j = k
      · subst hjk; exact hjun
      · rw [getD_set_ne true hjk] at hun; exact hun
theorem waits_self {i x : Nat} {listed : Array Bool} (hr : i ∈ Region.ready md ops listed) (hw : waitsB md ops x i = true) : i ≠ x := by
  rintro rfl
  obtain ⟨_, oj, hoj, hall⟩ := mem_ready.1 hr
  exact waits_not hoj (not_waiting hr hall) hw rfl
/-- A read that S knows of is taken first. -/
theorem wpAnyZ_take {i : Nat} {oi : Oper} {v : Value} {n : Nat} {listed : Array Bool} {a : Act} {w : World} (hi : ops[i]? = some oi)
    (hs : Region.noSelect ops = true) (hf : Region.free md ops listed i = true) (hr : (Region.ready md ops listed).contains i = true)
    (hw : (waitsB md ops z i && !(listed.getD z true) && (i != y)) = true)
    (hQ : ∀ c a w, Q (.panic c) (a.put oi.dst v) w → Q (.panic c) a w) (hy : YieldsIf P ops S oi v a) (hS : S w ∧ T w)
    (h : wpAnyZ P md ops Q S T z y n (listed.setIfInBounds i true) (a.put oi.dst v) w) : wpAnyZ P md ops Q S T z y (n + 1) listed a w := by
  simp only [Bool.and_eq_true, Bool.not_eq_true', bne_iff_ne, ne_eq] at hw
  have hr' : i ∈ Region.ready md ops listed := by simpa using hr
  have hb : ¬ behind z listed := by unfold behind; rw [hw.1.2]; simp
  exact wpAnyZ_first (x := z) hi (Region.noSelect_spec hs) hQ (waits_self hr' hw.1.1) hw.2 (.inl ⟨hw.1.1, fun _ _ hb hT => hT.1.resolve_left hb⟩) n listed a w (Region.free_spec hi hf) (.inl hb) hr' hy hS.1 ⟨.inr hS.1, .inr hS.2⟩ h
/-- A read that T knows of is taken first. -/
theorem wpAnyZ_take2 {i : Nat} {oi : Oper} {v : Value} {n : Nat} {listed : Array Bool} {a : Act} {w : World} (hi : ops[i]? = some oi)
    (hs : Region.noSelect ops = true) (hf : Region.free md ops listed i = true) (hr : (Region.ready md ops listed).contains i = true)
    (hw : (waitsB md ops y i && !(listed.getD y true) && (i != z)) = true)
    (hQ : ∀ c a w, Q (.panic c) (a.put oi.dst v) w → Q (.panic c) a w) (hy : YieldsIf P ops T oi v a) (hS : S w ∧ T w)
    (h : wpAnyZ P md ops Q S T z y n (listed.setIfInBounds i true) (a.put oi.dst v) w) : wpAnyZ P md ops Q S T z y (n + 1) listed a w := by
  simp only [Bool.and_eq_true, Bool.not_eq_true', bne_iff_ne, ne_eq] at hw
  have hr' : i ∈ Region.ready md ops listed := by simpa using hr
  have hb : ¬ behind y listed := by unfold behind; rw [hw.1.2]; simp
  exact wpAnyZ_first (x := y) hi (Region.noSelect_spec hs) hQ hw.2 (waits_self hr' hw.1.1) (.inl ⟨hw.1.1, fun _ _ hb hT => hT.2.resolve_left hb⟩) n listed a w (Region.free_spec hi hf) (.inl hb) hr' hy hS.2 ⟨.inr hS.1, .inr hS.2⟩ h
/-- What yields in whatever world is taken first, also behind z and y. -/
theorem wpAnyZ_any {i : Nat} {oi : Oper} {v : Value} {n : Nat} {listed : Array Bool} {a : Act} {w : World} (hi : ops[i]? = some oi)
    (hs : Region.noSelect ops = true) (hf : Region.free md ops listed i = true) (hr : (Region.ready md ops listed).contains i = true) (hiz : (i != z && i != y) = true)
    (hQ : ∀ c a w, Q (.panic c) (a.put oi.dst v) w → Q (.panic c) a w) (hy : YieldsIf P ops (fun _ => True) oi v a) (hS : Till S T z y listed w)
    (h : wpAnyZ P md ops Q S T z y n (listed.setIfInBounds i true) (a.put oi.dst v) w) : wpAnyZ P md ops Q S T z y (n + 1) listed a w := by
  simp only [Bool.and_eq_true, bne_iff_ne, ne_eq] at hiz
  exact wpAnyZ_first (x := z) hi (Region.noSelect_spec hs) hQ hiz.1 hiz.2 (.inr fun _ => trivial) n listed a w (Region.free_spec hi hf) (.inr fun _ => trivial) (by simpa using hr) hy trivial hS h
/-- The one operation that may come up comes up. -/
theorem wpAnyZ_one {i : Nat} {o : Oper} {n : Nat} {listed : Array Bool} {a : Act} {w : World} (hr : Region.ready md ops listed = [i]) (ho : ops[i]? = some o) (hw : Region.wanted o (yielded ops a.tmps) = true)
    (h : ∀ K' : Act → World → Prop, Shut (∀ a w, Till S T z y (listed.setIfInBounds i true) w → wpAnyZ P md ops Q S T z y n (listed.setIfInBounds i true) a w → K' a w) → Oper.wp P o a w K' Q) : wpAnyZ P md ops Q S T z y (n + 1) listed a w := by
  refine ⟨(fun h0 => by rw [hr] at h0; cases h0), fun j hj => ?_⟩
  rw [hr, List.mem_singleton] at hj
  subst hj
  refine wpOp_step ho (fun K' hK => ?_)
  rw [if_pos hw]
  exact h K' (fun a w h1 h2 => hK a w ⟨h1, h2⟩)
theorem wpAnyZ_done {listed : Array Bool} {a : Act} {w : World} (hr : Region.ready md ops listed = []) (h : Q .normal a w) : ∀ n, wpAnyZ P md ops Q S T z y n listed a w
  | 0 => ⟨hr, h⟩
  | _ + 1 => ⟨fun _ => h, by rw [hr]; simp⟩
theorem wp_region_Z (z y : Nat) (S T : World → Prop) {id : Nat} {a : Act} {w : World} (hm : P.follows .mixedOrders = true) (h : wpAnyZ P .any ops Q S T z y ops.size (Array.replicate ops.size false) a w.drew) : (Code.region id ops true).wp P Q a w :=
  wp_region_any hm (wpAny_of_Z _ _ _ _ h)
end
end Go.Proofs.Ytibfihjcjohadaa
