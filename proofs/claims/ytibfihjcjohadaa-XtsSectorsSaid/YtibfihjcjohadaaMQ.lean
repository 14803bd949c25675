/-
  Blocks and strings held against each other. Conditions: bytes.
-/
import Derived.Test.YtibfihjcjohadaaAw6
import Derived.Test.YtibfihjcjohadaaMT
import Derived.Laws.IdiomStrings
import Derived.Lib.ConvBytes
import Derived.Below
import Derived.Lib.Strings
/- Laws at an operation of a region that draws its order: two blocks held against each other. No condition. -/
namespace Go.Proofs.Ytibfihjcjohadaa
open Go.RowKit Go.Op
theorem yields_eqB {ops : Array Oper} {S : World → Prop} {op : Oper} {a : Act} (hw : Region.wanted op (yielded ops a.tmps) = true) (x y : Operand) (ho : op.op = .binOp .eql 36 x y 36)
    (f g : Nat → Nat) (b : Bool) (hb : eqB f g = b) (hx : a.eval x = .agg (bv f)) (hy : a.eval y = .agg (bv g)) : YieldsIf Try.prog ops S op (.bool b) a :=
  .inl ⟨hw, fun w _ => by rw [exec_eqB x y ho f g hx hy w, hb]⟩
theorem eqB_encK {l : List Nat} {f g : Nat → Nat} (hf : ∀ i, f i < 256) (hg : ∀ i, g i < 256) : eqB (encK l f) (encK l g) = eqB f g := by
  rw [Bool.eq_iff_iff, eqB_iff, eqB_iff]
  constructor
  · exact encK_inj hf hg
  · intro h
    exact bv_inj (encK_congr (l := l) h)
end Go.Proofs.Ytibfihjcjohadaa
/- Bytes as a string and a string as bytes; two strings held against each other; a block's variable as a row of bytes. No condition but that a row reads as bytes. -/
namespace Go.Proofs.Ytibfihjcjohadaa
open Go.RowKit Go.Op
/-- a list of bytes as a string -/
def strL (l : List Nat) : ByteArray := ⟨(l.map UInt8.ofNat).toArray⟩
/-- a string's bytes -/
def natsOf (s : ByteArray) : List Nat := s.data.toList.map UInt8.toNat
theorem natsOf_len (s : ByteArray) : (natsOf s).length = s.size := by unfold natsOf ByteArray.size; rw [List.length_map, Array.length_toList]
theorem natsOf_lt (s : ByteArray) : ∀ x ∈ natsOf s, x < 256 := by
  intro x hx
  obtain ⟨y, _, rfl⟩ := List.mem_map.mp hx
  exact y.toNat_lt
theorem strL_nats (s : ByteArray) : strL (natsOf s) = s := by
  cases s with | mk d => simp [strL, natsOf, Function.comp_def]
theorem nats_strL {l : List Nat} (h : ∀ x ∈ l, x < 256) : natsOf (strL l) = l := by
  simp only [strL, natsOf, List.map_map]
  refine (List.map_congr_left (g := id) fun x hx => ?_).trans (List.map_id l)
  have := h x hx
  simp [UInt8.toNat_ofNat']; omega
theorem strL_inj {l m : List Nat} (hl : ∀ x ∈ l, x < 256) (hm : ∀ x ∈ m, x < 256) (h : strL l = strL m) : l = m := by rw [← nats_strL hl, h, nats_strL hm]
theorem underlying29' : Try.prog.underlying 29 = some (.slice 5) := Try.underlying29
theorem run_str {w : World} {A : Option Addr} {n c : Nat} {l : List Nat} (h : Bytes w A n l) : (convert 29 9 (.slice A n c)).run Try.prog w = .ok (.string (strL l)) w := by
  obtain ⟨hl, _, hx, hc0⟩ := h
  rcases Nat.eq_zero_or_pos n with rfl | hn
  · have e : l = [] := List.length_eq_zero_iff.mp hl
    subst e
    rw [run_convert_bytes_string w 29 9 5 A 0 c Try.underlying29 Try.underlying5 Try.underlying9]
    cases A with
    | none => simp [Conv.bytesToString]; rfl
    | some ad =>
      have hl := run_loadCells_list (P := Try.prog) w ad [] (fun j v hj => by simp at hj)
      rw [run_bytesToString w ad 0 c [] hl]
      rfl
  · obtain ⟨ad, rfl, hc⟩ := hc0 hn
    have h := run_convert_bytes_back (P := Try.prog) w 29 9 5 ad c (l.map UInt8.ofNat) Try.underlying29 Try.underlying5 Try.underlying9 (fun j hj => by
      have hj' : j < n := by simpa [hl] using hj
      have hjl : j < l.length := by omega
      rw [hc j hj']
      have hb := hx _ (List.getElem_mem hjl)
      simp [List.getD_eq_getElem?_getD, List.getElem?_eq_getElem hjl, UInt8.toNat_ofNat']
      omega)
    rw [List.length_map, hl] at h
    exact h
theorem exec_str {o : Oper} {a : Act} (x : Operand) (ho : o.op = .convert 29 9 x) {w : World} {A : Option Addr} {n c : Nat} {l : List Nat} (hx : a.eval x = .slice A n c) (h : Bytes w A n l) :
    (execOp a.eval o).run Try.prog w = .ok (.value (.string (strL l))) w := by
  have hr := run_str (c := c) h
  unfold execOp
  simp only [ho, hx]
  simp [hr]
theorem yields_str {ops : Array Oper} {S : World → Prop} {op : Oper} {a : Act} (hw : Region.wanted op (yielded ops a.tmps) = true) (x : Operand) (ho : op.op = .convert 29 9 x)
    (A : Option Addr) (n c : Nat) (l : List Nat) (hx : a.eval x = .slice A n c) (hS : ∀ w, S w → Bytes w A n l) : YieldsIf Try.prog ops S op (.string (strL l)) a :=
  .inl ⟨hw, fun w h => exec_str x ho hx (hS w h)⟩
theorem wpList_str {ops : Array Oper} {rest : List Oper} {o : Oper} {a : Act} {w : World} {Q : Exit → Act → World → Prop} (hgd : o.guard = none) (x : Operand) (ho : o.op = .convert 29 9 x)
    (A : Option Addr) (n c : Nat) (l : List Nat) (hx : a.eval x = .slice A n c) (hb : Bytes w A n l)
    (h : wpList Try.prog ops Q rest (a.put o.dst (.string (strL l))) w) : wpList Try.prog ops Q (o :: rest) a w := by
  refine wpList_plain hgd fun K hK => ?_
  unfold Oper.wp
  rw [exec_str x ho hx hb]
  exact hK _ _ h
/-- a string as a new row of bytes -/
theorem bytesWorld_bytes (w : World) (s : ByteArray) (hm : s.size ≤ maxLen) : Bytes (Lib.bytesWorld w 5 s) (some ⟨w.heap.size, 0, none⟩) s.size (natsOf s) := by
  refine ⟨natsOf_len s, hm, natsOf_lt s, fun _ => ⟨_, rfl, fun j hj => ?_⟩⟩
  rw [add_zero_off, Lib.bytesWorld_cell w 5 s j hj]
  have hd : j < s.data.toList.length := by rw [Array.length_toList]; exact hj
  unfold natsOf
  rw [List.getD_eq_getElem?_getD, List.getD_eq_getElem?_getD, List.getElem?_map, List.getElem?_eq_getElem hd]
  rfl
theorem bytesWorld_below (w : World) (s : ByteArray) : Below w.heap.size w (Lib.bytesWorld w 5 s) :=
  ⟨by unfold Lib.bytesWorld World.freeze; split <;> rfl, by unfold Lib.bytesWorld World.freeze; split <;> rfl, by unfold Lib.bytesWorld World.freeze; split <;> rfl, by rw [Lib.bytesWorld_size]; omega, fun k hk => Lib.bytesWorld_at_old w 5 s k hk⟩
theorem exec_bytes {o : Oper} {a : Act} (x : Operand) (ho : o.op = .convert 9 29 x) {w : World} {s : ByteArray} (hx : a.eval x = .string s) :
    (execOp a.eval o).run Try.prog w = .ok (.value (.slice (some ⟨w.heap.size, 0, none⟩) s.size (grownCap w s.size 0 5))) (Lib.bytesWorld w 5 s) := by
  have hr := Lib.run_convert_string_bytes (P := Try.prog) w 9 29 5 s Try.underlying9 Try.underlying29 Try.underlying5
  unfold execOp
  simp only [ho, hx]
  simp [hr]
theorem wpo_bytes {o : Oper} {a : Act} {w : World} {K : Act → World → Prop} {Q : Exit → Act → World → Prop} (x : Operand) (ho : o.op = .convert 9 29 x) (s : ByteArray) (hx : a.eval x = .string s) (hm : s.size ≤ maxLen)
    (h : ∀ c w', s.size ≤ c → Bytes w' (some ⟨w.heap.size, 0, none⟩) s.size (natsOf s) → Below w.heap.size w w' → w.heap.size + 1 ≤ w'.heap.size → K (a.put o.dst (.slice (some ⟨w.heap.size, 0, none⟩) s.size c)) w') : o.wp Try.prog a w K Q := by
  unfold Oper.wp
  rw [exec_bytes x ho hx]
  exact h _ _ (grownCap_ge _ _ _ _) (bytesWorld_bytes w s hm) (bytesWorld_below w s) (by rw [Lib.bytesWorld_size]; exact Nat.le_refl _)
theorem wpList_bytes {ops : Array Oper} {rest : List Oper} {o : Oper} {a : Act} {w : World} {Q : Exit → Act → World → Prop} (hgd : o.guard = none) (x : Operand) (ho : o.op = .convert 9 29 x) (s : ByteArray) (hx : a.eval x = .string s) (hm : s.size ≤ maxLen)
    (h : ∀ c w', s.size ≤ c → Bytes w' (some ⟨w.heap.size, 0, none⟩) s.size (natsOf s) → Below w.heap.size w w' → w.heap.size + 1 ≤ w'.heap.size → wpList Try.prog ops Q rest (a.put o.dst (.slice (some ⟨w.heap.size, 0, none⟩) s.size c)) w') : wpList Try.prog ops Q (o :: rest) a w :=
  wpList_plain hgd fun _ hK => wpo_bytes x ho s hx hm fun c w' h1 h2 h3 h4 => hK _ _ (h c w' h1 h2 h3 h4)
theorem wpo_bytesL {o : Oper} {a : Act} {w : World} {K : Act → World → Prop} {Q : Exit → Act → World → Prop} (x : Operand) (ho : o.op = .convert 9 29 x) (s : ByteArray) (hx : a.eval x = .string s) (n : Nat) (l : List Nat) (hn : s.size = n) (hl : natsOf s = l) (hm : n ≤ maxLen)
    (h : ∀ c w', n ≤ c → Bytes w' (some ⟨w.heap.size, 0, none⟩) n l → Below w.heap.size w w' → w.heap.size + 1 ≤ w'.heap.size → K (a.put o.dst (.slice (some ⟨w.heap.size, 0, none⟩) n c)) w') : o.wp Try.prog a w K Q := by
  subst hn hl
  exact wpo_bytes x ho s hx hm h
theorem wpList_bytesL {ops : Array Oper} {rest : List Oper} {o : Oper} {a : Act} {w : World} {Q : Exit → Act → World → Prop} (hgd : o.guard = none) (x : Operand) (ho : o.op = .convert 9 29 x) (s : ByteArray) (hx : a.eval x = .string s) (n : Nat) (l : List Nat) (hn : s.size = n) (hl : natsOf s = l) (hm : n ≤ maxLen)
    (h : ∀ c w', n ≤ c → Bytes w' (some ⟨w.heap.size, 0, none⟩) n l → Below w.heap.size w w' → w.heap.size + 1 ≤ w'.heap.size → wpList Try.prog ops Q rest (a.put o.dst (.slice (some ⟨w.heap.size, 0, none⟩) n c)) w') : wpList Try.prog ops Q (o :: rest) a w := by
  subst hn hl
  exact wpList_bytes hgd x ho s hx hm h
/-- a block's bytes as a list -/
def listB (f : Nat → Nat) : List Nat := (List.range 16).map f
theorem Arr.bytes {w : World} {g : Nat} {f : Nat → Nat} (h : Arr w g f) (hf : ∀ i, f i < 256) : Bytes w (some ⟨g, 0, none⟩) 16 (listB f) := by
  refine ⟨by simp [listB], by unfold maxLen; omega, fun x hx => ?_, fun _ => ⟨_, rfl, fun j hj => ?_⟩⟩
  · obtain ⟨y, _, rfl⟩ := List.mem_map.mp hx; exact hf y
  · rw [add_zero_off, h.cell hj, listB, List.getD_eq_getElem?_getD, List.getElem?_map, List.getElem?_range hj]; rfl
theorem exec_strEq {o : Oper} {a : Act} (x y : Operand) (ho : o.op = .binOp .eql 9 x y 9) (s t : ByteArray) (b : Bool) (hb : decide (s = t) = b) (hx : a.eval x = .string s) (hy : a.eval y = .string t) (w : World) :
    (execOp a.eval o).run Try.prog w = .ok (.value (.bool b)) w := by
  subst hb
  have e : (s.toList == t.toList) = decide (s = t) := by
    rw [Lib.toList_data, Lib.toList_data, Bool.eq_iff_iff, beq_iff_eq, decide_eq_true_iff]
    refine ⟨fun h => ?_, fun h => by rw [h]⟩
    cases s; cases t
    exact congrArg _ (Array.toList_inj.mp h)
  unfold execOp
  simp only [ho, hx, hy]
  go_simp
theorem yields_strEq {ops : Array Oper} {S : World → Prop} {op : Oper} {a : Act} (hw : Region.wanted op (yielded ops a.tmps) = true) (x y : Operand) (ho : op.op = .binOp .eql 9 x y 9)
    (s t : ByteArray) (b : Bool) (hb : decide (s = t) = b) (hx : a.eval x = .string s) (hy : a.eval y = .string t) : YieldsIf Try.prog ops S op (.bool b) a :=
  .inl ⟨hw, fun w _ => exec_strEq x y ho s t b hb hx hy w⟩
theorem wpList_strEq {ops : Array Oper} {rest : List Oper} {o : Oper} {a : Act} {w : World} {Q : Exit → Act → World → Prop} (hgd : o.guard = none) (x y : Operand) (ho : o.op = .binOp .eql 9 x y 9)
    (s t : ByteArray) (b : Bool) (hb : decide (s = t) = b) (hx : a.eval x = .string s) (hy : a.eval y = .string t)
    (h : wpList Try.prog ops Q rest (a.put o.dst (.bool b)) w) : wpList Try.prog ops Q (o :: rest) a w := by
  refine wpList_plain hgd fun K hK => ?_
  unfold Oper.wp
  rw [exec_strEq x y ho s t b hb hx hy w]
  exact hK _ _ h
theorem strEq_lists {l m : List Nat} (hl : ∀ x ∈ l, x < 256) (hm : ∀ x ∈ m, x < 256) : decide (strL l = strL m) = decide (l = m) := by
  rw [decide_eq_decide]
  exact ⟨strL_inj hl hm, fun h => by rw [h]⟩
end Go.Proofs.Ytibfihjcjohadaa
