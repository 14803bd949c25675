/-
  Small facts on bytes in the walk's spelling: sums, tests of a digit, values. No condition beside the bounds.
-/
import Derived.WalkKit
import Derived.Deep.Draws
import Derived.Test.YtibfihjcjohadaaPFld
namespace Go.Proofs.Ytibfihjcjohadaa
open Go.RowKit Go.Op

theorem ret_int {k : IntKind} {a b : Int} (h : a = b) : Ending.returned (.int k a) = .returned (.int k b) := by rw [h]
theorem ret_bool {a b : Bool} (h : a = b) : Ending.returned (.bool a) = .returned (.bool b) := by rw [h]
theorem val_int {k : IntKind} {a b : Int} (h : a = b) : Value.int k a = .int k b := by rw [h]
theorem ne0 (n : Nat) : (((n : Nat) : Int) != 0) = (n != 0) := by
  rw [Bool.eq_iff_iff]; simp
theorem eq_lit (n m : Nat) : (((n : Nat) : Int) == ((m : Nat) : Int)) = (n == m) := by
  rw [Bool.eq_iff_iff]; simp [Int.ofNat_inj]
theorem and128 {a : Nat} (ha : a < 256) : (bits .and .u8 (a : Int) 128 != 0) = decide (128 ≤ a) := by
  have h := u8_and_nat a 128 ha (by decide)
  rw [show ((128 : Nat) : Int) = 128 from rfl] at h
  rw [h, ne0]
  exact eq_of_beq (Fld.all256 (p := fun a => ((a &&& 128 != 0) == decide (128 ≤ a))) (by decide +kernel) ha)
theorem and1 {a : Nat} (ha : a < 256) : (bits .and .u8 (a : Int) 1 != 0) = decide (a % 2 = 1) := by
  have h := u8_and_nat a 1 ha (by decide)
  rw [show ((1 : Nat) : Int) = 1 from rfl] at h
  rw [h, ne0]
  exact eq_of_beq (Fld.all256 (p := fun a => ((a &&& 1 != 0) == decide (a % 2 = 1))) (by decide +kernel) ha)
theorem ofInt_i64 (a : Nat) (ha : a < 9223372036854775808) : (BitVec.ofInt 64 (a : Int)).toNat = a := by
  rw [BitVec.ofInt_natCast, BitVec.toNat_ofNat]; exact Nat.mod_eq_of_lt (by omega)
theorem i64_and_nat (a b : Nat) (ha : a < 9223372036854775808) (hb : b < 9223372036854775808) : bits .and .i64 (a : Int) (b : Int) = ((a &&& b : Nat) : Int) := by
  have hx : a &&& b < 2 ^ 63 := Nat.and_lt_two_pow _ (by omega)
  show IntKind.i64.wrap ((BitVec.ofInt 64 (a : Int) &&& BitVec.ofInt 64 (b : Int)).toNat : Int) = _
  rw [BitVec.toNat_and, ofInt_i64 a ha, ofInt_i64 b hb]
  exact IntWalk.i64_in _ (by omega)
theorem i64_or_nat (a b : Nat) (ha : a < 9223372036854775808) (hb : b < 9223372036854775808) : bits .or .i64 (a : Int) (b : Int) = ((a ||| b : Nat) : Int) := by
  have hx : a ||| b < 2 ^ 63 := Nat.or_lt_two_pow (by omega) (by omega)
  show IntKind.i64.wrap ((BitVec.ofInt 64 (a : Int) ||| BitVec.ofInt 64 (b : Int)).toNat : Int) = _
  rw [BitVec.toNat_or, ofInt_i64 a ha, ofInt_i64 b hb]
  exact IntWalk.i64_in _ (by omega)
theorem i64_xor_nat (a b : Nat) (ha : a < 9223372036854775808) (hb : b < 9223372036854775808) : bits .xor .i64 (a : Int) (b : Int) = ((a ^^^ b : Nat) : Int) := by
  have hx : a ^^^ b < 2 ^ 63 := Nat.xor_lt_two_pow (by omega) (by omega)
  show IntKind.i64.wrap ((BitVec.ofInt 64 (a : Int) ^^^ BitVec.ofInt 64 (b : Int)).toNat : Int) = _
  rw [BitVec.toNat_xor, ofInt_i64 a ha, ofInt_i64 b hb]
  exact IntWalk.i64_in _ (by omega)
theorem i64_and1 {a : Nat} (ha : a < 9223372036854775808) : (bits .and .i64 (a : Int) 1 != 0) = decide (a % 2 = 1) := by
  have h := i64_and_nat a 1 ha (by decide)
  rw [show ((1 : Nat) : Int) = 1 from rfl] at h
  rw [h, ne0, show a &&& 1 = a % 2 from Nat.and_one_is_mod a, Bool.eq_iff_iff]
  simp

/-- a row of bytes in memory, nil let in -/
def Bytes (w : World) (A : Option Addr) (n : Nat) (l : List Nat) : Prop :=
  l.length = n ∧ n ≤ maxLen ∧ (∀ x ∈ l, x < 256) ∧ (0 < n → ∃ ad, A = some ad ∧ ∀ j, j < n → w.cell? (ad.add j) = some (.int .u8 ((l.getD j 0 : Nat) : Int)))
theorem Bytes.at_ {w : World} {A : Option Addr} {n k : Nat} {l : List Nat} (h : Bytes w A n l) (hk : k < n) : ∃ ad x, A = some ad ∧ l.getD k 0 = x ∧ x < 256 ∧ l[k]? = some x ∧ w.cell? (ad.add k) = some (.int .u8 ((x : Nat) : Int)) := by
  obtain ⟨hl, _, hx, hc⟩ := h
  obtain ⟨ad, hA, hc⟩ := hc (by omega)
  have hkl : k < l.length := by omega
  have e : l.getD k 0 = l[k] := by simp [List.getD, List.getElem?_eq_getElem hkl]
  refine ⟨ad, l.getD k 0, hA, rfl, ?_, ?_, hc k hk⟩
  · rw [e]; exact hx _ (List.getElem_mem hkl)
  · rw [e]; exact List.getElem?_eq_getElem hkl
theorem Bytes.len {w : World} {A : Option Addr} {n : Nat} {l : List Nat} (h : Bytes w A n l) : n ≤ 9223372036854775807 := by
  have := h.2.1; unfold maxLen at this; omega
theorem bytes_nil (w : World) : Bytes w none 0 [] := ⟨rfl, by unfold maxLen; omega, by simp, fun h => absurd h (by omega)⟩
theorem add_zero_off (b j : Nat) : (⟨b, 0, none⟩ : Addr).add j = ⟨b, j, none⟩ := by unfold Addr.add; split <;> simp_all
/-- a row that lies in a block of its own -/
theorem Bytes.block {W : World} {b : Nat} {t : TypeId} {l : List Nat} {cs : Array Value} {fz : Nat × Nat} (hb : W.heap[b]? = some (.cells cs t fz)) (hm : l.length ≤ maxLen) (hx : ∀ x ∈ l, x < 256)
    (hc : ∀ j, j < l.length → cs[j]? = some (.int .u8 ((l.getD j 0 : Nat) : Int))) : Bytes W (some ⟨b, 0, none⟩) l.length l :=
  ⟨rfl, hm, hx, fun _ => ⟨_, rfl, fun j hj => by rw [add_zero_off, cell_of_row W b j cs t fz hb]; exact hc j hj⟩⟩
theorem bytes_two (W : World) (b x y : Nat) (t : TypeId) (hb : b = W.heap.size) (hx : x < 256) (hy : y < 256) :
    Bytes (W.alloc (.cells #[.int .u8 (x : Int), .int .u8 (y : Int)] t)) (some ⟨b, 0, none⟩) 2 [x, y] := by
  subst hb
  refine Bytes.block (l := [x, y]) (heap_alloc_new W _) (by unfold maxLen; simp) (by simp [hx, hy]) (fun j hj => ?_)
  match j, hj with
  | 0, _ => rfl
  | 1, _ => rfl
theorem Bytes.keep {w w' : World} {A : Option Addr} {n : Nat} {l : List Nat} (h : Bytes w A n l) (hk : ∀ p : Addr, p.block < w.heap.size → w'.cell? p = w.cell? p) : Bytes w' A n l :=
  ⟨h.1, h.2.1, h.2.2.1, fun hn => by
    obtain ⟨ad, hA, hc⟩ := h.2.2.2 hn
    refine ⟨ad, hA, fun j hj => ?_⟩
    have h1 := hc j hj
    refine (hk _ ?_).trans h1
    rcases Nat.lt_or_ge (ad.add j).block w.heap.size with hlt | hge
    · exact hlt
    · unfold World.cell? at h1
      rw [Array.getElem?_eq_none hge] at h1
      simp at h1⟩
theorem Bytes.below {w w' : World} {A : Option Addr} {n : Nat} {l : List Nat} (h : Bytes w A n l) (hb : Below w.heap.size w w') : Bytes w' A n l := h.keep fun _ hp => hb.cell hp
theorem Bytes.alloc {w : World} {A : Option Addr} {n : Nat} {l : List Nat} (h : Bytes w A n l) (o : Obj) : Bytes (w.alloc o) A n l := h.keep fun p hp => World.cell?_alloc_lt w o p hp
theorem Bytes.drewN {w : World} {A : Option Addr} {n : Nat} {l : List Nat} (h : Bytes w A n l) (k : Nat) : Bytes (w.drewN k) A n l := h
theorem Bytes.drew {w : World} {A : Option Addr} {n : Nat} {l : List Nat} (h : Bytes w A n l) : Bytes w.drew A n l := h
theorem below_alloc {w w' : World} {o : Obj} (h : Below (w.alloc o).heap.size (w.alloc o) w') : Below w.heap.size w w' :=
  ((Below.refl _ _).alloc (Nat.le_refl _) o).trans (h.mono (by simp))
theorem below_alloc' {w w' : World} {o : Obj} (h : Below w.heap.size (w.alloc o) w') : Below w.heap.size w w' :=
  ((Below.refl _ _).alloc (Nat.le_refl _) o).trans h
/-- the sum of bytes -/
def xsum (l : List Nat) : Nat := l.foldl (· ^^^ ·) 0
theorem xsum_snoc (l : List Nat) (x : Nat) : xsum (l ++ [x]) = xsum l ^^^ x := by simp [xsum]
theorem foldl_xor (l : List Nat) : ∀ a, l.foldl (· ^^^ ·) a = a ^^^ l.foldl (· ^^^ ·) 0 := by
  induction l with
  | nil => intro a; simp
  | cons x l ih => intro a; rw [List.foldl_cons, List.foldl_cons, ih, ih (0 ^^^ x)]; simp [Nat.xor_assoc]
theorem xsum_append (l m : List Nat) : xsum (l ++ m) = xsum l ^^^ xsum m := by
  unfold xsum; rw [List.foldl_append, foldl_xor]
theorem xsum_lt (l : List Nat) (h : ∀ x ∈ l, x < 256) : xsum l < 256 := by
  have key : ∀ l : List Nat, (∀ x ∈ l, x < 256) → ∀ a, a < 256 → l.foldl (· ^^^ ·) a < 256 := by
    intro l
    induction l with
    | nil => intro _ a ha; exact ha
    | cons x l ih => intro h a ha; exact ih (fun y hy => h y (by simp [hy])) _ (Fld.xor_lt ha (h x (by simp)))
  exact key l h 0 (by decide)
end Go.Proofs.Ytibfihjcjohadaa
