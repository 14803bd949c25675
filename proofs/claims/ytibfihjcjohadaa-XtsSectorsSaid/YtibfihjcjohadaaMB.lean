/-
  How bytes lie in memory, rows of the call's own, blocks, small laws. Conditions: lengths below 2^40.
-/
import Derived.WalkKit
import Derived.Deep.Draws
import Derived.Test.YtibfihjcjohadaaPA
import Derived.Test.YtibfihjcjohadaaProg
import Derived.WalkSpells
import Derived.WalkLawsBesides
import Derived.Lib.Hide
import Derived.Laws.AppendOwnNone
import Derived.Deep.AppendLies
import Derived.Maps.AppendAt
import Derived.Deep.OwnRows
import Derived.Deep.WholeRow
/- Small facts on bytes in the walk's spelling: sums, tests of a digit, values. No condition beside the bounds. -/
namespace Go.Proofs.Ytibfihjcjohadaa
open Go.RowKit Go.Op

theorem ret_int {k : IntKind} {a b : Int} (h : a = b) : Ending.returned (.int k a) = .returned (.int k b) := by rw [h]
theorem ret_bool {a b : Bool} (h : a = b) : Ending.returned (.bool a) = .returned (.bool b) := by rw [h]
theorem val_int {k : IntKind} {a b : Int} (h : a = b) : Value.int k a = .int k b := by rw [h]
theorem ne0 (n : Nat) : (((n : Nat) : Int) != 0) = (n != 0) := by
  rw [Bool.eq_iff_iff]; simp
theorem eq_lit (n m : Nat) : (((n : Nat) : Int) == ((m : Nat) : Int)) = (n == m) := by
  rw [Bool.eq_iff_iff]; simp [Int.ofNat_inj]
theorem and128 {a : Nat} (ha : a < 256) : (bits .and .u8 (a : Int) 128 != 0) = decide (128 ≤ a) := by
  have h := u8_and_nat a 128 ha (by decide)
  rw [show ((128 : Nat) : Int) = 128 from rfl] at h
  rw [h, ne0]
  exact eq_of_beq (Fld.all256 (p := fun a => ((a &&& 128 != 0) == decide (128 ≤ a))) (by decide +kernel) ha)
theorem and1 {a : Nat} (ha : a < 256) : (bits .and .u8 (a : Int) 1 != 0) = decide (a % 2 = 1) := by
  have h := u8_and_nat a 1 ha (by decide)
  rw [show ((1 : Nat) : Int) = 1 from rfl] at h
  rw [h, ne0]
  exact eq_of_beq (Fld.all256 (p := fun a => ((a &&& 1 != 0) == decide (a % 2 = 1))) (by decide +kernel) ha)
theorem ofInt_i64 (a : Nat) (ha : a < 9223372036854775808) : (BitVec.ofInt 64 (a : Int)).toNat = a := by
  rw [BitVec.ofInt_natCast, BitVec.toNat_ofNat]; exact Nat.mod_eq_of_lt (by omega)
theorem i64_and_nat (a b : Nat) (ha : a < 9223372036854775808) (hb : b < 9223372036854775808) : bits .and .i64 (a : Int) (b : Int) = ((a &&& b : Nat) : Int) := by
  have hx : a &&& b < 2 ^ 63 := Nat.and_lt_two_pow _ (by omega)
  show IntKind.i64.wrap ((BitVec.ofInt 64 (a : Int) &&& BitVec.ofInt 64 (b : Int)).toNat : Int) = _
  rw [BitVec.toNat_and, ofInt_i64 a ha, ofInt_i64 b hb]
  exact IntWalk.i64_in _ (by omega)
theorem i64_or_nat (a b : Nat) (ha : a < 9223372036854775808) (hb : b < 9223372036854775808) : bits .or .i64 (a : Int) (b : Int) = ((a ||| b : Nat) : Int) := by
  have hx : a ||| b < 2 ^ 63 := Nat.or_lt_two_pow (by omega) (by omega)
  show IntKind.i64.wrap ((BitVec.ofInt 64 (a : Int) ||| BitVec.ofInt 64 (b : Int)).toNat : Int) = _
  rw [BitVec.toNat_or, ofInt_i64 a ha, ofInt_i64 b hb]
  exact IntWalk.i64_in _ (by omega)
theorem i64_xor_nat (a b : Nat) (ha : a < 9223372036854775808) (hb : b < 9223372036854775808) : bits .xor .i64 (a : Int) (b : Int) = ((a ^^^ b : Nat) : Int) := by
  have hx : a ^^^ b < 2 ^ 63 := Nat.xor_lt_two_pow (by omega) (by omega)
  show IntKind.i64.wrap ((BitVec.ofInt 64 (a : Int) ^^^ BitVec.ofInt 64 (b : Int)).toNat : Int) = _
  rw [BitVec.toNat_xor, ofInt_i64 a ha, ofInt_i64 b hb]
  exact IntWalk.i64_in _ (by omega)
theorem i64_and1 {a : Nat} (ha : a < 9223372036854775808) : (bits .and .i64 (a : Int) 1 != 0) = decide (a % 2 = 1) := by
  have h := i64_and_nat a 1 ha (by decide)
  rw [show ((1 : Nat) : Int) = 1 from rfl] at h
  rw [h, ne0, show a &&& 1 = a % 2 from Nat.and_one_is_mod a, Bool.eq_iff_iff]
  simp

/-- a row of bytes in memory, nil let in -/
def Bytes (w : World) (A : Option Addr) (n : Nat) (l : List Nat) : Prop :=
  l.length = n ∧ n ≤ maxLen ∧ (∀ x ∈ l, x < 256) ∧ (0 < n → ∃ ad, A = some ad ∧ ∀ j, j < n → w.cell? (ad.add j) = some (.int .u8 ((l.getD j 0 : Nat) : Int)))
theorem Bytes.at_ {w : World} {A : Option Addr} {n k : Nat} {l : List Nat} (h : Bytes w A n l) (hk : k < n) : ∃ ad x, A = some ad ∧ l.getD k 0 = x ∧ x < 256 ∧ l[k]? = some x ∧ w.cell? (ad.add k) = some (.int .u8 ((x : Nat) : Int)) := by
  obtain ⟨hl, _, hx, hc⟩ := h
  obtain ⟨ad, hA, hc⟩ := hc (by omega)
  have hkl : k < l.length := by omega
  have e : l.getD k 0 = l[k] := by simp [List.getD, List.getElem?_eq_getElem hkl]
  refine ⟨ad, l.getD k 0, hA, rfl, ?_, ?_, hc k hk⟩
  · rw [e]; exact hx _ (List.getElem_mem hkl)
  · rw [e]; exact List.getElem?_eq_getElem hkl
theorem Bytes.len {w : World} {A : Option Addr} {n : Nat} {l : List Nat} (h : Bytes w A n l) : n ≤ 9223372036854775807 := by
  have := h.2.1; unfold maxLen at this; omega
theorem bytes_nil (w : World) : Bytes w none 0 [] := ⟨rfl, by unfold maxLen; omega, by simp, fun h => absurd h (by omega)⟩
theorem add_zero_off (b j : Nat) : (⟨b, 0, none⟩ : Addr).add j = ⟨b, j, none⟩ := by unfold Addr.add; split <;> simp_all
/-- a row that lies in a block of its own -/
theorem Bytes.block {W : World} {b : Nat} {t : TypeId} {l : List Nat} {cs : Array Value} {fz : Nat × Nat} (hb : W.heap[b]? = some (.cells cs t fz)) (hm : l.length ≤ maxLen) (hx : ∀ x ∈ l, x < 256)
    (hc : ∀ j, j < l.length → cs[j]? = some (.int .u8 ((l.getD j 0 : Nat) : Int))) : Bytes W (some ⟨b, 0, none⟩) l.length l :=
  ⟨rfl, hm, hx, fun _ => ⟨_, rfl, fun j hj => by rw [add_zero_off, cell_of_row W b j cs t fz hb]; exact hc j hj⟩⟩
theorem bytes_two (W : World) (b x y : Nat) (t : TypeId) (hb : b = W.heap.size) (hx : x < 256) (hy : y < 256) :
    Bytes (W.alloc (.cells #[.int .u8 (x : Int), .int .u8 (y : Int)] t)) (some ⟨b, 0, none⟩) 2 [x, y] := by
  subst hb
  refine Bytes.block (l := [x, y]) (heap_alloc_new W _) (by unfold maxLen; simp) (by simp [hx, hy]) (fun j hj => ?_)
  match j, hj with
  | 0, _ => rfl
  | 1, _ => rfl
theorem Bytes.keep {w w' : World} {A : Option Addr} {n : Nat} {l : List Nat} (h : Bytes w A n l) (hk : ∀ p : Addr, p.block < w.heap.size → w'.cell? p = w.cell? p) : Bytes w' A n l :=
  ⟨h.1, h.2.1, h.2.2.1, fun hn => by
    obtain ⟨ad, hA, hc⟩ := h.2.2.2 hn
    refine ⟨ad, hA, fun j hj => ?_⟩
    have h1 := hc j hj
    refine (hk _ ?_).trans h1
    rcases Nat.lt_or_ge (ad.add j).block w.heap.size with hlt | hge
    · exact hlt
    · unfold World.cell? at h1
      rw [Array.getElem?_eq_none hge] at h1
      simp at h1⟩
theorem Bytes.below {w w' : World} {A : Option Addr} {n : Nat} {l : List Nat} (h : Bytes w A n l) (hb : Below w.heap.size w w') : Bytes w' A n l := h.keep fun _ hp => hb.cell hp
theorem Bytes.alloc {w : World} {A : Option Addr} {n : Nat} {l : List Nat} (h : Bytes w A n l) (o : Obj) : Bytes (w.alloc o) A n l := h.keep fun p hp => World.cell?_alloc_lt w o p hp
theorem Bytes.drewN {w : World} {A : Option Addr} {n : Nat} {l : List Nat} (h : Bytes w A n l) (k : Nat) : Bytes (w.drewN k) A n l := h
theorem Bytes.drew {w : World} {A : Option Addr} {n : Nat} {l : List Nat} (h : Bytes w A n l) : Bytes w.drew A n l := h
theorem below_alloc {w w' : World} {o : Obj} (h : Below (w.alloc o).heap.size (w.alloc o) w') : Below w.heap.size w w' :=
  ((Below.refl _ _).alloc (Nat.le_refl _) o).trans (h.mono (by simp))
theorem below_alloc' {w w' : World} {o : Obj} (h : Below w.heap.size (w.alloc o) w') : Below w.heap.size w w' :=
  ((Below.refl _ _).alloc (Nat.le_refl _) o).trans h
/-- the sum of bytes -/
def xsum (l : List Nat) : Nat := l.foldl (· ^^^ ·) 0
theorem xsum_snoc (l : List Nat) (x : Nat) : xsum (l ++ [x]) = xsum l ^^^ x := by simp [xsum]
theorem foldl_xor (l : List Nat) : ∀ a, l.foldl (· ^^^ ·) a = a ^^^ l.foldl (· ^^^ ·) 0 := by
  induction l with
  | nil => intro a; simp
  | cons x l ih => intro a; rw [List.foldl_cons, List.foldl_cons, ih, ih (0 ^^^ x)]; simp [Nat.xor_assoc]
theorem xsum_append (l m : List Nat) : xsum (l ++ m) = xsum l ^^^ xsum m := by
  unfold xsum; rw [List.foldl_append, foldl_xor]
theorem xsum_lt (l : List Nat) (h : ∀ x ∈ l, x < 256) : xsum l < 256 := by
  have key : ∀ l : List Nat, (∀ x ∈ l, x < 256) → ∀ a, a < 256 → l.foldl (· ^^^ ·) a < 256 := by
    intro l
    induction l with
    | nil => intro _ a ha; exact ha
    | cons x l ih => intro h a ha; exact ih (fun y hy => h y (by simp [hy])) _ (Fld.xor_lt ha (h x (by simp)))
  exact key l h 0 (by decide)
end Go.Proofs.Ytibfihjcjohadaa
/- The walks of package field: Twice, Mul, Power, Inv, Sum: what each call answers, of whatever bytes; nothing is written. -/
namespace Go.Proofs.Ytibfihjcjohadaa
open Go.RowKit Go.Op
open Fld (tw mul mulL tw_lt xor_lt mul_lt pw powL npow inv)

set_option maxHeartbeats 400000 in
theorem twice_any (a : Nat) (ha : a < 256) (w : World) :
    Calls Try.prog 32 #[.int .u8 (a : Int)] w fun e w' => e = .returned (.int .u8 ((tw a : Nat) : Int)) ∧ w = w' := by
  have ht := and128 ha
  by_cases h : 128 ≤ a
  · have hb : (bits .and .u8 (a : Int) 128 != 0) = true := by rw [ht]; simpa using h
    clear ht
    go_enter Try.func32, Try.ntmps32
    go_wp2
    go_ret
    refine ⟨ret_int ?_, rfl⟩
    have e := u8_xor_nat (a * 2 % 256) 27 (by omega) (by decide)
    rw [show ((27 : Nat) : Int) = 27 from rfl] at e
    have e2 : ((a * 2 % 256 : Nat) : Int) = (a : Int) * 2 % 256 := by omega
    rw [← e2, e, tw, if_neg (by omega), show a * 2 % 256 = 2 * a - 256 by omega]
  · have hb : (bits .and .u8 (a : Int) 128 != 0) = false := by rw [ht]; simpa using h
    clear ht
    go_enter Try.func32, Try.ntmps32
    go_wp2
    go_ret
    refine ⟨ret_int ?_, rfl⟩
    rw [tw, if_pos (by omega)]
    omega

theorem mulL_done (k a o : Nat) : mulL k a 0 o = o := by cases k <;> simp [mulL]
set_option maxHeartbeats 400000 in
theorem mul_any (a b : Nat) (ha : a < 256) (hb : b < 256) (w : World) :
    Calls Try.prog 30 #[.int .u8 (a : Int), .int .u8 (b : Int)] w fun e w' => e = .returned (.int .u8 ((mul a b : Nat) : Int)) ∧ w = w' := by
  go_enter Try.func30, Try.ntmps30
  go_wp2
  go_loop [0, 1, 4] (fun x y z => ∃ k p q r : Nat, x = .int .u8 (p : Int) ∧ y = .int .u8 (q : Int) ∧ z = .int .u8 (r : Int) ∧ p < 256 ∧ q < 256 ∧ r < 256 ∧ q < 2 ^ k ∧ Hid (mulL k p q r = mul a b)) (fun _ y _ => (intOf y).toNat)
  case atStart => exact ⟨8, a, b, 0, rfl, rfl, rfl, ha, hb, by decide, by omega, rfl⟩
  case round =>
    obtain ⟨k, p, q, r, rfl, rfl, rfl, hp, hq, hr, hk, H⟩ := hrel
    by_cases h0 : q = 0
    · subst h0
      go_wp2
      go_ret
      exact ⟨ret_int (by rw [← H.out, mulL_done]), rfl⟩
    · have ht := and1 hq
      have hne : ((q : Int) != 0) = true := by rw [ne0]; simpa using h0
      have hk' : ∃ k', k = k' + 1 ∧ q / 2 < 2 ^ k' := by
        cases k with
        | zero => simp at hk; omega
        | succ k => exact ⟨k, rfl, by rw [Nat.pow_succ] at hk; omega⟩
      obtain ⟨k', rfl, hk2⟩ := hk'
      clear hk
      by_cases h2 : q % 2 = 0
      · have hb2 : (bits .and .u8 (q : Int) 1 != 0) = false := by rw [ht]; simp [h2]
        have HM : Hid (mulL k' (tw p) (q / 2) r = mul a b) := by rw [← H.out]; show _ = mulL (k' + 1) p q r; rw [mulL, if_neg h0, if_pos h2]
        clear ht
        go_wp2_with (go_at_call 32; refine (twice_any p hp _).mono ?_; rintro e w' ⟨rfl, rfl⟩)
        go_round
        case rel => exact ⟨k', tw p, q / 2, r, rfl, val_int (by omega), rfl, tw_lt hp, by omega, hr, hk2, HM⟩
        case measure => simp [intOf]; omega
      · have hb2 : (bits .and .u8 (q : Int) 1 != 0) = true := by rw [ht]; simp; omega
        have HM : Hid (mulL k' (tw p) (q / 2) (r ^^^ p) = mul a b) := by rw [← H.out]; show _ = mulL (k' + 1) p q r; rw [mulL, if_neg h0, if_neg h2]
        have hx := u8_xor_nat r p hr hp
        clear ht
        go_wp2_with (go_at_call 32; refine (twice_any p hp _).mono ?_; rintro e w' ⟨rfl, rfl⟩)
        go_round
        case rel => exact ⟨k', tw p, q / 2, r ^^^ p, rfl, val_int (by omega), rfl, tw_lt hp, by omega, xor_lt hr hp, hk2, HM⟩
        case measure => simp [intOf]; omega

/-- a power, of whatever number -/
def powI (a : Nat) (n : Int) : Nat := if a = 0 ∧ n ≠ 0 then 0 else pw a (n % 255).toNat
theorem powL_done (k a o : Nat) : powL k a 0 o = o := by cases k <;> simp [powL]
theorem tmod_twice (n : Int) : (n.tmod 255 + 255).tmod 255 = n % 255 := by
  rw [Int.tmod_eq_emod, Int.tmod_eq_emod]; split <;> split <;> omega
theorem tmod_range (n : Int) : -254 ≤ n.tmod 255 ∧ n.tmod 255 ≤ 254 := by
  rw [Int.tmod_eq_emod]; split <;> omega
set_option maxHeartbeats 400000 in
theorem power_walk (a m : Nat) (n : Int) (ha : a < 256) (hm : m < 255) (w : World) (hn : n % 255 = (m : Int)) (h0 : ((a : Int) == 0) = false ∨ (((a : Int) == 0) = true ∧ (n != 0) = false)) :
    Calls Try.prog 35 #[.int .u8 (a : Int), .int .i64 n] w fun e w' => e = .returned (.int .u8 ((pw a m : Nat) : Int)) ∧ w = w' := by
  have e1 := tmod_twice n
  have hr := tmod_range n
  have e2 : IntKind.i64.wrap (n.tmod 255) = n.tmod 255 := IntWalk.i64_in _ (by omega)
  have e3 : IntKind.i64.wrap (n.tmod 255 + 255) = n.tmod 255 + 255 := IntWalk.i64_in _ (by omega)
  rw [hn] at e1
  have HN := Lib.hid hn
  clear hn
  rcases h0 with h0 | ⟨h0, h1⟩
  all_goals
    go_enter Try.func35, Try.ntmps35
    go_wp2
    go_loop [0, 1, 5] (fun x y z => ∃ k p q r : Nat, x = .int .u8 (p : Int) ∧ y = .int .i64 (q : Int) ∧ z = .int .u8 (r : Int) ∧ p < 256 ∧ q < 255 ∧ r < 256 ∧ q < 2 ^ k ∧ Hid (powL k p q r = pw a m)) (fun _ y _ => (intOf y).toNat)
    case atStart => exact ⟨8, a, m, 1, rfl, rfl, rfl, ha, hm, by decide, by omega, rfl⟩
    case round =>
      obtain ⟨k, p, q, r, rfl, rfl, rfl, hp, hq, hr, hk, H⟩ := hrel
      by_cases hq0 : q = 0
      · subst hq0
        go_wp2
        go_ret
        exact ⟨ret_int (by rw [← H.out, powL_done]), rfl⟩
      · have ht := i64_and1 (a := q) (by omega)
        have hpos : 0 < (q : Int) := by omega
        have hk' : ∃ k', k = k' + 1 ∧ q / 2 < 2 ^ k' := by
          cases k with
          | zero => simp at hk; omega
          | succ k => exact ⟨k, rfl, by rw [Nat.pow_succ] at hk; omega⟩
        obtain ⟨k', rfl, hk2⟩ := hk'
        clear hk
        by_cases h2 : q % 2 = 0
        · have hb2 : (bits .and .i64 (q : Int) 1 != 0) = false := by rw [ht]; simp [h2]
          have HM : Hid (powL k' (mul p p) (q / 2) r = pw a m) := by rw [← H.out]; show _ = powL (k' + 1) p q r; rw [powL, if_neg hq0, if_pos h2]
          clear ht
          go_wp2_with (go_at_call 30; refine (mul_any p p hp hp _).mono ?_; rintro e w' ⟨rfl, rfl⟩)
          go_round
          case rel => exact ⟨k', mul p p, q / 2, r, rfl, val_int (by omega), rfl, mul_lt hp, by omega, hr, hk2, HM⟩
          case measure => simp [intOf]; omega
        · have hb2 : (bits .and .i64 (q : Int) 1 != 0) = true := by rw [ht]; simp; omega
          have HM : Hid (powL k' (mul p p) (q / 2) (mul r p) = pw a m) := by rw [← H.out]; show _ = powL (k' + 1) p q r; rw [powL, if_neg hq0, if_neg h2]
          clear ht
          go_wp2_with fail
          refine (mul_any r p hr hp _).mono ?_
          rintro e w' ⟨rfl, rfl⟩
          go_wp2_with fail
          refine (mul_any p p hp hp _).mono ?_
          rintro e w' ⟨rfl, rfl⟩
          go_wp2_with fail
          go_round
          case rel => exact ⟨k', mul p p, q / 2, mul r p, rfl, val_int (by omega), rfl, mul_lt hp, by omega, mul_lt hr, hk2, HM⟩
          case measure => simp [intOf]; omega
set_option maxHeartbeats 400000 in
theorem power_zero (n : Int) (w : World) (h1 : (n != 0) = true) :
    Calls Try.prog 35 #[.int .u8 0, .int .i64 n] w fun e w' => e = .returned (.int .u8 0) ∧ w = w' := by
  go_enter Try.func35, Try.ntmps35
  go_wp2
  go_ret
  exact ⟨rfl, rfl⟩
theorem power_any (a : Nat) (n : Int) (ha : a < 256) (w : World) :
    Calls Try.prog 35 #[.int .u8 (a : Int), .int .i64 n] w fun e w' => e = .returned (.int .u8 ((powI a n : Nat) : Int)) ∧ w = w' := by
  by_cases h0 : a = 0 ∧ n ≠ 0
  · obtain ⟨rfl, hn⟩ := h0
    have e : powI 0 n = 0 := by unfold powI; rw [if_pos ⟨rfl, hn⟩]
    rw [e]
    exact power_zero n w (by simpa using hn)
  · have e : powI a n = pw a (n % 255).toNat := by unfold powI; rw [if_neg h0]
    rw [e]
    refine power_walk a _ n ha (by omega) w (by omega) ?_
    by_cases ha0 : a = 0
    · right
      subst ha0
      have : n = 0 := by
        rcases Classical.em (n = 0) with h | h
        · exact h
        · exact absurd ⟨rfl, h⟩ h0
      subst this
      exact ⟨rfl, rfl⟩
    · left
      rw [show ((0 : Int)) = ((0 : Nat) : Int) from rfl, eq_lit]
      simpa using ha0
theorem powI_lt {a : Nat} (ha : a < 256) (n : Int) : powI a n < 256 := by
  unfold powI; split
  · decide
  · rw [Fld.pw_eq ha (by omega)]; exact Fld.npow_lt ha _
theorem powI_inv (a : Nat) : powI a (-1) = inv a := by
  unfold powI
  split
  · rename_i h; rw [h.1]; exact (by decide +kernel : 0 = inv 0)
  · rfl
set_option maxHeartbeats 400000 in
theorem inv_any (a : Nat) (ha : a < 256) (w : World) :
    Calls Try.prog 33 #[.int .u8 (a : Int)] w fun e w' => e = .returned (.int .u8 ((inv a : Nat) : Int)) ∧ w = w' := by
  have c := fun w => power_any a (-1) ha w
  rw [powI_inv a] at c
  have C := Lib.hid c
  clear c
  go_enter Try.func33, Try.ntmps33
  go_wp2_with (go_at_call 35; refine (C.out _).mono ?_; rintro e w' ⟨rfl, rfl⟩)
  go_ret
  exact ⟨rfl, rfl⟩
set_option maxHeartbeats 400000 in
theorem sum_any (A : Option Addr) (n c : Nat) (l : List Nat) (w : World) (hl : Bytes w A n l) :
    Calls Try.prog 31 #[.slice A n c] w fun e w' => e = .returned (.int .u8 ((xsum l : Nat) : Int)) ∧ w = w' := by
  have hlen := hl.len
  have hll : Hid (l.length = n) := hl.1
  go_enter Try.func31, Try.ntmps31
  go_wp2
  go_loop [2, 7] (fun s i => ∃ k : Nat, k ≤ n ∧ i = .int .i64 (k : Int) ∧ s = .int .u8 ((xsum (l.take k) : Nat) : Int)) (fun _ i => n - (intOf i).toNat)
  case atStart => exact ⟨0, Nat.zero_le _, rfl, rfl⟩
  case round =>
    obtain ⟨k, hk, rfl, rfl⟩ := hrel
    by_cases hlt : k < n
    · obtain ⟨ad, x, rfl, _, hx, hx2, hc⟩ := hl.at_ hlt
      have hs : xsum (l.take k) < 256 := xsum_lt _ (fun y hy => hl.2.2.1 y (List.mem_of_mem_take hy))
      have he := u8_xor_nat (xsum (l.take k)) x hs hx
      have HS : Hid (xsum (l.take (k + 1)) = xsum (l.take k) ^^^ x) := by
        show _ = _
        rw [List.take_add_one, hx2]; exact xsum_snoc _ _
      clear hx2
      go_wp2
      go_round
      case rel => exact ⟨k + 1, by omega, by go_num, by rw [HS.out]⟩
      case measure => simp [intOf]; omega
    · have e : k = n := by omega
      subst e
      go_wp2
      go_ret
      exact ⟨ret_int (by rw [List.take_of_length_le (by rw [hll.out]; omega)]), rfl⟩
end Go.Proofs.Ytibfihjcjohadaa
/- A row of bytes that the call itself has made, and what an append leaves of it. Conditions: lengths below 2^40. -/
namespace Go.Proofs.Ytibfihjcjohadaa
open Go.RowKit Go.Op

theorem bytes_one (W : World) (b x : Nat) (t : TypeId) (hb : b = W.heap.size) (hx : x < 256) : Bytes (W.alloc (.cells #[.int .u8 (x : Int)] t)) (some ⟨b, 0, none⟩) 1 [x] := by
  subst hb
  refine Bytes.block (l := [x]) (heap_alloc_new W _) (by unfold maxLen; simp) (by simp [hx]) (fun j hj => ?_)
  match j, hj with
  | 0, _ => rfl
/-- a byte as a cell -/
abbrev cellOf (x : Nat) : Value := .int .u8 (x : Int)
/-- the value v owns the bytes l, in a block from base on -/
def Own (w : World) (base : Nat) (v : Value) (l : List Nat) : Prop :=
  w.ownsRow base 5 1 v l.length (l.map cellOf) ∧ l.length ≤ 1099511627776 ∧ ∀ x ∈ l, x < 256
theorem own_nil (w : World) (base : Nat) : Own w base (.slice none 0 0) [] := ⟨World.ownsRow_nil _ _ _ _, by simp, by simp⟩
theorem Own.alloc {w : World} {base : Nat} {v : Value} {l : List Nat} (h : Own w base v l) (o : Obj) : Own (w.alloc o) base v l := ⟨h.1.alloc o, h.2⟩
theorem Own.kept {w w' : World} {base : Nat} {v : Value} {l : List Nat} {row : Option Nat} (h : Own w base v l) (hg : w.grownBy w' row) (hne : v.ownBlock = none ∨ v.ownBlock ≠ row) : Own w' base v l := ⟨h.1.kept hg hne, h.2⟩
theorem Own.below {w w' : World} {base B : Nat} {v : Value} {l : List Nat} (h : Own w base v l) (hb : Below B w w') (hB : w.heap.size ≤ B) : Own w' base v l := by
  refine h.kept (row := none) ⟨hb.os, hb.tape, hb.output, hb.size, fun i hi _ => hb.block i (by omega)⟩ ?_
  rcases hv : v.ownBlock with _ | g
  · exact .inl rfl
  · exact .inr (by simp)
theorem Own.bytes {w : World} {base : Nat} {v : Value} {l : List Nat} (h : Own w base v l) : ∃ A c, v = .slice A l.length c ∧ Bytes w A l.length l := by
  obtain ⟨hr, hle, hx⟩ := h
  have hml : l.length ≤ maxLen := by unfold maxLen; omega
  rcases hr.2 with ⟨rfl, h0⟩ | ⟨g, cap, cur, rfl, _, hg, _, _, hs, ht⟩
  · have : l = [] := List.eq_nil_of_length_eq_zero h0
    subst this
    exact ⟨none, 0, rfl, bytes_nil w⟩
  · refine ⟨_, _, rfl, Bytes.block hg hml hx (fun j hj => ?_)⟩
    have h1 : (cur.toList.take (l.length * 1))[j]? = (l.map cellOf)[j]? := by rw [ht]
    rw [List.getElem?_take, if_pos (by omega)] at h1
    rw [← Array.getElem?_toList, h1]
    simp [List.getD, List.getElem?_eq_getElem hj]
theorem Own.ge {w : World} {base : Nat} {v : Value} {l : List Nat} (h : Own w base v l) : ∀ k, v.ownBlock = some k → base ≤ k ∧ k < w.heap.size := h.1.lt

theorem try_info5 : (Try.prog.info? 5).map (fun i => (i.zero, i.size, i.bytes)) = some (some (.int .u8 0), 1, 1) := by kernel_rfl
theorem run_app_nil (w : World) (base : Nat) (ty : TypeId) (i : TypeInfo) (hi : Try.prog.info? 5 = some i) (v : Value) (n : Nat) (xs : List Value) (hown : w.ownsRow base 5 1 v n xs) (c : Nat) :
    (Builtin.append_ #[29, 29] ty #[v, .slice none 0 c]).run Try.prog w = .ok v w := by
  rcases hown.2 with ⟨rfl, rfl⟩ | ⟨g, cap, cur, rfl, _, _, hnc, _⟩
  · simp [Builtin.append_, run_underlying Try.underlying29, sizeOf, typeInfo, hi, Builtin.lenOf, Builtin.firstCells]
  · simp [Builtin.append_, run_underlying Try.underlying29, sizeOf, typeInfo, hi, Builtin.lenOf, Builtin.firstCells, hnc, storeCells]
/-- 'append(s, x...)' of bytes onto a row of the call's own: x nil, empty or not -/
theorem wp_app {ops : Array Oper} {rest : List Oper} {o : Oper} {a : Act} {w : World} {Q : Exit → Act → World → Prop} (hgd : o.guard = none) (s x : Operand)
    (ho : o.op = .call { callee := .builtin .append, args := #[s, x], argTypes := #[29, 29] })
    (base : Nat) (v : Value) (l : List Nat) (hs : a.eval s = v) (hown : Own w base v l)
    (A : Option Addr) (m c : Nat) (news : List Nat) (hx : a.eval x = .slice A m c) (hnews : Bytes w A m news) (hlen : l.length + m ≤ 1099511627776) (hbase : base ≤ w.heap.size)
    (h : ∀ v' w', Own w' base v' (l ++ news) → w.grownBy w' v.ownBlock → wpList Try.prog ops Q rest (a.put o.dst v') w') : wpList Try.prog ops Q (o :: rest) a w := by
  obtain ⟨i, hi, hz0, hz1, hz2⟩ := info_parts try_info5
  rcases A with _ | ad
  · have hm : m = 0 := by
      rcases Nat.eq_zero_or_pos m with h0 | h0
      · exact h0
      · obtain ⟨ad, hA, _⟩ := hnews.2.2.2 h0
        cases hA
    subst hm
    have hn : news = [] := List.eq_nil_of_length_eq_zero hnews.1
    subst hn
    refine wpList_plain hgd fun K hK => ?_
    have hrun := run_app_nil w base o.type i hi v _ _ hown.1 c
    have h' := h v w (by simpa using hown) (World.grownBy.refl w _)
    unfold Oper.wp
    simp [execOp, ho, resolve, invoke, builtin, hs, hx, hrun, Result.andThen]
    exact hK _ _ h'
  · refine wpList_append_own (w := w) hgd s x 29 ho base 5 i (.int .u8 0) 1 1 Try.underlying29 hi hz0 hz1 hz2 rfl (by decide) v _ _ hs hown.1 ad m c (news.map cellOf) hx ?_ ?_ ?_ ?_ ?_ hbase ?_
    · simp [hnews.1]
    · intro j u hj
      have hjm : j < m := by
        have := (List.getElem?_eq_some_iff.mp hj).1
        simp [hnews.1] at this; exact this
      obtain ⟨ad', y, hA, _, _, hy, hc⟩ := hnews.at_ hjm
      cases hA
      rw [List.getElem?_map, hy] at hj
      simp at hj
      subst hj; exact hc
    · intro u hu
      obtain ⟨y, _, rfl⟩ := List.mem_map.mp hu
      rfl
    · unfold maxLen; omega
    · omega
    · intro v' w' hown' hgrow _
      refine h v' w' ⟨by simpa [hnews.1] using hown', by rw [List.length_append, hnews.1]; exact hlen, ?_⟩ hgrow
      intro y hy
      rcases List.mem_append.mp hy with hy | hy
      · exact hown.2.2 y hy
      · exact hnews.2.2.1 y hy
end Go.Proofs.Ytibfihjcjohadaa
/- Rows of bytes and of words that the call itself has made, and what an append leaves of them, with the place where the row lies. Conditions: lengths below 2^40. -/
namespace Go.Proofs.Ytibfihjcjohadaa
open Go.RowKit Go.Op
theorem add_off (b o j : Nat) : (⟨b, o, none⟩ : Addr).add j = ⟨b, o + j, none⟩ := by unfold Addr.add; split <;> simp_all
theorem none_or (o : Option Nat) : o = none ∨ o ≠ none := by cases o <;> simp
theorem grown_below {a w w' : World} {B : Nat} {v : Value} (hb : Below B a w) (hg : w.grownBy w' v.ownBlock) (hB : B ≤ w.heap.size) (hv : ∀ k, v.ownBlock = some k → B ≤ k) : Below B a w' :=
  ⟨hg.os.trans hb.os, hg.tape.trans hb.tape, hg.output.trans hb.output, Nat.le_trans hb.size hg.size, fun i hi => (hg.block i (by omega) (fun e => by have := hv i e.symm; omega)).trans (hb.block i hi)⟩
/-- words in a row in memory, nil let in -/
def Words (w : World) (A : Option Addr) (n : Nat) (l : List Nat) : Prop :=
  l.length = n ∧ n ≤ maxLen ∧ (∀ x ∈ l, x < 4294967296) ∧ (0 < n → ∃ ad, A = some ad ∧ ∀ j, j < n → w.cell? (ad.add j) = some (.int .u32 ((l.getD j 0 : Nat) : Int)))
theorem Words.keep {w w' : World} {A : Option Addr} {n : Nat} {l : List Nat} (h : Words w A n l) (hk : ∀ p : Addr, p.block < w.heap.size → w'.cell? p = w.cell? p) : Words w' A n l :=
  ⟨h.1, h.2.1, h.2.2.1, fun hn => by
    obtain ⟨ad, hA, hc⟩ := h.2.2.2 hn
    refine ⟨ad, hA, fun j hj => ?_⟩
    have h1 := hc j hj
    exact (hk _ (World.block_lt_of_cell? w _ h1)).trans h1⟩
theorem Words.below {w w' : World} {A : Option Addr} {n : Nat} {l : List Nat} (h : Words w A n l) (hb : Below w.heap.size w w') : Words w' A n l := h.keep fun _ hp => hb.cell hp
theorem Words.alloc {w : World} {A : Option Addr} {n : Nat} {l : List Nat} (h : Words w A n l) (o : Obj) : Words (w.alloc o) A n l := h.keep fun p hp => World.cell?_alloc_lt w o p hp
/-- the value v owns the words l, in a block from base on -/
def OwnW (w : World) (base : Nat) (v : Value) (l : List Nat) : Prop :=
  w.ownsRow base 50 1 v l.length (l.map fun x : Nat => Value.int .u32 (x : Int)) ∧ l.length ≤ 1099511627776 ∧ ∀ x ∈ l, x < 4294967296
theorem ownW_nil (w : World) (base : Nat) : OwnW w base (.slice none 0 0) [] := ⟨World.ownsRow_nil _ _ _ _, by simp, by simp⟩
theorem OwnW.kept {w w' : World} {base : Nat} {v : Value} {l : List Nat} {row : Option Nat} (h : OwnW w base v l) (hg : w.grownBy w' row) (hne : v.ownBlock = none ∨ v.ownBlock ≠ row) : OwnW w' base v l := ⟨h.1.kept hg hne, h.2⟩
theorem OwnW.alloc {w : World} {base : Nat} {v : Value} {l : List Nat} (h : OwnW w base v l) (o : Obj) : OwnW (w.alloc o) base v l := ⟨h.1.alloc o, h.2⟩
theorem OwnW.below {w w' : World} {base B : Nat} {v : Value} {l : List Nat} (h : OwnW w base v l) (hb : Below B w w') (hB : w.heap.size ≤ B) : OwnW w' base v l :=
  h.kept (row := none) ⟨hb.os, hb.tape, hb.output, hb.size, fun i hi _ => hb.block i (by omega)⟩ (none_or _)
theorem OwnW.ge {w : World} {base : Nat} {v : Value} {l : List Nat} (h : OwnW w base v l) : ∀ k, v.ownBlock = some k → base ≤ k ∧ k < w.heap.size := h.1.lt
theorem try_info50 : (Try.prog.info? 50).map (fun i => (i.zero, i.size, i.bytes)) = some (some (.int .u32 0), 1, 4) := by kernel_rfl

/-- 'append(s, x...)' onto a row of the call's own: x nil, empty or not -/
theorem run_appA (w : World) (ty : TypeId) (base : Nat) (v : Value) (l : List Nat) (hown : Own w base v l)
    (A : Option Addr) (m c : Nat) (news : List Nat) (hnews : Bytes w A m news) (hlen : l.length + m ≤ 1099511627776) (hbase : base ≤ w.heap.size) :
    ∃ v' w', (Builtin.append_ #[29, 29] ty #[v, .slice A m c]).run Try.prog w = .ok v' w' ∧ Own w' base v' (l ++ news) ∧ w.grownBy w' v.ownBlock ∧ (v'.ownBlock = v.ownBlock ∨ v'.ownBlock = some w.heap.size) := by
  obtain ⟨i, hi, hz0, hz1, hz2⟩ := info_parts try_info5
  rcases A with _ | ad
  · have hm : m = 0 := by
      rcases Nat.eq_zero_or_pos m with h0 | h0
      · exact h0
      · obtain ⟨_, hA, _⟩ := hnews.2.2.2 h0
        cases hA
    subst hm
    have hn : news = [] := List.eq_nil_of_length_eq_zero hnews.1
    subst hn
    refine ⟨v, w, ?_, by simpa using hown, World.grownBy.refl w _, .inl rfl⟩
    rcases hown.1.2 with ⟨rfl, _⟩ | ⟨g, cap, cur, rfl, _, _, hnc, _⟩
    · simp [Builtin.append_, run_underlying Try.underlying29, sizeOf, typeInfo, hi, Builtin.lenOf, Builtin.firstCells]
    · simp [Builtin.append_, run_underlying Try.underlying29, sizeOf, typeInfo, hi, Builtin.lenOf, Builtin.firstCells, hnc, storeCells]
  · have hcells : ∀ j u, (news.map fun x : Nat => Value.int .u8 (x : Int))[j]? = some u → w.cell? (ad.add j) = some u := by
      intro j u hj
      have hjm : j < m := by
        have := (List.getElem?_eq_some_iff.mp hj).1
        simp [hnews.1] at this; exact this
      obtain ⟨ad', hA, hc⟩ := hnews.2.2.2 (by omega)
      have hA := Option.some.inj hA
      subst hA
      rw [hc j hjm, ← hj]
      have hjl : j < news.length := by rw [hnews.1]; exact hjm
      simp [List.getD, List.getElem?_eq_getElem hjl]
    have hone : ∀ u ∈ (news.map fun x : Nat => Value.int .u8 (x : Int)), u.oneCell' = true := by
      intro u hu
      obtain ⟨y, _, rfl⟩ := List.mem_map.mp hu
      rfl
    obtain ⟨v', w', hr, h2, h3, _, h5⟩ := run_append_own_at (P := Try.prog) w base 29 ty 5 i (.int .u8 0) 1 1 Try.underlying29 hi hz0 hz1 hz2 rfl (by decide) v l.length (l.map fun x : Nat => Value.int .u8 (x : Int)) hown.1 ad m c (news.map fun x : Nat => Value.int .u8 (x : Int)) (by simp [hnews.1]) hcells hone (by unfold maxLen; omega) (by omega) hbase
    refine ⟨v', w', hr, ⟨?_, by rw [List.length_append, hnews.1]; exact hlen, fun x hx => ?_⟩, h3, h5⟩
    · rw [List.length_append, hnews.1, List.map_append]; exact h2
    · rcases List.mem_append.mp hx with hx | hx
      · exact hown.2.2 x hx
      · exact hnews.2.2.1 x hx
set_option maxRecDepth 100000 in
theorem wp_appA {ops : Array Oper} {rest : List Oper} {o : Oper} {a : Act} {w : World} {Q : Exit → Act → World → Prop} (hgd : o.guard = none) (s x : Operand)
    (ho : o.op = .call { callee := .builtin .append, args := #[s, x], argTypes := #[29, 29] })
    (base : Nat) (v : Value) (l : List Nat) (hs : a.eval s = v) (hown : Own w base v l)
    (A : Option Addr) (m c : Nat) (news : List Nat) (hx : a.eval x = .slice A m c) (hnews : Bytes w A m news) (hlen : l.length + m ≤ 1099511627776) (hbase : base ≤ w.heap.size)
    (h : ∀ v' w', Own w' base v' (l ++ news) → w.grownBy w' v.ownBlock → (v'.ownBlock = v.ownBlock ∨ v'.ownBlock = some w.heap.size) → wpList Try.prog ops Q rest (a.put o.dst v') w') : wpList Try.prog ops Q (o :: rest) a w := by
  refine wpList_plain hgd fun K hK => ?_
  obtain ⟨v', w', hr, h2, h3, h5⟩ := run_appA w o.type base v l hown A m c news hnews hlen hbase
  unfold Oper.wp execOp
  simp only [ho, resolve, invoke, builtin, Sem.run_bind, Sem.run_pure, Result.andThen_ok, List.map_toArray, List.map_cons, List.map_nil, hs, hx, hr]
  exact hK _ _ (h v' w' h2 h3 h5)
theorem Own.rd {w : World} {base m c : Nat} {A : Option Addr} {l : List Nat} (h : Own w base (.slice A m c) l) : Bytes w A m l := by
  obtain ⟨hr, hle, hx⟩ := h
  have hml : l.length ≤ maxLen := by unfold maxLen; omega
  rcases hr.2 with ⟨hv, h0⟩ | ⟨g, cap, cur, hv, _, hg, _, _, hs, ht⟩
  · have : l = [] := List.eq_nil_of_length_eq_zero h0
    subst this
    injection hv with e1 e2 e3
    subst e1 e2
    exact ⟨rfl, by unfold maxLen; omega, by simp, fun h => absurd h (by omega)⟩
  · injection hv with e1 e2 e3
    subst e1 e2
    refine ⟨rfl, hml, hx, fun _ => ⟨_, rfl, fun j hj => ?_⟩⟩
    rw [add_off, Nat.zero_add, cell_of_row w g j cur 5 (0, 0) hg]
    have h1 : (cur.toList.take (l.length * 1))[j]? = (l.map fun x : Nat => Value.int .u8 (x : Int))[j]? := by rw [ht]
    rw [List.getElem?_take, if_pos (by omega)] at h1
    rw [← Array.getElem?_toList, h1]
    simp [List.getD, List.getElem?_eq_getElem hj]
theorem Own.len {w : World} {base m c : Nat} {A : Option Addr} {l : List Nat} (h : Own w base (.slice A m c) l) : m = l.length := h.rd.1.symm
theorem Own.form {w : World} {base : Nat} {v : Value} {l : List Nat} (h : Own w base v l) : ∃ A c, v = .slice A l.length c := by
  rcases h.1.2 with ⟨rfl, h0⟩ | ⟨g, cap, cur, rfl, _⟩
  · rw [h0]; exact ⟨_, _, rfl⟩
  · exact ⟨_, _, rfl⟩
/-- a row of one, just made -/
theorem ownA_one (W : World) (base b x : Nat) (hb : b = W.heap.size) (hbase : base ≤ b) (hx : x < 256) : Own (W.alloc (.cells #[.int .u8 (x : Int)] 5)) base (.slice (some ⟨b, 0, none⟩) 1 1) [x] := by
  subst hb
  exact ⟨⟨rfl, .inr ⟨W.heap.size, 1, _, rfl, hbase, heap_alloc_new W _, by simp, by unfold maxLen; omega, by simp, by simp⟩⟩, by simp, by simp [hx]⟩

/-- 'append(s, x...)' onto a row of the call's own: x nil, empty or not -/
theorem run_appW (w : World) (ty : TypeId) (base : Nat) (v : Value) (l : List Nat) (hown : OwnW w base v l)
    (A : Option Addr) (m c : Nat) (news : List Nat) (hnews : Words w A m news) (hlen : l.length + m ≤ 1099511627776) (hbase : base ≤ w.heap.size) :
    ∃ v' w', (Builtin.append_ #[70, 70] ty #[v, .slice A m c]).run Try.prog w = .ok v' w' ∧ OwnW w' base v' (l ++ news) ∧ w.grownBy w' v.ownBlock ∧ (v'.ownBlock = v.ownBlock ∨ v'.ownBlock = some w.heap.size) := by
  obtain ⟨i, hi, hz0, hz1, hz2⟩ := info_parts try_info50
  rcases A with _ | ad
  · have hm : m = 0 := by
      rcases Nat.eq_zero_or_pos m with h0 | h0
      · exact h0
      · obtain ⟨_, hA, _⟩ := hnews.2.2.2 h0
        cases hA
    subst hm
    have hn : news = [] := List.eq_nil_of_length_eq_zero hnews.1
    subst hn
    refine ⟨v, w, ?_, by simpa using hown, World.grownBy.refl w _, .inl rfl⟩
    rcases hown.1.2 with ⟨rfl, _⟩ | ⟨g, cap, cur, rfl, _, _, hnc, _⟩
    · simp [Builtin.append_, run_underlying Try.underlying70, sizeOf, typeInfo, hi, Builtin.lenOf, Builtin.firstCells]
    · simp [Builtin.append_, run_underlying Try.underlying70, sizeOf, typeInfo, hi, Builtin.lenOf, Builtin.firstCells, hnc, storeCells]
  · have hcells : ∀ j u, (news.map fun x : Nat => Value.int .u32 (x : Int))[j]? = some u → w.cell? (ad.add j) = some u := by
      intro j u hj
      have hjm : j < m := by
        have := (List.getElem?_eq_some_iff.mp hj).1
        simp [hnews.1] at this; exact this
      obtain ⟨ad', hA, hc⟩ := hnews.2.2.2 (by omega)
      have hA := Option.some.inj hA
      subst hA
      rw [hc j hjm, ← hj]
      have hjl : j < news.length := by rw [hnews.1]; exact hjm
      simp [List.getD, List.getElem?_eq_getElem hjl]
    have hone : ∀ u ∈ (news.map fun x : Nat => Value.int .u32 (x : Int)), u.oneCell' = true := by
      intro u hu
      obtain ⟨y, _, rfl⟩ := List.mem_map.mp hu
      rfl
    obtain ⟨v', w', hr, h2, h3, _, h5⟩ := run_append_own_at (P := Try.prog) w base 70 ty 50 i (.int .u32 0) 1 4 Try.underlying70 hi hz0 hz1 hz2 rfl (by decide) v l.length (l.map fun x : Nat => Value.int .u32 (x : Int)) hown.1 ad m c (news.map fun x : Nat => Value.int .u32 (x : Int)) (by simp [hnews.1]) hcells hone (by unfold maxLen; omega) (by omega) hbase
    refine ⟨v', w', hr, ⟨?_, by rw [List.length_append, hnews.1]; exact hlen, fun x hx => ?_⟩, h3, h5⟩
    · rw [List.length_append, hnews.1, List.map_append]; exact h2
    · rcases List.mem_append.mp hx with hx | hx
      · exact hown.2.2 x hx
      · exact hnews.2.2.1 x hx
set_option maxRecDepth 100000 in
theorem wp_appW {ops : Array Oper} {rest : List Oper} {o : Oper} {a : Act} {w : World} {Q : Exit → Act → World → Prop} (hgd : o.guard = none) (s x : Operand)
    (ho : o.op = .call { callee := .builtin .append, args := #[s, x], argTypes := #[70, 70] })
    (base : Nat) (v : Value) (l : List Nat) (hs : a.eval s = v) (hown : OwnW w base v l)
    (A : Option Addr) (m c : Nat) (news : List Nat) (hx : a.eval x = .slice A m c) (hnews : Words w A m news) (hlen : l.length + m ≤ 1099511627776) (hbase : base ≤ w.heap.size)
    (h : ∀ v' w', OwnW w' base v' (l ++ news) → w.grownBy w' v.ownBlock → (v'.ownBlock = v.ownBlock ∨ v'.ownBlock = some w.heap.size) → wpList Try.prog ops Q rest (a.put o.dst v') w') : wpList Try.prog ops Q (o :: rest) a w := by
  refine wpList_plain hgd fun K hK => ?_
  obtain ⟨v', w', hr, h2, h3, h5⟩ := run_appW w o.type base v l hown A m c news hnews hlen hbase
  unfold Oper.wp execOp
  simp only [ho, resolve, invoke, builtin, Sem.run_bind, Sem.run_pure, Result.andThen_ok, List.map_toArray, List.map_cons, List.map_nil, hs, hx, hr]
  exact hK _ _ (h v' w' h2 h3 h5)
theorem OwnW.rd {w : World} {base m c : Nat} {A : Option Addr} {l : List Nat} (h : OwnW w base (.slice A m c) l) : Words w A m l := by
  obtain ⟨hr, hle, hx⟩ := h
  have hml : l.length ≤ maxLen := by unfold maxLen; omega
  rcases hr.2 with ⟨hv, h0⟩ | ⟨g, cap, cur, hv, _, hg, _, _, hs, ht⟩
  · have : l = [] := List.eq_nil_of_length_eq_zero h0
    subst this
    injection hv with e1 e2 e3
    subst e1 e2
    exact ⟨rfl, by unfold maxLen; omega, by simp, fun h => absurd h (by omega)⟩
  · injection hv with e1 e2 e3
    subst e1 e2
    refine ⟨rfl, hml, hx, fun _ => ⟨_, rfl, fun j hj => ?_⟩⟩
    rw [add_off, Nat.zero_add, cell_of_row w g j cur 50 (0, 0) hg]
    have h1 : (cur.toList.take (l.length * 1))[j]? = (l.map fun x : Nat => Value.int .u32 (x : Int))[j]? := by rw [ht]
    rw [List.getElem?_take, if_pos (by omega)] at h1
    rw [← Array.getElem?_toList, h1]
    simp [List.getD, List.getElem?_eq_getElem hj]
theorem OwnW.len {w : World} {base m c : Nat} {A : Option Addr} {l : List Nat} (h : OwnW w base (.slice A m c) l) : m = l.length := h.rd.1.symm
theorem OwnW.form {w : World} {base : Nat} {v : Value} {l : List Nat} (h : OwnW w base v l) : ∃ A c, v = .slice A l.length c := by
  rcases h.1.2 with ⟨rfl, h0⟩ | ⟨g, cap, cur, rfl, _⟩
  · rw [h0]; exact ⟨_, _, rfl⟩
  · exact ⟨_, _, rfl⟩
/-- a row of one, just made -/
theorem ownW_one (W : World) (base b x : Nat) (hb : b = W.heap.size) (hbase : base ≤ b) (hx : x < 4294967296) : OwnW (W.alloc (.cells #[.int .u32 (x : Int)] 50)) base (.slice (some ⟨b, 0, none⟩) 1 1) [x] := by
  subst hb
  exact ⟨⟨rfl, .inr ⟨W.heap.size, 1, _, rfl, hbase, heap_alloc_new W _, by simp, by unfold maxLen; omega, by simp, by simp⟩⟩, by simp, by simp [hx]⟩
end Go.Proofs.Ytibfihjcjohadaa
/- Small laws that many walks want: a fact that no tactic lays open, a guard that says yes, a variable too long to be written out. No condition. -/
namespace Go.Proofs.Ytibfihjcjohadaa
open Go.RowKit Go.Op
/-- a fact that no tactic lays open -/
structure Box (p : Prop) : Prop where
  out : p
theorem below_alloc1 (w : World) (o : Obj) : Below w.heap.size w (w.alloc o) := (Below.refl _ _).alloc (Nat.le_refl _) _
theorem wpList_unguard {P : Program} {ops : Array Oper} {Q : Exit → Act → World → Prop} {a : Act} {w : World} {rest : List Oper} {d : Option Tmp} {op : Op} {ty : TypeId} {ps : String} {af : Array Edge} {g : Option (Nat × Bool)}
    (hw : Region.wanted ⟨d, op, ty, ps, af, g⟩ (yielded ops a.tmps) = true) (h : wpList P ops Q (⟨d, op, ty, ps, af, none⟩ :: rest) a w) : wpList P ops Q (⟨d, op, ty, ps, af, g⟩ :: rest) a w := by
  unfold wpList at h ⊢
  rw [if_pos hw]
  rw [if_pos (by simp [Region.wanted])] at h
  exact h
/-- a variable that is too long to be written out -/
theorem wpList_allocT {ops : Array Oper} {rest : List Oper} {o : Oper} {a : Act} {w : World} {Q : Exit → Act → World → Prop} (hgd : o.guard = none) (T : TypeId) (ho : o.op = .alloc T) (ob : Obj)
    (hrun : (Instr.alloc T true (.tuple #[])).run Try.prog w = .ok (.pointer (some ⟨w.heap.size, 0, none⟩)) (w.alloc ob))
    (h : wpList Try.prog ops Q rest (a.put o.dst (.pointer (some ⟨w.heap.size, 0, none⟩))) (w.alloc ob)) : wpList Try.prog ops Q (o :: rest) a w := by
  refine wpList_plain hgd fun K hK => ?_
  unfold Oper.wp execOp
  simp only [ho, Sem.run_bind, Sem.run_pure, Result.andThen_ok, hrun]
  exact hK _ _ h
theorem rowIs_below {w w' : World} {b B : Nat} {t : TypeId} {n : Nat} {f : Nat → Value} (h : w.rowIs b t n f) (hb : Below B w w') (hB : b < B) : w'.rowIs b t n f := h.of_block (hb.block b hB)
end Go.Proofs.Ytibfihjcjohadaa
/- Arrays of sixteen bytes: as values, as blocks in memory; one cell read, one cell stored, the whole read and stored. No condition. -/
namespace Go.Proofs.Ytibfihjcjohadaa
open Go.RowKit Go.Op

/-- the cells of a block of bytes -/
def bv (f : Nat → Nat) : Array Value := ((List.range 16).map fun i => cellOf (f i)).toArray
theorem bv_size (f : Nat → Nat) : (bv f).size = 16 := by simp [bv]
theorem bv_get {f : Nat → Nat} {k : Nat} (hk : k < 16) : (bv f)[k]? = some (cellOf (f k)) := by
  simp [bv, List.getElem?_map, List.getElem?_range hk]
theorem bv_one (f : Nat → Nat) : (bv f).all (·.oneCell') = true := by
  rw [Array.all_eq_true_iff_forall_mem]
  intro v hv
  simp only [bv, List.mem_toArray, List.mem_map] at hv
  obtain ⟨i, _, rfl⟩ := hv
  rfl
theorem bv_congr {f g : Nat → Nat} (h : ∀ i, i < 16 → f i = g i) : bv f = bv g := by
  unfold bv
  congr 1
  apply List.map_congr_left
  intro i hi
  rw [h i (List.mem_range.mp hi)]
theorem bv_inj {f g : Nat → Nat} (h : bv f = bv g) : ∀ i, i < 16 → f i = g i := by
  intro i hi
  have h1 := bv_get (f := f) hi
  rw [h, bv_get hi] at h1
  injection h1 with h1
  injection h1 with _ h1
  omega
/-- one byte put in another's place -/
def upd (f : Nat → Nat) (k x : Nat) : Nat → Nat := fun i => if i = k then x else f i
theorem bv_upd {f : Nat → Nat} {k x : Nat} : (bv f).setIfInBounds k (cellOf x) = bv (upd f k x) := by
  apply Array.ext_getElem?
  intro i
  rw [Array.getElem?_setIfInBounds]
  by_cases hi : i < 16
  · rw [bv_get hi, bv_get hi]
    unfold upd
    by_cases h : k = i
    · subst h; rw [if_pos rfl, if_pos (by rw [bv_size]; exact hi), if_pos rfl]
    · rw [if_neg h, if_neg (fun h' => h h'.symm)]
  · rw [Array.getElem?_eq_none (by rw [bv_size]; omega), Array.getElem?_eq_none (by rw [bv_size]; omega)]
    split
    · rename_i h; subst h; rw [if_neg (by rw [bv_size]; omega)]
    · rfl
/-- block g of the memory holds the bytes f -/
def Arr (w : World) (g : Nat) (f : Nat → Nat) : Prop := w.heap[g]? = some (.cells (bv f) 36 (0, 0))
theorem Arr.lt {w : World} {g : Nat} {f : Nat → Nat} (h : Arr w g f) : g < w.heap.size := by
  rcases Nat.lt_or_ge g w.heap.size with hlt | hge
  · exact hlt
  · unfold Arr at h; rw [Array.getElem?_eq_none hge] at h; cases h
theorem Arr.cell {w : World} {g k : Nat} {f : Nat → Nat} (h : Arr w g f) (hk : k < 16) : w.cell? ⟨g, k, none⟩ = some (.int .u8 ((f k : Nat) : Int)) := by
  rw [cell_of_row w g k _ 36 (0, 0) h]; exact bv_get hk
theorem Arr.free {w : World} {g : Nat} {f : Nat → Nat} (h : Arr w g f) (k : Nat) : w.frozen? ⟨g, k, none⟩ = false := by
  unfold Arr at h
  simp [World.frozen?, h]
theorem Arr.set {w : World} {g k x : Nat} {f : Nat → Nat} (h : Arr w g f) : Arr (w.setCell ⟨g, k, none⟩ (.int .u8 (x : Int))) g (upd f k x) := by
  unfold Arr at h ⊢
  rw [← bv_upd]
  simp [World.setCell, Array.getElem?_modify, h]
theorem Arr.far {w : World} {g : Nat} {f : Nat → Nat} (h : Arr w g f) {p : Addr} (hp : g ≠ p.block) (u : Value) : Arr (w.setCell p u) g f := (Below.heap_setCell w p u g hp).trans h
theorem Arr.alloc {w : World} {g : Nat} {f : Nat → Nat} (h : Arr w g f) (o : Obj) : Arr (w.alloc o) g f := (Below.heap_alloc w o g h.lt).trans h
theorem Arr.drew {w : World} {g : Nat} {f : Nat → Nat} (h : Arr w g f) : Arr w.drew g f := h
theorem Arr.drewN {w : World} {g : Nat} {f : Nat → Nat} (h : Arr w g f) (n : Nat) : Arr (w.drewN n) g f := h
theorem Arr.below {w w' : World} {g B : Nat} {f : Nat → Nat} (h : Arr w g f) (hb : Below B w w') (hg : g < B) : Arr w' g f := (hb.block g hg).trans h
theorem Arr.new (w : World) (f : Nat → Nat) (g : Nat) (hg : g = w.heap.size) : Arr (w.alloc (.cells (bv f) 36)) g f := by subst hg; exact heap_alloc_new w _
theorem Arr.zero (w : World) (g : Nat) (hg : g = w.heap.size) : Arr (w.alloc (.cells #[.int .u8 0, .int .u8 0, .int .u8 0, .int .u8 0, .int .u8 0, .int .u8 0, .int .u8 0, .int .u8 0, .int .u8 0, .int .u8 0, .int .u8 0, .int .u8 0, .int .u8 0, .int .u8 0, .int .u8 0, .int .u8 0] 36)) g (fun _ => 0) := by
  subst hg
  exact heap_alloc_new w _
theorem Arr.setRow {w : World} {g : Nat} {f h : Nat → Nat} (ha : Arr w g f) : Arr (w.setRow g (bv h)) g h := by
  unfold Arr at ha ⊢
  simp [World.setRow, Array.getElem?_modify, ha]
theorem Arr.setRow_far {w : World} {g g' : Nat} {f : Nat → Nat} {c : Array Value} (ha : Arr w g f) (hne : g ≠ g') : Arr (w.setRow g' c) g f := by
  unfold Arr at ha ⊢
  simp [World.setRow, Array.getElem?_modify, Ne.symm hne, ha]
theorem Arr.congr {w : World} {g : Nat} {f h : Nat → Nat} (ha : Arr w g f) (e : ∀ i, i < 16 → f i = h i) : Arr w g h := by
  unfold Arr at ha ⊢
  rw [ha, bv_congr e]
theorem below_setRow {B : Nat} {a w : World} (h : Below B a w) {g : Nat} (hg : B ≤ g) (c : Array Value) : Below B a (w.setRow g c) :=
  ⟨h.os, h.tape, h.output, by simpa [World.setRow] using h.size, fun k hk => by
    rw [← h.block k hk]
    simp only [World.setRow]
    rw [Array.getElem?_modify, if_neg (by omega)]⟩
theorem run_index {f : Nat → Nat} {k : Nat} (hk : k < 16) (w : World) : (Instr.index 36 (.agg (bv f)) (.int .i64 (k : Int))).run Try.prog w = .ok (.int .u8 ((f k : Nat) : Int)) w := by
  obtain ⟨i5, hi, hz0, hz1, hz2⟩ := info_parts try_info5
  have hb := bv_get (f := f) hk
  unfold Instr.index
  simp [asIntOf, run_underlying Try.underlying36, part, isAgg, run_underlying Try.underlying5, sizeOf, typeInfo, hi, hz1, hb]
  omega
theorem size36 : (Try.prog.info? 36).map (·.size) = some 16 := by kernel_rfl
theorem size36' (f : Nat → Nat) : (Try.prog.info? 36).map (·.size) = some (bv f).size := by rw [bv_size]; exact size36
/-- a whole array is read -/
theorem wp_load_arr {ops : Array Oper} {rest : List Oper} {o : Oper} {a : Act} {w : World} {Q : Exit → Act → World → Prop} (hgd : o.guard = none) (x : Operand) (ho : o.op = .load 36 x)
    (g : Nat) (f : Nat → Nat) (hx : a.eval x = .pointer (some ⟨g, 0, none⟩)) (ha : Arr w g f)
    (h : wpList Try.prog ops Q rest (a.put o.dst (.agg (bv f))) w) : wpList Try.prog ops Q (o :: rest) a w :=
  wpList_load_row hgd 36 x ho g hx 36 (bv f) (0, 0) _ ha Try.underlying36 rfl (size36' f) h
/-- a whole array is stored -/
theorem wp_store_arr {ops : Array Oper} {rest : List Oper} {o : Oper} {a : Act} {w : World} {Q : Exit → Act → World → Prop} (hgd : o.guard = none) (x y : Operand) (ho : o.op = .store 36 x y)
    (g : Nat) (f k : Nat → Nat) (hx : a.eval x = .pointer (some ⟨g, 0, none⟩)) (hy : a.eval y = .agg (bv k)) (ha : Arr w g f)
    (h : wpList Try.prog ops Q rest (a.put o.dst undef) (w.setRow g (bv k))) : wpList Try.prog ops Q (o :: rest) a w :=
  wpList_store_row hgd 36 x y ho g (bv k) hx hy 36 (bv f) ha (size36' k) (by rw [bv_size, bv_size]) (bv_one k) h
/-- a result that lies in an array's block -/
theorem results_arr {fn : Func} {p : Tmp} (h : fn.results = #[.cell p 36]) (tmps : Array Value) (w : World) (g : Nat) (f : Nat → Nat)
    (hp : tmps.getD p undef = .pointer (some ⟨g, 0, none⟩)) (ha : Arr w g f) : (results fn tmps).run Try.prog w = .ok (.agg (bv f)) w :=
  results_cell_row h tmps w g 36 (bv f) (0, 0) _ hp ha Try.underlying36 rfl (size36' f)
end Go.Proofs.Ytibfihjcjohadaa
/- The walk of prioryalike.Round: a number from 0 to ahead of n. Condition: n from 1 to 2^40. -/
namespace Go.Proofs.Ytibfihjcjohadaa
open Go.RowKit Go.Op
theorem tmod_bd (k n : Int) (hn : 0 < n) : -n < k.tmod n ∧ k.tmod n < n := by
  have h1 := Int.tmod_lt_of_pos k hn
  have h2 := Int.lt_tmod_of_pos k hn
  exact ⟨h2, h1⟩
theorem round_eq (k n : Int) (hn : 0 < n) : (k.tmod n + n).tmod n = k % n := by
  have h := tmod_bd k n hn
  rw [Int.tmod_eq_emod_of_nonneg (by omega), Int.add_emod_right]
  rw [Int.tmod_eq_emod]
  split
  · simp
  · rw [show (n.natAbs : Int) = n by omega, Int.sub_emod_right]; simp
set_option maxRecDepth 100000 in
set_option maxHeartbeats 400000 in
theorem round_any (k n : Int) (hn0 : 0 < n) (hn1 : n ≤ 1099511627776) (w : World) :
    Calls Try.prog 36 #[.int .i64 k, .int .i64 n] w fun e w' => e = .returned (.int .i64 (k % n)) ∧ w = w' := by
  have hb := tmod_bd k n hn0
  have e1 : IntKind.i64.wrap (k.tmod n) = k.tmod n := IntWalk.i64_in _ (by omega)
  have e2 : IntKind.i64.wrap (k.tmod n + n) = k.tmod n + n := IntWalk.i64_in _ (by omega)
  have e4 := round_eq k n hn0
  have hm := Int.emod_nonneg k (show n ≠ 0 by omega)
  have hm2 := Int.emod_lt_of_pos k hn0
  have e5 : IntKind.i64.wrap (k % n) = k % n := IntWalk.i64_in _ (by omega)
  have hne : (n == 0) = false := by simp; omega
  go_enter Try.func36, Try.ntmps36
  go_wp2
  go_ret
  exact ⟨rfl, rfl⟩
end Go.Proofs.Ytibfihjcjohadaa
