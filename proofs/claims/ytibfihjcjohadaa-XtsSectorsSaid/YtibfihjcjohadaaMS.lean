/-
  The walks of the box and of its reference. Conditions: bytes, words in their bounds.
-/
import Derived.Test.YtibfihjcjohadaaMB
import Derived.Test.YtibfihjcjohadaaPA
import Derived.Deep.QuietTactic
import Derived.BigQuiet
/- The walks of package sbox: RotateLeft8, turned, Sub, Back, Word, Round: what each call answers; nothing that was there is written. -/
namespace Go.Proofs.Ytibfihjcjohadaa
open Go.RowKit Go.Op
open Fld (tw mul tw_lt xor_lt mul_lt pw npow inv inv_lt)
open Sbx (rotl rotl_lt turn turn_lt sub sub_lt back back_lt word word_lt)
theorem or_cast {x y : Int} {X Y : Nat} (hx : x = (X : Int)) (hy : y = (Y : Int)) (hX : X < 256) (hY : Y < 256) : bits .or .u8 x y = ((X ||| Y : Nat) : Int) := by
  subst hx hy
  exact u8_or_nat X Y hX hY
set_option maxRecDepth 100000 in
set_option maxHeartbeats 400000 in
theorem rotl8_any (b k : Nat) (hb : b < 256) (hk : k ≤ 7) (w : World) :
    Calls Try.prog 79 #[.int .u8 (b : Int), .int .i64 (k : Int)] w fun e w' => e = .returned (.int .u8 ((rotl b k : Nat) : Int)) ∧ w = w' := by
  have h : k = 0 ∨ k = 1 ∨ k = 2 ∨ k = 3 ∨ k = 4 ∨ k = 5 ∨ k = 6 ∨ k = 7 := by omega
  clear hk
  have e0 : bits .and .u64 0 7 = 0 := by decide +kernel
  have e1 : bits .and .u64 1 7 = 1 := by decide +kernel
  have e2 : bits .and .u64 2 7 = 2 := by decide +kernel
  have e3 : bits .and .u64 3 7 = 3 := by decide +kernel
  have e4 : bits .and .u64 4 7 = 4 := by decide +kernel
  have e5 : bits .and .u64 5 7 = 5 := by decide +kernel
  have e6 : bits .and .u64 6 7 = 6 := by decide +kernel
  have e7 : bits .and .u64 7 7 = 7 := by decide +kernel
  rcases h with rfl | rfl | rfl | rfl | rfl | rfl | rfl | rfl
  all_goals
    go_enter Try.func79, Try.ntmps79
    go_wp2_with fail
    go_ret
    refine ⟨ret_int ?_, rfl⟩
    first
      | exact or_cast (X := b * 2 ^ 0 % 256) (Y := b / 2 ^ (8 - 0)) (by omega) (by omega) (by omega) (by omega)
      | exact or_cast (X := b * 2 ^ 1 % 256) (Y := b / 2 ^ (8 - 1)) (by omega) (by omega) (by omega) (by omega)
      | exact or_cast (X := b * 2 ^ 2 % 256) (Y := b / 2 ^ (8 - 2)) (by omega) (by omega) (by omega) (by omega)
      | exact or_cast (X := b * 2 ^ 3 % 256) (Y := b / 2 ^ (8 - 3)) (by omega) (by omega) (by omega) (by omega)
      | exact or_cast (X := b * 2 ^ 4 % 256) (Y := b / 2 ^ (8 - 4)) (by omega) (by omega) (by omega) (by omega)
      | exact or_cast (X := b * 2 ^ 5 % 256) (Y := b / 2 ^ (8 - 5)) (by omega) (by omega) (by omega) (by omega)
      | exact or_cast (X := b * 2 ^ 6 % 256) (Y := b / 2 ^ (8 - 6)) (by omega) (by omega) (by omega) (by omega)
      | exact or_cast (X := b * 2 ^ 7 % 256) (Y := b / 2 ^ (8 - 7)) (by omega) (by omega) (by omega) (by omega)
theorem bytes_three (W : World) (b x y z : Nat) (t : TypeId) (hb : b = W.heap.size) (hx : x < 256) (hy : y < 256) (hz : z < 256) :
    Bytes (W.alloc (.cells #[.int .u8 (x : Int), .int .u8 (y : Int), .int .u8 (z : Int)] t)) (some ⟨b, 0, none⟩) 3 [x, y, z] := by
  subst hb
  refine Bytes.block (l := [x, y, z]) (heap_alloc_new W _) (by unfold maxLen; simp) (by simp [hx, hy, hz]) (fun j hj => ?_)
  match j, hj with
  | 0, _ => rfl
  | 1, _ => rfl
  | 2, _ => rfl
theorem xsum_three (x y z : Nat) : xsum [x, y, z] = x ^^^ y ^^^ z := by simp [xsum]
/-- the places that a byte is turned by -/
def Ints5 (w : World) (g : Nat) : Prop := w.heap[g]? = some (.cells #[.int .i64 0, .int .i64 1, .int .i64 2, .int .i64 3, .int .i64 4] 3 (0, 0))
theorem Ints5.cell {w : World} {g k : Nat} (h : Ints5 w g) (hk : k < 5) : w.cell? ⟨g, k, none⟩ = some (.int .i64 (k : Int)) := by
  rw [cell_of_row w g k _ 3 (0, 0) h]
  have h : k = 0 ∨ k = 1 ∨ k = 2 ∨ k = 3 ∨ k = 4 := by omega
  rcases h with rfl | rfl | rfl | rfl | rfl <;> rfl
theorem Ints5.lt {w : World} {g : Nat} (h : Ints5 w g) : g < w.heap.size := by
  rcases Nat.lt_or_ge g w.heap.size with hlt | hge
  · exact hlt
  · unfold Ints5 at h; rw [Array.getElem?_eq_none hge] at h; cases h
theorem Ints5.alloc {w : World} {g : Nat} (h : Ints5 w g) (o : Obj) : Ints5 (w.alloc o) g := (Below.heap_alloc w o g h.lt).trans h
theorem Ints5.grown {w w' : World} {g : Nat} {row : Option Nat} (h : Ints5 w g) (hg : w.grownBy w' row) (hne : some g ≠ row) : Ints5 w' g := (hg.block g h.lt hne).trans h
def turnL (b k : Nat) : List Nat := 99 :: (List.range k).map (rotl b)
theorem turnL_succ (b k : Nat) : turnL b (k + 1) = turnL b k ++ [rotl b k] := by
  unfold turnL; rw [List.range_succ, List.map_append]; rfl
theorem turnL_sum (b : Nat) : xsum (turnL b 5) = turn b := by
  unfold turn
  show xsum [99, rotl b 0, rotl b 1, rotl b 2, rotl b 3, rotl b 4] = _
  simp [xsum]
theorem turnL_len (b k : Nat) : (turnL b k).length = k + 1 := by simp [turnL]
set_option maxRecDepth 100000 in
set_option maxHeartbeats 1000000 in
theorem turned_any (b : Nat) (hb : b < 256) (w : World) :
    Calls Try.prog 77 #[.int .u8 (b : Int)] w fun e w' => e = .returned (.int .u8 ((turn b : Nat) : Int)) ∧ Below w.heap.size w w' := by
  go_enter Try.func77, Try.ntmps77
  go_wp2_with fail
  go_loopw [3, 9] (fun l i wr => ∃ (k : Nat), i = .int .i64 (k : Int) ∧ k ≤ 5 ∧ Own wr w.heap.size l (turnL b k) ∧ l.ownBlock ≠ some (w.heap.size + 1) ∧ Ints5 wr (w.heap.size + 1) ∧ Below w.heap.size w wr) (fun _ i _ => 5 - (intOf i).toNat)
  case atStart =>
    refine ⟨0, rfl, by omega, (ownA_one w _ _ 99 rfl (Nat.le_refl _) (by decide)).alloc _, by simp [Value.ownBlock], ?_, ((Below.refl _ _).alloc (Nat.le_refl _) _).alloc (by simp) _⟩
    have h := heap_alloc_new (w.alloc (.cells #[.int .u8 99] 5)) (.cells #[.int .i64 0, .int .i64 1, .int .i64 2, .int .i64 3, .int .i64 4] 3)
    rw [show (w.alloc (.cells #[.int .u8 99] 5)).heap.size = w.heap.size + 1 by simp] at h
    exact h
  case round =>
    obtain ⟨k, rfl, hk, ho, hne, hi, hbel⟩ := hrel
    have hsz := hbel.size
    by_cases h5 : k = 5
    · subst h5
      obtain ⟨A, c, rfl⟩ := ho.form
      have hr := ho.rd
      rw [turnL_len] at hr ⊢
      have HS := Lib.hid (turnL_sum b)
      clear ho
      go_wp2_with fail
      refine (sum_any A _ c (turnL b 5) _ hr).mono ?_
      rw [HS.out]
      rintro e w' ⟨rfl, rfl⟩
      go_wp2_with fail
      go_ret
      exact ⟨rfl, hbel⟩
    · have hlt : k < 5 := by omega
      have hcell := hi.cell hlt
      have hrl := rotl_lt (k := k) hb
      have HT := Lib.hid (turnL_succ b k)
      clear h5
      go_wp2_with fail
      refine (rotl8_any b k hb (by omega) _).mono ?_
      rintro e w' ⟨rfl, rfl⟩
      go_wp2_with (first
        | ((with_reducible show wpList _ _ _ (⟨some 18, Op.call _, _, _, _, _⟩ :: _) _ _); refine wp_appA rfl (.tmp 13) (.tmp 17) rfl w.heap.size u3 (turnL b k) rfl (ho.alloc _) (some ⟨wr.heap.size, 0, none⟩) 1 1 [rotl b k] rfl (bytes_one _ _ _ _ rfl hrl) (by rw [turnL_len]; omega) (by simp; omega) ?_; intro v' w1 h1 h2 h3))
      rw [← HT.out] at h1
      have hne' : v'.ownBlock ≠ some (w.heap.size + 1) := by
        rcases h3 with h3 | h3
        · rw [h3]; exact hne
        · rw [h3]; intro e; injection e with e; have := hi.lt; simp at e; omega
      have hi' : Ints5 w1 (w.heap.size + 1) := (hi.alloc _).grown h2 hne.symm
      have hb' : Below w.heap.size w w1 := grown_below (hbel.alloc hsz _) h2 (by simp; omega) (fun k hk => (ho.ge k hk).1)
      clear h2 h3 ho hne hi hbel hcell HT
      go_wp2_with fail
      go_roundw
      case rel => exact ⟨k + 1, by go_num, by omega, h1, hne', hi', hb'⟩
      case measure => simp [intOf]; omega
set_option maxHeartbeats 400000 in
theorem sub_any (a : Nat) (ha : a < 256) (w : World) :
    Calls Try.prog 51 #[.int .u8 (a : Int)] w fun e w' => e = .returned (.int .u8 ((sub a : Nat) : Int)) ∧ Below w.heap.size w w' := by
  go_enter Try.func51, Try.ntmps51
  go_wp2_with fail
  refine (inv_any a ha _).mono ?_
  rintro e w' ⟨rfl, rfl⟩
  go_wp2_with fail
  refine (turned_any (inv a) (inv_lt ha) _).mono ?_
  rintro e w' ⟨rfl, hb⟩
  go_wp2_with fail
  go_ret
  exact ⟨rfl, hb⟩
set_option maxHeartbeats 400000 in
theorem back_any (a : Nat) (ha : a < 256) (w : World) :
    Calls Try.prog 53 #[.int .u8 (a : Int)] w fun e w' => e = .returned (.int .u8 ((back a : Nat) : Int)) ∧ Below w.heap.size w w' := by
  have hx := u8_xor_nat a 99 ha (by decide)
  rw [show ((99 : Nat) : Int) = 99 from rfl] at hx
  have hc : a ^^^ 99 < 256 := xor_lt ha (by decide)
  have HB : Hid (back a = inv (rotl (a ^^^ 99) 1 ^^^ rotl (a ^^^ 99) 3 ^^^ rotl (a ^^^ 99) 6)) := rfl
  have h1 := rotl_lt (k := 1) hc
  have h3 := rotl_lt (k := 3) hc
  have h6 := rotl_lt (k := 6) hc
  go_enter Try.func53, Try.ntmps53
  go_wp2_with fail
  refine (rotl8_any (a ^^^ 99) 1 hc (by omega) _).mono ?_
  rintro e w' ⟨rfl, rfl⟩
  go_wp2_with fail
  refine (rotl8_any (a ^^^ 99) 3 hc (by omega) _).mono ?_
  rintro e w' ⟨rfl, rfl⟩
  go_wp2_with fail
  refine (rotl8_any (a ^^^ 99) 6 hc (by omega) _).mono ?_
  rintro e w' ⟨rfl, rfl⟩
  go_wp2_with fail
  refine (sum_any _ 3 3 [rotl (a ^^^ 99) 1, rotl (a ^^^ 99) 3, rotl (a ^^^ 99) 6] _ (bytes_three _ _ _ _ _ 5 rfl h1 h3 h6)).mono ?_
  rw [xsum_three]
  rintro e w' ⟨rfl, rfl⟩
  go_wp2_with fail
  refine (inv_any _ (xor_lt (xor_lt h1 h3) h6) _).mono ?_
  rw [← HB.out]
  rintro e w' ⟨rfl, rfl⟩
  go_wp2_with fail
  go_ret
  exact ⟨rfl, (Below.refl _ _).alloc (Nat.le_refl _) _⟩
/-- what a round of the key adds, of whatever number -/
def roundN (n : Int) : Nat := if n < 1 then 0 else powI 2 (n - 1)
theorem roundN_lt (n : Int) : roundN n < 256 := by
  unfold roundN; split
  · decide
  · exact powI_lt (by decide) _
set_option maxHeartbeats 400000 in
theorem sround_any (n : Int) (w : World) (hn : -9223372036854775808 ≤ n) (hn2 : n ≤ 9223372036854775807) :
    Calls Try.prog 56 #[.int .i64 n] w fun e w' => e = .returned (.int .u8 ((roundN n : Nat) : Int)) ∧ w = w' := by
  by_cases h : n < 1
  · have e : roundN n = 0 := by unfold roundN; rw [if_pos h]
    rw [e]
    clear e
    go_enter Try.func56, Try.ntmps56
    go_wp2_with fail
    go_ret
    exact ⟨rfl, rfl⟩
  · have e : powI 2 (n - 1) = roundN n := by unfold roundN; rw [if_neg h]
    have E := Lib.hid e
    clear e
    have h' : 1 ≤ n := by omega
    go_enter Try.func56, Try.ntmps56
    go_wp2_with fail
    refine (power_any 2 (n - 1) (by decide) _).mono ?_
    rw [E.out]
    rintro e w' ⟨rfl, rfl⟩
    go_wp2_with fail
    go_ret
    exact ⟨rfl, rfl⟩
end Go.Proofs.Ytibfihjcjohadaa
/- The walks of sbox.Word and of priorylaw5.awake: what they answer; nothing that was there is written. -/
namespace Go.Proofs.Ytibfihjcjohadaa
open Go.RowKit Go.Op
open Fld (tw mul tw_lt xor_lt mul_lt pw npow inv inv_lt)
open Sbx (rotl rotl_lt turn turn_lt sub sub_lt back back_lt word word_lt)
/-- the first k bytes of a word, turned -/
def wordP (w : Nat) : Nat → Nat
  | 0 => 0
  | k + 1 => wordP w k * 256 + sub (w / 2 ^ (24 - 8 * k) % 256)
theorem wordP_lt (w : Nat) : ∀ k, wordP w k < 256 ^ k
  | 0 => Nat.zero_lt_one
  | k + 1 => by
    have h1 := wordP_lt w k
    have h2 := sub_lt (a := w / 2 ^ (24 - 8 * k) % 256) (Nat.mod_lt _ (by decide))
    rw [wordP, Nat.pow_succ]
    omega
theorem wordP_four (w : Nat) : wordP w 4 = word w := by
  show (((0 * 256 + sub (w / 2 ^ 24 % 256)) * 256 + sub (w / 2 ^ 16 % 256)) * 256 + sub (w / 2 ^ 8 % 256)) * 256 + sub (w / 2 ^ 0 % 256) = _
  unfold word
  simp
theorem or_byte32 {x s : Nat} (hx : x < 16777216) (hs : s < 256) : bits .or .u32 ((x : Int) * 256) (s : Int) = ((x * 256 + s : Nat) : Int) := by
  have h := u32_or_nat (x * 256) s (by omega) (by omega)
  have e : x * 256 ||| s = x * 256 + s := by
    have h := Nat.two_pow_add_eq_or_of_lt (i := 8) (b := s) (by simpa using hs) x
    rw [Nat.mul_comm x 256, show (256 : Nat) = 2 ^ 8 from rfl]
    exact h.symm
  rw [show (x : Int) * 256 = ((x * 256 : Nat) : Int) by omega, h, e]
set_option maxRecDepth 100000 in
set_option maxHeartbeats 1000000 in
theorem sword_any (x : Nat) (_hx : x < 4294967296) (w : World) :
    Calls Try.prog 54 #[.int .u32 (x : Int)] w fun e w' => e = .returned (.int .u32 ((word x : Nat) : Int)) ∧ Below w.heap.size w w' := by
  go_enter Try.func54, Try.ntmps54
  go_wp2_with fail
  go_loopw [2, 3] (fun o i wr => ∃ (k p : Nat), k ≤ 4 ∧ i = .int .i64 (24 - 8 * (k : Int)) ∧ o = .int .u32 (p : Int) ∧ Hid (p = wordP x k) ∧ Below w.heap.size w wr) (fun _ i _ => (intOf i + 8).toNat)
  case atStart => exact ⟨0, 0, by omega, rfl, rfl, rfl, Below.refl _ _⟩
  case round =>
    obtain ⟨k, p, hk, rfl, rfl, H, hbel⟩ := hrel
    have h4 : k = 4 ∨ k < 4 := by omega
    rcases h4 with rfl | h4
    · have e : p = word x := by rw [H.out, wordP_four]
      subst e
      rw [show (24 - 8 * ((4 : Nat) : Int)) = -8 from rfl]
      go_wp2_with fail
      go_ret
      exact ⟨rfl, hbel⟩
    · have hb : x / 2 ^ (24 - 8 * k) % 256 < 256 := Nat.mod_lt _ (by decide)
      have hs := sub_lt hb
      have hp : p < 16777216 := by
        have h1 := H.out
        have h2 := wordP_lt x k
        have h3 : 256 ^ k ≤ 256 ^ 3 := Nat.pow_le_pow_right (by decide) (by omega)
        rw [← h1] at h2
        exact Nat.lt_of_lt_of_le h2 h3
      have hor := or_byte32 hp hs
      have HE : Hid (((x : Int) / 2 ^ (24 - 8 * k)) % 256 = ((x / 2 ^ (24 - 8 * k) % 256 : Nat) : Int)) := by
        show _ = _
        rw [Int.natCast_emod, Int.natCast_ediv, Int.natCast_pow]; rfl
      go_wp2_with fail
      rw [HE.out]
      refine (sub_any _ hb _).mono ?_
      rintro e w1 ⟨rfl, hb1⟩
      have hbel1 := hbel.trans (hb1.mono hbel.size)
      have HN : Hid (p * 256 + sub (x / 2 ^ (24 - 8 * k) % 256) = wordP x (k + 1)) := by show _ = wordP x k * 256 + _; rw [← H.out]
      clear hbel hb1 H
      revert hor HN
      generalize sub (x / 2 ^ (24 - 8 * k) % 256) = s at hs ⊢
      intro hor HN
      go_wp2_with fail
      go_roundw
      case rel => exact ⟨k + 1, p * 256 + s, by omega, val_int (by omega), by first | rfl | go_num, HN.out, hbel1⟩
      case measure => simp [intOf]; omega
theorem awake5_c : sub 0 = 99 ∧ sub 83 = 237 ∧ back 99 = 0 ∧ word 5439571 = 1676501997 ∧ roundN 1 = 1 ∧ roundN 9 = 27 ∧ roundN 0 = 0 := by decide +kernel
set_option maxRecDepth 100000 in
set_option maxHeartbeats 1000000 in
theorem awake5 (w : World) : Calls Try.prog 49 #[] w fun e w' => e = .returned (.bool true) ∧ Below w.heap.size w w' := by
  have H := Lib.hid awake5_c
  go_enter Try.func49, Try.ntmps49
  go_wp2_with fail
  refine (sub_any 0 (by decide) _).mono ?_
  rw [H.out.1]
  rintro e w1 ⟨rfl, hb1⟩
  go_wp2_with fail
  refine (sub_any 83 (by decide) _).mono ?_
  rw [H.out.2.1]
  rintro e w2 ⟨rfl, hb2⟩
  have hb := hb1.trans (hb2.mono hb1.size)
  clear hb1 hb2
  go_wp2_with fail
  refine (back_any 99 (by decide) _).mono ?_
  rw [H.out.2.2.1]
  rintro e w3 ⟨rfl, hb3⟩
  have hb' := hb.trans (hb3.mono hb.size)
  clear hb hb3
  go_wp2_with fail
  refine (sword_any 5439571 (by decide) _).mono ?_
  rw [H.out.2.2.2.1]
  rintro e w4 ⟨rfl, hb4⟩
  have hb := hb'.trans (hb4.mono hb'.size)
  clear hb' hb4
  go_wp2_with fail
  refine (sround_any 1 _ (by decide) (by decide)).mono ?_
  rw [H.out.2.2.2.2.1]
  rintro e w5 ⟨rfl, rfl⟩
  go_wp2_with fail
  refine (sround_any 9 _ (by decide) (by decide)).mono ?_
  rw [H.out.2.2.2.2.2.1]
  rintro e w5 ⟨rfl, rfl⟩
  go_wp2_with fail
  refine (sround_any 0 _ (by decide) (by decide)).mono ?_
  rw [H.out.2.2.2.2.2.2]
  rintro e w5 ⟨rfl, rfl⟩
  go_wp2_with fail
  go_ret
  exact ⟨rfl, hb⟩
end Go.Proofs.Ytibfihjcjohadaa
/- The walks of the reference's Mul, Inv, Power, Round: what each call answers; nothing is written. -/
namespace Go.Proofs.Ytibfihjcjohadaa
open Go.RowKit Go.Op
open Fld (tw mul tw_lt xor_lt mul_lt pw npow inv inv_lt)
/-- a product digit by digit, the highest first -/
def rmP (a b : Nat) : Nat → Nat
  | 0 => 0
  | c + 1 => tw (rmP a b c) ^^^ (if b / 2 ^ (7 - c) % 2 = 1 then a else 0)
theorem rmP_lt {a b : Nat} (ha : a < 256) : ∀ c, rmP a b c < 256
  | 0 => by show 0 < 256; decide
  | c + 1 => by
    refine xor_lt (tw_lt (rmP_lt ha c)) ?_
    split <;> omega
theorem rmP_xor {a d b : Nat} (ha : a < 256) (hd : d < 256) : ∀ c, rmP (a ^^^ d) b c = rmP a b c ^^^ rmP d b c
  | 0 => by show 0 = 0 ^^^ 0; rfl
  | c + 1 => by
    show tw (rmP (a ^^^ d) b c) ^^^ _ = tw (rmP a b c) ^^^ _ ^^^ (tw (rmP d b c) ^^^ _)
    rw [rmP_xor ha hd c, Fld.tw_xor (rmP_lt ha c) (rmP_lt hd c)]
    split
    · ac_rfl
    · simp
theorem rmP_mul {a b : Nat} (ha : a < 256) (hb : b < 256) : rmP a b 8 = mul a b := by
  refine Fld.byDigits (p := fun a => rmP a b 8 = mul a b) ?_ (fun x y hx hy h1 h2 => ?_) (fun i hi => ?_) ha
  · rw [Fld.zero_mul hb]
    exact eq_of_beq (Fld.all256 (p := fun b => rmP 0 b 8 == 0) (by decide +kernel) hb)
  · show rmP (x ^^^ y) b 8 = _
    rw [rmP_xor hx hy, h1, h2, Fld.mul_xor_left b hx hy]
  · exact eq_of_beq (Fld.all256 (p := fun b => rmP (2 ^ i) b 8 == mul (2 ^ i) b) (Fld.all8 (p := fun i => (List.range 256).all fun b => rmP (2 ^ i) b 8 == mul (2 ^ i) b) (by decide +kernel) hi) hb)
theorem tw_high {r : Nat} (h : r < 256) (h2 : 128 ≤ r) : 2 * r ^^^ 283 = tw r := by
  rw [Fld.tw_form h, show r / 128 = 1 by omega, Nat.one_mul]
theorem tw_low {r : Nat} (h2 : r < 128) : tw r = 2 * r := by unfold tw; rw [if_pos h2]
theorem shr_and1 {b m : Nat} (hb : b < 256) : (bits .and .u8 ((b : Int) / 2 ^ m) 1 == 1) = decide (b / 2 ^ m % 2 = 1) := by
  have hx : b / 2 ^ m < 256 := Nat.lt_of_le_of_lt (Nat.div_le_self _ _) hb
  have h := u8_and_nat (b / 2 ^ m) 1 hx (by decide)
  rw [show ((1 : Nat) : Int) = 1 from rfl] at h
  rw [show (b : Int) / 2 ^ m = ((b / 2 ^ m : Nat) : Int) by rw [Int.natCast_ediv, Int.natCast_pow]; rfl, h, show (1 : Int) = ((1 : Nat) : Int) from rfl, eq_lit]
  exact eq_of_beq (Fld.all256 (p := fun a => ((a &&& 1 == 1) == decide (a % 2 = 1))) (by decide +kernel) hx)
set_option maxRecDepth 100000 in
set_option maxHeartbeats 1000000 in
theorem rmul_walk (a b : Nat) (ha : a < 256) (hb : b < 256) (w : World) :
    Calls Try.prog 76 #[.int .u8 (a : Int), .int .u8 (b : Int)] w fun e w' => e = .returned (.int .u8 ((rmP a b 8 : Nat) : Int)) ∧ w = w' := by
  go_enter Try.func76, Try.ntmps76
  go_wp2_with fail
  go_loop [5, 6] (fun r i => ∃ (k p : Nat), k ≤ 8 ∧ i = .int .i64 (7 - (k : Int)) ∧ r = .int .i64 (p : Int) ∧ p < 256 ∧ Box (p = rmP a b k)) (fun _ i => (intOf i + 1).toNat)
  case atStart => exact ⟨0, 0, by omega, rfl, rfl, by decide, ⟨rfl⟩⟩
  case round =>
    obtain ⟨k, p, hk, rfl, rfl, hp, H⟩ := hrel
    by_cases h8 : k = 8
    · subst h8
      have e := H.out
      subst e
      rw [show (7 - ((8 : Nat) : Int)) = -1 from rfl]
      go_wp2_with fail
      go_ret
      exact ⟨ret_int (by omega), rfl⟩
    · obtain ⟨m, hm⟩ : ∃ m, 7 - k = m := ⟨_, rfl⟩
      rw [show (7 - (k : Int)) = (m : Int) by omega]
      have hm7 : m ≤ 7 := by omega
      have hk7 : k ≤ 7 := by omega
      have HM := Box.mk hm
      clear hm h8
      have hbit := shr_and1 (m := m) hb
      by_cases h128 : p < 128
      · have HT := Box.mk (tw_low h128)
        by_cases hbt : b / 2 ^ m % 2 = 1
        · have ht : (bits .and .u8 ((b : Int) / 2 ^ m) 1 == 1) = true := by rw [hbit]; simpa using hbt
          have hx := i64_xor_nat (p * 2) a (by omega) (by omega)
          have hx' : bits .xor .i64 ((p : Int) * 2) (a : Int) = (((p * 2) ^^^ a : Nat) : Int) := by rw [show (p : Int) * 2 = ((p * 2 : Nat) : Int) by omega]; exact hx
          have HB := Box.mk hbt
          clear hbit hbt hx
          go_wp2_with fail
          go_round
          case rel =>
            refine ⟨k + 1, (p * 2) ^^^ a, by have := HM.out; omega, val_int (by have := HM.out; omega), rfl, xor_lt (by omega) ha, ⟨?_⟩⟩
            show _ = tw (rmP a b k) ^^^ _
            rw [← H.out, HT.out, HM.out, if_pos HB.out, Nat.mul_comm]
          case measure => simp [intOf]
        · have ht : (bits .and .u8 ((b : Int) / 2 ^ m) 1 == 1) = false := by rw [hbit]; simpa using hbt
          have HB := Box.mk hbt
          clear hbit hbt
          go_wp2_with fail
          go_round
          case rel =>
            refine ⟨k + 1, p * 2, by have := HM.out; omega, val_int (by have := HM.out; omega), by first | rfl | go_num, by omega, ⟨?_⟩⟩
            show _ = tw (rmP a b k) ^^^ _
            rw [← H.out, HT.out, HM.out, if_neg HB.out, Nat.mul_comm, Nat.xor_zero]
          case measure => simp [intOf]
      · have h128' : 128 ≤ p := by omega
        have HT := Box.mk (tw_high hp h128')
        have hx := i64_xor_nat (p * 2) 283 (by omega) (by omega)
        rw [show ((283 : Nat) : Int) = 283 from rfl] at hx
        have hx' : bits .xor .i64 ((p : Int) * 2) 283 = ((tw p : Nat) : Int) := by rw [show (p : Int) * 2 = ((p * 2 : Nat) : Int) by omega, hx, Nat.mul_comm, HT.out]
        have htl := tw_lt hp
        clear hx h128
        by_cases hbt : b / 2 ^ m % 2 = 1
        · have ht : (bits .and .u8 ((b : Int) / 2 ^ m) 1 == 1) = true := by rw [hbit]; simpa using hbt
          have hx2 := i64_xor_nat (tw p) a (by omega) (by omega)
          have HB := Box.mk hbt
          clear hbit hbt
          go_wp2_with fail
          go_round
          case rel =>
            refine ⟨k + 1, tw p ^^^ a, by have := HM.out; omega, val_int (by have := HM.out; omega), rfl, xor_lt htl ha, ⟨?_⟩⟩
            show _ = tw (rmP a b k) ^^^ _
            rw [← H.out, HM.out, if_pos HB.out]
          case measure => simp [intOf]
        · have ht : (bits .and .u8 ((b : Int) / 2 ^ m) 1 == 1) = false := by rw [hbit]; simpa using hbt
          have HB := Box.mk hbt
          clear hbit hbt
          go_wp2_with fail
          go_round
          case rel =>
            refine ⟨k + 1, tw p, by have := HM.out; omega, val_int (by have := HM.out; omega), rfl, htl, ⟨?_⟩⟩
            show _ = tw (rmP a b k) ^^^ _
            rw [← H.out, HM.out, if_neg HB.out, Nat.xor_zero]
          case measure => simp [intOf]
theorem rmul_any (a b : Nat) (ha : a < 256) (hb : b < 256) (w : World) :
    Calls Try.prog 76 #[.int .u8 (a : Int), .int .u8 (b : Int)] w fun e w' => e = .returned (.int .u8 ((mul a b : Nat) : Int)) ∧ w = w' := by
  rw [← rmP_mul ha hb]
  exact rmul_walk a b ha hb w
theorem inv_unique {a k : Nat} (ha : a < 256) (hk : k < 256) (h : mul a k = 1) : k = inv a := by
  have h0 : a ≠ 0 := by
    rintro rfl
    rw [Fld.zero_mul hk] at h; omega
  have e : mul (inv a) (mul a k) = k := by rw [← Fld.mul_assoc (inv_lt ha) ha hk, Fld.mul_comm (inv_lt ha) ha, Fld.mul_inv ha h0, Fld.one_mul hk]
  rw [h, Fld.mul_one] at e
  exact e.symm
theorem inv_zero : inv 0 = 0 := by decide +kernel
theorem inv_none {a : Nat} (ha : a < 256) (h : ∀ j, 1 ≤ j → j < 256 → mul a j ≠ 1) : 0 = inv a := by
  by_cases h0 : a = 0
  · rw [h0, inv_zero]
  · exfalso
    have h1 := Fld.mul_inv ha h0
    have hi := inv_lt ha
    refine h (inv a) ?_ hi h1
    rcases Nat.eq_zero_or_pos (inv a) with e | e
    · rw [e, Fld.mul_zero] at h1; omega
    · exact e
set_option maxRecDepth 100000 in
set_option maxHeartbeats 1000000 in
theorem rinv_any (a : Nat) (ha : a < 256) (w : World) :
    Calls Try.prog 78 #[.int .u8 (a : Int)] w fun e w' => e = .returned (.int .u8 ((inv a : Nat) : Int)) ∧ w = w' := by
  go_enter Try.func78, Try.ntmps78
  go_wp2_with fail
  go_loop [3] (fun i => ∃ (k : Nat), 1 ≤ k ∧ k ≤ 256 ∧ i = .int .i64 (k : Int) ∧ Box (∀ j, 1 ≤ j → j < k → mul a j ≠ 1)) (fun i => 256 - (intOf i).toNat)
  case atStart => exact ⟨1, by omega, by omega, rfl, ⟨fun j h1 h2 => by omega⟩⟩
  case round =>
    obtain ⟨k, h1, hk, rfl, H⟩ := hrel
    by_cases h256 : k = 256
    · subst h256
      have HN := Box.mk (inv_none ha H.out)
      go_wp2_with fail
      go_ret
      exact ⟨ret_int (by rw [← HN.out]; rfl), rfl⟩
    · have hk2 : k < 256 := by omega
      clear h256
      by_cases hm : mul a k = 1
      · have HU := Box.mk (inv_unique ha hk2 hm)
        have ht : (((mul a k : Nat) : Int) == 1) = true := by rw [hm]; rfl
        have hl := mul_lt (b := k) ha
        clear hm
        go_wp2_with fail
        refine (rmul_any a k ha hk2 _).mono ?_
        rintro e w' ⟨rfl, rfl⟩
        go_wp2_with fail
        go_ret
        exact ⟨ret_int (by rw [← HU.out]), rfl⟩
      · have ht : (((mul a k : Nat) : Int) == 1) = false := by rw [show (1 : Int) = ((1 : Nat) : Int) from rfl, eq_lit]; simpa using hm
        have HM := Box.mk hm
        clear hm
        go_wp2_with fail
        refine (rmul_any a k ha hk2 _).mono ?_
        rintro e w' ⟨rfl, rfl⟩
        go_wp2_with fail
        go_round
        case rel =>
          refine ⟨k + 1, by omega, by omega, by go_num, ⟨fun j j1 j2 => ?_⟩⟩
          by_cases e : j = k
          · subst e; exact HM.out
          · exact H.out j j1 (by omega)
        case measure => simp [intOf]; omega
end Go.Proofs.Ytibfihjcjohadaa
/- The walks of the reference's Power, Round and Sub: what each call answers; nothing is written. -/
namespace Go.Proofs.Ytibfihjcjohadaa
open Go.RowKit Go.Op
open Fld (tw mul tw_lt xor_lt mul_lt pw npow inv inv_lt)
open Sbx (sub sub_lt turn turn_lt dig digs digs_turn)
theorem digs_lt (b : Nat) : ∀ k, k ≤ 8 → digs b k < 256 := by
  have h : ∀ k, digs b k < 2 ^ k := by
    intro k
    induction k with
    | zero => show 0 < 1; decide
    | succ k ih =>
      show digs b k ||| dig b k * 2 ^ k < 2 ^ (k + 1)
      refine Nat.or_lt_two_pow (Nat.lt_trans ih (Nat.pow_lt_pow_right (by decide) (by omega))) ?_
      have hd : dig b k < 2 := Nat.mod_lt _ (by decide)
      rw [Nat.pow_succ, Nat.mul_comm]
      exact Nat.mul_lt_mul_of_pos_left hd (Nat.pow_pos (by decide))
  intro k hk
  exact Nat.lt_of_lt_of_le (h k) ((Nat.pow_le_pow_right (by decide) hk : 2 ^ k ≤ 2 ^ 8))
theorem xor_cast {x y : Int} {X Y : Nat} (hx : x = (X : Int)) (hy : y = (Y : Int)) (hX : X < 256) (hY : Y < 256) : bits .xor .u8 x y = ((X ^^^ Y : Nat) : Int) := by
  subst hx hy
  exact u8_xor_nat X Y hX hY
theorem and1_cast {x : Int} {X : Nat} (hx : x = (X : Int)) (hX : X < 256) : bits .and .u8 x 1 = ((X % 2 : Nat) : Int) := by
  subst hx
  have h := u8_and_nat X 1 hX (by decide)
  rw [show ((1 : Nat) : Int) = 1 from rfl] at h
  rw [h, Nat.and_one_is_mod]
theorem dig_step {D X0 X1 X2 X3 X4 X5 P : Nat} {y0 y1 y2 y3 y4 y5 : Int} (h0 : y0 = (X0 : Int)) (h1 : y1 = (X1 : Int)) (h2 : y2 = (X2 : Int)) (h3 : y3 = (X3 : Int)) (h4 : y4 = (X4 : Int)) (h5 : y5 = (X5 : Int))
    (hD : D < 256) (b0 : X0 < 256) (b1 : X1 < 256) (b2 : X2 < 256) (b3 : X3 < 256) (b4 : X4 < 256) (b5 : X5 < 256) (hP : P ≤ 128) :
    bits .or .u8 (D : Int) (bits .and .u8 (bits .xor .u8 (bits .xor .u8 (bits .xor .u8 (bits .xor .u8 (bits .xor .u8 y0 y1) y2) y3) y4) y5) 1 * (P : Int) % 256) = ((D ||| (X0 ^^^ X1 ^^^ X2 ^^^ X3 ^^^ X4 ^^^ X5) % 2 * P : Nat) : Int) := by
  have e1 := xor_cast h0 h1 b0 b1
  have c1 := xor_lt b0 b1
  have e2 := xor_cast e1 h2 c1 b2
  have c2 := xor_lt c1 b2
  have e3 := xor_cast e2 h3 c2 b3
  have c3 := xor_lt c2 b3
  have e4 := xor_cast e3 h4 c3 b4
  have c4 := xor_lt c3 b4
  have e5 := xor_cast e4 h5 c4 b5
  have c5 := xor_lt c4 b5
  rw [and1_cast e5 c5]
  generalize X0 ^^^ X1 ^^^ X2 ^^^ X3 ^^^ X4 ^^^ X5 = Z
  have hz : Z % 2 = 0 ∨ Z % 2 = 1 := by omega
  rcases hz with hz | hz
  · rw [hz]; simpa using u8_or_nat D 0 hD (by decide)
  · rw [hz, Nat.one_mul]
    have := u8_or_nat D P hD (by omega)
    rw [show ((1 : Nat) : Int) * (P : Int) % 256 = (P : Int) by omega]
    exact this
theorem dig_at0 {b : Nat} (hb : b < 256) : bits .or .u8 ((digs b 0 : Nat) : Int) (bits .and .u8 (bits .xor .u8 (bits .xor .u8 (bits .xor .u8 (bits .xor .u8 (bits .xor .u8 (b : Int) ((b : Int) / 16)) ((b : Int) / 32)) ((b : Int) / 64)) ((b : Int) / 128)) 99) 1 % 256) = ((digs b 1 : Nat) : Int) := by
  have d : ∀ m, b / m < 256 := fun m => Nat.lt_of_le_of_lt (Nat.div_le_self _ _) hb
  have h := dig_step (D := digs b 0) (X0 := b / 1) (X1 := b / 16) (X2 := b / 32) (X3 := b / 64) (X4 := b / 128) (X5 := 99) (P := 1) (y0 := (b : Int)) (y1 := ((b : Int) / 16)) (y2 := ((b : Int) / 32)) (y3 := ((b : Int) / 64)) (y4 := ((b : Int) / 128)) (y5 := 99) (by omega) (by omega) (by omega) (by omega) (by omega) rfl (digs_lt b _ (by decide)) (d _) (d _) (d _) (d _) (d _) (by decide) (by decide)
  rw [show ((1 : Nat) : Int) = 1 from rfl, Int.mul_one] at h
  exact h
theorem dig_at1 {b : Nat} (hb : b < 256) : bits .or .u8 ((digs b 1 : Nat) : Int) (bits .and .u8 (bits .xor .u8 (bits .xor .u8 (bits .xor .u8 (bits .xor .u8 (bits .xor .u8 ((b : Int) / 2) ((b : Int) / 32)) ((b : Int) / 64)) ((b : Int) / 128)) (b : Int)) 49) 1 * 2 % 256) = ((digs b 2 : Nat) : Int) := by
  have d : ∀ m, b / m < 256 := fun m => Nat.lt_of_le_of_lt (Nat.div_le_self _ _) hb
  have h := dig_step (D := digs b 1) (X0 := b / 2) (X1 := b / 32) (X2 := b / 64) (X3 := b / 128) (X4 := b / 1) (X5 := 49) (P := 2) (y0 := ((b : Int) / 2)) (y1 := ((b : Int) / 32)) (y2 := ((b : Int) / 64)) (y3 := ((b : Int) / 128)) (y4 := (b : Int)) (y5 := 49) (by omega) (by omega) (by omega) (by omega) (by omega) rfl (digs_lt b _ (by decide)) (d _) (d _) (d _) (d _) (d _) (by decide) (by decide)
  exact h
theorem dig_at2 {b : Nat} (hb : b < 256) : bits .or .u8 ((digs b 2 : Nat) : Int) (bits .and .u8 (bits .xor .u8 (bits .xor .u8 (bits .xor .u8 (bits .xor .u8 (bits .xor .u8 ((b : Int) / 4) ((b : Int) / 64)) ((b : Int) / 128)) (b : Int)) ((b : Int) / 2)) 24) 1 * 4 % 256) = ((digs b 3 : Nat) : Int) := by
  have d : ∀ m, b / m < 256 := fun m => Nat.lt_of_le_of_lt (Nat.div_le_self _ _) hb
  have h := dig_step (D := digs b 2) (X0 := b / 4) (X1 := b / 64) (X2 := b / 128) (X3 := b / 1) (X4 := b / 2) (X5 := 24) (P := 4) (y0 := ((b : Int) / 4)) (y1 := ((b : Int) / 64)) (y2 := ((b : Int) / 128)) (y3 := (b : Int)) (y4 := ((b : Int) / 2)) (y5 := 24) (by omega) (by omega) (by omega) (by omega) (by omega) rfl (digs_lt b _ (by decide)) (d _) (d _) (d _) (d _) (d _) (by decide) (by decide)
  exact h
theorem dig_at3 {b : Nat} (hb : b < 256) : bits .or .u8 ((digs b 3 : Nat) : Int) (bits .and .u8 (bits .xor .u8 (bits .xor .u8 (bits .xor .u8 (bits .xor .u8 (bits .xor .u8 ((b : Int) / 8) ((b : Int) / 128)) (b : Int)) ((b : Int) / 2)) ((b : Int) / 4)) 12) 1 * 8 % 256) = ((digs b 4 : Nat) : Int) := by
  have d : ∀ m, b / m < 256 := fun m => Nat.lt_of_le_of_lt (Nat.div_le_self _ _) hb
  have h := dig_step (D := digs b 3) (X0 := b / 8) (X1 := b / 128) (X2 := b / 1) (X3 := b / 2) (X4 := b / 4) (X5 := 12) (P := 8) (y0 := ((b : Int) / 8)) (y1 := ((b : Int) / 128)) (y2 := (b : Int)) (y3 := ((b : Int) / 2)) (y4 := ((b : Int) / 4)) (y5 := 12) (by omega) (by omega) (by omega) (by omega) (by omega) rfl (digs_lt b _ (by decide)) (d _) (d _) (d _) (d _) (d _) (by decide) (by decide)
  exact h
theorem dig_at4 {b : Nat} (hb : b < 256) : bits .or .u8 ((digs b 4 : Nat) : Int) (bits .and .u8 (bits .xor .u8 (bits .xor .u8 (bits .xor .u8 (bits .xor .u8 (bits .xor .u8 ((b : Int) / 16) (b : Int)) ((b : Int) / 2)) ((b : Int) / 4)) ((b : Int) / 8)) 6) 1 * 16 % 256) = ((digs b 5 : Nat) : Int) := by
  have d : ∀ m, b / m < 256 := fun m => Nat.lt_of_le_of_lt (Nat.div_le_self _ _) hb
  have h := dig_step (D := digs b 4) (X0 := b / 16) (X1 := b / 1) (X2 := b / 2) (X3 := b / 4) (X4 := b / 8) (X5 := 6) (P := 16) (y0 := ((b : Int) / 16)) (y1 := (b : Int)) (y2 := ((b : Int) / 2)) (y3 := ((b : Int) / 4)) (y4 := ((b : Int) / 8)) (y5 := 6) (by omega) (by omega) (by omega) (by omega) (by omega) rfl (digs_lt b _ (by decide)) (d _) (d _) (d _) (d _) (d _) (by decide) (by decide)
  exact h
theorem dig_at5 {b : Nat} (hb : b < 256) : bits .or .u8 ((digs b 5 : Nat) : Int) (bits .and .u8 (bits .xor .u8 (bits .xor .u8 (bits .xor .u8 (bits .xor .u8 (bits .xor .u8 ((b : Int) / 32) ((b : Int) / 2)) ((b : Int) / 4)) ((b : Int) / 8)) ((b : Int) / 16)) 3) 1 * 32 % 256) = ((digs b 6 : Nat) : Int) := by
  have d : ∀ m, b / m < 256 := fun m => Nat.lt_of_le_of_lt (Nat.div_le_self _ _) hb
  have h := dig_step (D := digs b 5) (X0 := b / 32) (X1 := b / 2) (X2 := b / 4) (X3 := b / 8) (X4 := b / 16) (X5 := 3) (P := 32) (y0 := ((b : Int) / 32)) (y1 := ((b : Int) / 2)) (y2 := ((b : Int) / 4)) (y3 := ((b : Int) / 8)) (y4 := ((b : Int) / 16)) (y5 := 3) (by omega) (by omega) (by omega) (by omega) (by omega) rfl (digs_lt b _ (by decide)) (d _) (d _) (d _) (d _) (d _) (by decide) (by decide)
  exact h
theorem dig_at6 {b : Nat} (hb : b < 256) : bits .or .u8 ((digs b 6 : Nat) : Int) (bits .and .u8 (bits .xor .u8 (bits .xor .u8 (bits .xor .u8 (bits .xor .u8 (bits .xor .u8 ((b : Int) / 64) ((b : Int) / 4)) ((b : Int) / 8)) ((b : Int) / 16)) ((b : Int) / 32)) 1) 1 * 64 % 256) = ((digs b 7 : Nat) : Int) := by
  have d : ∀ m, b / m < 256 := fun m => Nat.lt_of_le_of_lt (Nat.div_le_self _ _) hb
  have h := dig_step (D := digs b 6) (X0 := b / 64) (X1 := b / 4) (X2 := b / 8) (X3 := b / 16) (X4 := b / 32) (X5 := 1) (P := 64) (y0 := ((b : Int) / 64)) (y1 := ((b : Int) / 4)) (y2 := ((b : Int) / 8)) (y3 := ((b : Int) / 16)) (y4 := ((b : Int) / 32)) (y5 := 1) (by omega) (by omega) (by omega) (by omega) (by omega) rfl (digs_lt b _ (by decide)) (d _) (d _) (d _) (d _) (d _) (by decide) (by decide)
  exact h
theorem dig_at7 {b : Nat} (hb : b < 256) : bits .or .u8 ((digs b 7 : Nat) : Int) (bits .and .u8 (bits .xor .u8 (bits .xor .u8 (bits .xor .u8 (bits .xor .u8 (bits .xor .u8 ((b : Int) / 128) ((b : Int) / 8)) ((b : Int) / 16)) ((b : Int) / 32)) ((b : Int) / 64)) 0) 1 * 128 % 256) = ((digs b 8 : Nat) : Int) := by
  have d : ∀ m, b / m < 256 := fun m => Nat.lt_of_le_of_lt (Nat.div_le_self _ _) hb
  have h := dig_step (D := digs b 7) (X0 := b / 128) (X1 := b / 8) (X2 := b / 16) (X3 := b / 32) (X4 := b / 64) (X5 := 0) (P := 128) (y0 := ((b : Int) / 128)) (y1 := ((b : Int) / 8)) (y2 := ((b : Int) / 16)) (y3 := ((b : Int) / 32)) (y4 := ((b : Int) / 64)) (y5 := 0) (by omega) (by omega) (by omega) (by omega) (by omega) rfl (digs_lt b _ (by decide)) (d _) (d _) (d _) (d _) (d _) (by decide) (by decide)
  exact h
set_option maxRecDepth 100000 in
set_option maxHeartbeats 1000000 in
theorem rpower_any (a N : Nat) (ha : a < 256) (h0 : ((a : Int) == 0) = false) (hN : N < 255) (w : World) :
    Calls Try.prog 80 #[.int .u8 (a : Int), .int .i64 (N : Int)] w fun e w' => e = .returned (.int .u8 ((npow a N : Nat) : Int)) ∧ w = w' := by
  have hm : (N : Int) % 255 = (N : Int) := by omega
  go_enter Try.func80, Try.ntmps80
  go_wp2_with fail
  go_loop [5, 6] (fun r i => ∃ (k : Nat), k ≤ N ∧ i = .int .i64 (k : Int) ∧ r = .int .u8 ((npow a k : Nat) : Int)) (fun _ i => N - (intOf i).toNat)
  case atStart => exact ⟨0, by omega, rfl, rfl⟩
  case round =>
    obtain ⟨k, hk, rfl, rfl⟩ := hrel
    have hp := Fld.npow_lt ha k
    have HS : Box (npow a (k + 1) = mul (npow a k) a) := ⟨rfl⟩
    by_cases hlt : k < N
    · go_wp2_with fail
      refine (rmul_any (npow a k) a hp ha _).mono ?_
      rw [← HS.out]
      rintro e w' ⟨rfl, rfl⟩
      go_wp2_with fail
      go_round
      case rel => exact ⟨k + 1, by omega, by go_num, rfl⟩
      case measure => simp [intOf]; omega
    · obtain rfl : k = N := by omega
      go_wp2_with fail
      go_ret
      exact ⟨rfl, rfl⟩
set_option maxRecDepth 100000 in
set_option maxHeartbeats 400000 in
theorem rround_any (n : Int) (w : World) (hn : -9223372036854775808 ≤ n) (hn2 : n ≤ 9223372036854775807) :
    Calls Try.prog 57 #[.int .i64 n] w fun e w' => e = .returned (.int .u8 ((roundN n : Nat) : Int)) ∧ w = w' := by
  by_cases h : n < 1
  · have e : roundN n = 0 := by unfold roundN; rw [if_pos h]
    rw [e]
    clear e
    go_enter Try.func57, Try.ntmps57
    go_wp2_with fail
    go_ret
    exact ⟨rfl, rfl⟩
  · obtain ⟨m, hm⟩ := Int.eq_ofNat_of_zero_le (show 0 ≤ n - 1 by omega)
    have e1 : n = (m : Int) + 1 := by omega
    subst e1
    have e : npow 2 (m % 255) = roundN ((m : Int) + 1) := by
      unfold roundN
      rw [if_neg h]
      unfold powI
      rw [if_neg (by omega), show ((m : Int) + 1 - 1) = (m : Int) by omega, show ((m : Int) % 255).toNat = m % 255 by omega, Fld.pw_eq (by decide) (by omega)]
    have E := Box.mk e
    have hm9 : (m : Int) ≤ 9223372036854775806 := by omega
    clear e hm h hn hn2
    go_enter Try.func57, Try.ntmps57
    go_wp2_with fail
    rw [show (m : Int) % 255 = ((m % 255 : Nat) : Int) by omega]
    refine (rpower_any 2 (m % 255) (by decide) (by decide) (Nat.mod_lt _ (by decide)) _).mono ?_
    rw [E.out]
    rintro e w' ⟨rfl, rfl⟩
    go_wp2_with fail
    go_ret
    exact ⟨rfl, rfl⟩
set_option maxRecDepth 100000 in
set_option maxHeartbeats 4000000 in
theorem rsub_any (a : Nat) (ha : a < 256) (w : World) :
    Calls Try.prog 52 #[.int .u8 (a : Int)] w fun e w' => e = .returned (.int .u8 ((sub a : Nat) : Int)) ∧ ∃ n, w' = w.drewN n := by
  have hb := inv_lt ha
  have HI : Box (∀ w, Calls Try.prog 78 #[.int .u8 (a : Int)] w fun e w' => e = .returned (.int .u8 ((inv a : Nat) : Int)) ∧ w = w') := ⟨rinv_any a ha⟩
  have HS : Box (sub a = turn (inv a)) := ⟨rfl⟩
  rw [HS.out]
  clear HS
  revert HI hb
  generalize inv a = b
  intro hb HI
  go_enter Try.func52, Try.ntmps52
  go_wp2_with fail
  refine (HI.out _).mono ?_
  rintro e w' ⟨rfl, rfl⟩
  go_wp2_with fail
  go_loopw [4, 5] (fun r i wr => ∃ (k n : Nat), k ≤ 8 ∧ i = .int .i64 (k : Int) ∧ r = .int .u8 ((digs b k : Nat) : Int) ∧ wr = w.drewN n) (fun _ i _ => 8 - (intOf i).toNat)
  case atStart => exact ⟨0, 0, by omega, rfl, rfl, rfl⟩
  case round =>
    obtain ⟨k, n, hk, rfl, rfl, rfl⟩ := hrel
    have h8 : k = 0 ∨ k = 1 ∨ k = 2 ∨ k = 3 ∨ k = 4 ∨ k = 5 ∨ k = 6 ∨ k = 7 ∨ k = 8 := by omega
    clear hk HI
    rcases h8 with rfl | rfl | rfl | rfl | rfl | rfl | rfl | rfl | rfl
    · go_wp2_with fail
      go_quiet (fail)
      go_wp2_with fail
      go_roundw
      case rel => exact ⟨1, _, by omega, rfl, val_int (dig_at0 hb), rfl⟩
      case measure => simp [intOf]
    · go_wp2_with fail
      go_quiet (fail)
      go_wp2_with fail
      go_roundw
      case rel => exact ⟨2, _, by omega, rfl, val_int (dig_at1 hb), rfl⟩
      case measure => simp [intOf]
    · go_wp2_with fail
      go_quiet (fail)
      go_wp2_with fail
      go_roundw
      case rel => exact ⟨3, _, by omega, rfl, val_int (dig_at2 hb), rfl⟩
      case measure => simp [intOf]
    · go_wp2_with fail
      go_quiet (fail)
      go_wp2_with fail
      go_roundw
      case rel => exact ⟨4, _, by omega, rfl, val_int (dig_at3 hb), rfl⟩
      case measure => simp [intOf]
    · go_wp2_with fail
      go_quiet (fail)
      go_wp2_with fail
      go_roundw
      case rel => exact ⟨5, _, by omega, rfl, val_int (dig_at4 hb), rfl⟩
      case measure => simp [intOf]
    · go_wp2_with fail
      go_quiet (fail)
      go_wp2_with fail
      go_roundw
      case rel => exact ⟨6, _, by omega, rfl, val_int (dig_at5 hb), rfl⟩
      case measure => simp [intOf]
    · go_wp2_with fail
      go_quiet (fail)
      go_wp2_with fail
      go_roundw
      case rel => exact ⟨7, _, by omega, rfl, val_int (dig_at6 hb), rfl⟩
      case measure => simp [intOf]
    · go_wp2_with fail
      go_quiet (fail)
      go_wp2_with fail
      go_roundw
      case rel => exact ⟨8, _, by omega, rfl, val_int (dig_at7 hb), rfl⟩
      case measure => simp [intOf]
    · go_wp2_with fail
      go_ret
      exact ⟨ret_int (by rw [digs_turn hb]), n, rfl⟩
end Go.Proofs.Ytibfihjcjohadaa
/- The walk of the reference's NewBox: a new block of 512 bytes: what each byte is turned into, and back. -/
namespace Go.Proofs.Ytibfihjcjohadaa
open Go.RowKit Go.Op
open Fld (tw mul tw_lt xor_lt mul_lt pw npow inv inv_lt)
open Sbx (sub sub_lt back back_lt turn turn_lt dig digs digs_turn boxN lg npow3_inj npow3_lt table_lg)
theorem below_drewN {B : Nat} {a w : World} (h : Below B a w) (n : Nat) : Below B a (w.drewN n) := ⟨h.os, h.tape, h.output, h.size, h.block⟩
/-- a byte as a cell -/
def bCell (f : Nat → Nat) (i : Nat) : Value := .int .u8 ((f i : Nat) : Int)
/-- a whole number as a cell -/
def iCell (f : Nat → Nat) (i : Nat) : Value := .int .i64 ((f i : Nat) : Int)
theorem zero_cells {C : Array Value} {n : Nat} {v : Value} (h : C = Array.replicate n v) (w : World) (t : TypeId) : (w.alloc (.cells C t)).rowIs w.heap.size t n (fun _ => v) := by
  subst h
  have := World.rowIs_alloc w (Array.replicate n v) t (fun _ => v) (fun i hi => by simp at hi; simp [hi])
  rwa [Array.size_replicate] at this
theorem rowIs_set {w : World} {b t n i : Nat} {k : IntKind} {f : Nat → Value} {g : Nat → Nat} {x : Nat} (h : w.rowIs b t n f) (hg : ∀ j, j < n → (if j = i then Value.int k (x : Int) else f j) = Value.int k ((g j : Nat) : Int)) {u : Value} (hu : u = .int k (x : Int)) : (w.setCell ⟨b, i, none⟩ u).rowIs b t n (fun j => .int k ((g j : Nat) : Int)) := by
  subst hu
  exact (h.set i _).congr hg
/-- block B is a box -/
def BoxM (w : World) (B : Nat) : Prop := w.rowIs B 55 512 (bCell boxN)
/-- the first k powers of 3 -/
def upN (k j : Nat) : Nat := if j < k then npow 3 j else 0
set_option maxRecDepth 100000 in
set_option maxHeartbeats 8000000 in
theorem newBox_any (w : World) :
    Calls Try.prog 50 #[] w fun e w' => e = .returned (.pointer (some ⟨w.heap.size, 0, none⟩)) ∧ BoxM w' w.heap.size ∧ Below w.heap.size w w' ∧ w.heap.size + 1 ≤ w'.heap.size := by
  have z0 := zero_cells (show Try.zeroCells55 = Array.replicate 512 (.int .u8 0) by kernel_rfl) w 55
  have z1 := zero_cells (show Try.zeroCells88 = Array.replicate 255 (.int .u8 0) by kernel_rfl) (w.alloc (.cells Try.zeroCells55 55)) 88
  have z2 := zero_cells (show Try.zeroCells89 = Array.replicate 256 (.int .i64 0) by kernel_rfl) ((w.alloc (.cells Try.zeroCells55 55)).alloc (.cells Try.zeroCells88 88)) 89
  have zb : Below w.heap.size w (((w.alloc (.cells Try.zeroCells55 55)).alloc (.cells Try.zeroCells88 88)).alloc (.cells Try.zeroCells89 89)) := (((Below.refl _ _).alloc (Nat.le_refl _) _).alloc (by simp) _).alloc (by simp; omega) _
  have z0 := (z0.alloc (.cells Try.zeroCells88 88)).alloc (.cells Try.zeroCells89 89)
  have z1 := z1.alloc (.cells Try.zeroCells89 89)
  have zs : w.heap.size + 3 ≤ (((w.alloc (.cells Try.zeroCells55 55)).alloc (.cells Try.zeroCells88 88)).alloc (.cells Try.zeroCells89 89)).heap.size := by simp
  simp only [World.size_alloc] at z1 z2
  go_enter Try.func50, Try.ntmps50
  go_wp2_with fail
  revert z0 z1 z2 zb zs
  generalize ((w.alloc (.cells Try.zeroCells55 55)).alloc (.cells Try.zeroCells88 88)).alloc (.cells Try.zeroCells89 89) = w1
  intro zb z0 zs z1 z2
  go_loopw [4, 5] (fun v i wr => ∃ (k : Nat) (g : Nat → Nat), i = .int .i64 (k : Int) ∧ k ≤ 255 ∧ v = .int .u8 ((npow 3 k : Nat) : Int) ∧ Box (∀ j, j < k → g (npow 3 j) = j) ∧ wr.rowIs w.heap.size 55 512 (bCell fun _ => 0) ∧ wr.rowIs (w.heap.size + 1) 88 255 (bCell (upN k)) ∧ wr.rowIs (w.heap.size + 2) 89 256 (iCell g) ∧ Below w.heap.size w wr ∧ w.heap.size + 3 ≤ wr.heap.size) (fun _ i _ => 255 - (intOf i).toNat)
  case atStart => exact ⟨0, fun _ => 0, rfl, by omega, rfl, ⟨fun j hj => absurd hj (by omega)⟩, z0, z1, z2, zb, zs⟩
  case round =>
    obtain ⟨k, g, rfl, hk, rfl, HG, h0, h1, h2, hbel, hsz⟩ := hrel
    clear z0 z1 z2 zb zs w1
    by_cases hk5 : k = 255
    · subst hk5
      have HT : Box (∀ a, a < 256 → a ≠ 0 → g a = lg a ∧ lg a < 255 ∧ npow 3 ((255 - lg a) % 255) = inv a) := ⟨fun a ha h0 => table_lg HG.out ha h0⟩
      clear HG
      go_wp2_with fail
      go_loopw [6] (fun i wr => ∃ (a : Nat) (f : Nat → Nat), i = .int .i64 (a : Int) ∧ a ≤ 256 ∧ Box (∀ j, j < a → f j = sub j ∧ f (256 + sub j) = j) ∧ wr.rowIs w.heap.size 55 512 (bCell f) ∧ wr.rowIs (w.heap.size + 1) 88 255 (bCell (upN 255)) ∧ wr.rowIs (w.heap.size + 2) 89 256 (iCell g) ∧ Below w.heap.size w wr ∧ w.heap.size + 3 ≤ wr.heap.size) (fun i _ => 256 - (intOf i).toNat)
      case atStart => exact ⟨0, fun _ => 0, rfl, by omega, ⟨fun j hj => absurd hj (by omega)⟩, h0, h1, h2, hbel, hsz⟩
      case round =>
        obtain ⟨a, f, rfl, ha, HF, h0', h1', h2', hbel', hsz'⟩ := hrel
        clear h0 h1 h2 hbel hsz
        by_cases ha6 : a = 256
        · subst ha6
          have hB : BoxM wr w.heap.size := by
            refine h0'.congr (fun i hi => ?_)
            unfold bCell boxN
            by_cases h : i < 256
            · rw [if_pos h, (HF.out i h).1]
            · rw [if_neg h]
              have h1 := (HF.out (back (i - 256)) (back_lt (by omega))).2
              rw [Sbx.sub_back (by omega), show 256 + (i - 256) = i by omega] at h1
              rw [h1]
          clear HF h0' h1' h2'
          go_wp2_with fail
          go_ret
          exact ⟨rfl, hB, hbel', by omega⟩
        · have ha2 : a < 256 := by omega
          clear ha6
          have HI : Box (∀ x, x < 256 → f x < 256 ∨ True) := ⟨fun _ _ => .inr trivial⟩
          clear HI
          have hcase : (a = 0) ∨ (0 < a ∧ ∃ L q : Nat, g a = L ∧ L < 255 ∧ (255 - (L : Int)) % 255 = (q : Int) ∧ q < 255 ∧ npow 3 q = inv a) := by
            rcases Nat.eq_zero_or_pos a with h | h
            · exact .inl h
            · obtain ⟨t1, t2, t3⟩ := HT.out a ha2 (by omega)
              exact .inr ⟨h, lg a, (255 - lg a) % 255, t1, t2, by omega, Nat.mod_lt _ (by decide), t3⟩
          have HFIN : Box (sub a = turn (inv a)) := ⟨rfl⟩
          have hinv := inv_lt ha2
          rcases hcase with h0a | ⟨ha0, L, q, hL, hL2, hq, hq2, hqi⟩
          · have HZ : Box (0 = inv a) := ⟨by rw [h0a, inv_zero]⟩
            have hle : (a : Int) ≤ 0 := by omega
            clear h0a
            go_wp2_with fail
            obtain ⟨bn, hbn, hb, HZ⟩ : ∃ bn : Nat, (0 : Int) = (bn : Int) ∧ bn < 256 ∧ Box (bn = inv a) := ⟨0, rfl, by decide, HZ⟩
            rw [show Value.int .u8 0 = Value.int .u8 (bn : Int) by rw [hbn]]
            have HBN := Box.mk hbn
            clear hbn
            go_loopw [8, 9] (fun r i w' => ∃ (k n : Nat), k ≤ 8 ∧ i = .int .i64 (k : Int) ∧ r = .int .u8 ((digs bn k : Nat) : Int) ∧ w' = wr.drewN n) (fun _ i _ => 8 - (intOf i).toNat)
            case atStart => exact ⟨0, 0, by omega, rfl, val_int HBN.out.symm, rfl⟩
            case round =>
              obtain ⟨k, n, hk, rfl, rfl, rfl⟩ := hrel
              have h8 : k = 0 ∨ k = 1 ∨ k = 2 ∨ k = 3 ∨ k = 4 ∨ k = 5 ∨ k = 6 ∨ k = 7 ∨ k = 8 := by omega
              clear hk
              rcases h8 with rfl | rfl | rfl | rfl | rfl | rfl | rfl | rfl | rfl
              · go_wp2_with fail
                go_quiet (fail)
                go_wp2_with fail
                go_roundw
                case rel => exact ⟨1, _, by omega, rfl, val_int (dig_at0 hb), rfl⟩
                case measure => simp [intOf]
              · go_wp2_with fail
                go_quiet (fail)
                go_wp2_with fail
                go_roundw
                case rel => exact ⟨2, _, by omega, rfl, val_int (dig_at1 hb), rfl⟩
                case measure => simp [intOf]
              · go_wp2_with fail
                go_quiet (fail)
                go_wp2_with fail
                go_roundw
                case rel => exact ⟨3, _, by omega, rfl, val_int (dig_at2 hb), rfl⟩
                case measure => simp [intOf]
              · go_wp2_with fail
                go_quiet (fail)
                go_wp2_with fail
                go_roundw
                case rel => exact ⟨4, _, by omega, rfl, val_int (dig_at3 hb), rfl⟩
                case measure => simp [intOf]
              · go_wp2_with fail
                go_quiet (fail)
                go_wp2_with fail
                go_roundw
                case rel => exact ⟨5, _, by omega, rfl, val_int (dig_at4 hb), rfl⟩
                case measure => simp [intOf]
              · go_wp2_with fail
                go_quiet (fail)
                go_wp2_with fail
                go_roundw
                case rel => exact ⟨6, _, by omega, rfl, val_int (dig_at5 hb), rfl⟩
                case measure => simp [intOf]
              · go_wp2_with fail
                go_quiet (fail)
                go_wp2_with fail
                go_roundw
                case rel => exact ⟨7, _, by omega, rfl, val_int (dig_at6 hb), rfl⟩
                case measure => simp [intOf]
              · go_wp2_with fail
                go_quiet (fail)
                go_wp2_with fail
                go_roundw
                case rel => exact ⟨8, _, by omega, rfl, val_int (dig_at7 hb), rfl⟩
                case measure => simp [intOf]
              · have hs : digs bn 8 = sub a := by rw [digs_turn hb, HFIN.out, ← HZ.out]
                rw [hs]
                clear hs hb HFIN hinv HZ
                have hsl := sub_lt ha2
                have e0 := h0'.cell (show a < 512 by omega)
                have g0 := h0'.frozen a
                have e1 := h0'.cell (show 256 + sub a < 512 by omega)
                have g1 := h0'.frozen (256 + sub a)
                unfold bCell at e0 e1
                have HNEW : Box (∀ j, j < a + 1 → (fun x => if x = 256 + sub a then a else if x = a then sub a else f x) j = sub j ∧ (fun x => if x = 256 + sub a then a else if x = a then sub a else f x) (256 + sub j) = j) := by
                  refine ⟨fun j hj => ?_⟩
                  show (if j = 256 + sub a then a else if j = a then sub a else f j) = sub j ∧ (if 256 + sub j = 256 + sub a then a else if 256 + sub j = a then sub a else f (256 + sub j)) = j
                  rw [if_neg (by omega)]
                  by_cases e : j = a
                  · subst e; rw [if_pos rfl, if_pos rfl]; exact ⟨rfl, rfl⟩
                  · have hja : j < a := by omega
                    rw [if_neg e, if_neg (fun h => e (Sbx.sub_inj (by omega) ha2 (by omega))), if_neg (by omega)]
                    exact HF.out j hja
                have HR : Box (∀ n, (((wr.drewN n).setCell ⟨w.heap.size, a, none⟩ (.int .u8 ((sub a : Nat) : Int))).setCell ⟨w.heap.size, 256 + sub a, none⟩ (.int .u8 (a : Int))).rowIs w.heap.size 55 512 (bCell fun x => if x = 256 + sub a then a else if x = a then sub a else f x)) := by
                  refine ⟨fun n => ?_⟩
                  have r0 : (wr.drewN n).rowIs w.heap.size 55 512 (bCell f) := h0'
                  refine ((r0.set a _).set (256 + sub a) _).congr (fun i _ => ?_)
                  show (if i = 256 + sub a then Value.int .u8 (a : Int) else if i = a then Value.int .u8 ((sub a : Nat) : Int) else Value.int .u8 ((f i : Nat) : Int)) = Value.int .u8 (((if i = 256 + sub a then a else if i = a then sub a else f i) : Nat) : Int)
                  by_cases e1 : i = 256 + sub a
                  · rw [if_pos e1, if_pos e1]
                  · rw [if_neg e1, if_neg e1]
                    by_cases e2 : i = a
                    · rw [if_pos e2, if_pos e2]
                    · rw [if_neg e2, if_neg e2]
                go_wp2_with fail
                go_roundw
                case rel =>
                  refine ⟨a + 1, _, by go_num, by omega, HNEW, HR.out n, ?_, ?_, ?_, ?_⟩
                  · exact ((show (wr.drewN n).rowIs _ 88 255 _ from h1').setOther (show w.heap.size + 1 ≠ w.heap.size by omega) _).setOther (show w.heap.size + 1 ≠ w.heap.size by omega) _
                  · exact ((show (wr.drewN n).rowIs _ 89 256 _ from h2').setOther (show w.heap.size + 2 ≠ w.heap.size by omega) _).setOther (show w.heap.size + 2 ≠ w.heap.size by omega) _
                  · exact ((below_drewN hbel' n).setCell (Nat.le_refl _) _).setCell (Nat.le_refl _) _
                  · simpa [World.setCell] using hsz'
                case measure => simp [intOf]; omega

          · have c2 := h2'.cell ha2
            unfold iCell at c2
            rw [hL] at c2
            have c1 := h1'.cell hq2
            unfold bCell upN at c1
            rw [if_pos hq2] at c1
            have HZ : Box (npow 3 q = inv a) := ⟨hqi⟩
            have hb := npow3_lt q
            revert c1 HZ hb
            generalize npow 3 q = bn
            intro c1 HZ hb
            clear hqi
            have ha0' : 0 < (a : Int) := by omega
            clear hL
            go_wp2_with fail
            go_loopw [8, 9] (fun r i w' => ∃ (k n : Nat), k ≤ 8 ∧ i = .int .i64 (k : Int) ∧ r = .int .u8 ((digs bn k : Nat) : Int) ∧ w' = wr.drewN n) (fun _ i _ => 8 - (intOf i).toNat)
            case atStart => exact ⟨0, 0, by omega, rfl, rfl, rfl⟩
            case round =>
              obtain ⟨k, n, hk, rfl, rfl, rfl⟩ := hrel
              have h8 : k = 0 ∨ k = 1 ∨ k = 2 ∨ k = 3 ∨ k = 4 ∨ k = 5 ∨ k = 6 ∨ k = 7 ∨ k = 8 := by omega
              clear hk
              rcases h8 with rfl | rfl | rfl | rfl | rfl | rfl | rfl | rfl | rfl
              · go_wp2_with fail
                go_quiet (fail)
                go_wp2_with fail
                go_roundw
                case rel => exact ⟨1, _, by omega, rfl, val_int (dig_at0 hb), rfl⟩
                case measure => simp [intOf]
              · go_wp2_with fail
                go_quiet (fail)
                go_wp2_with fail
                go_roundw
                case rel => exact ⟨2, _, by omega, rfl, val_int (dig_at1 hb), rfl⟩
                case measure => simp [intOf]
              · go_wp2_with fail
                go_quiet (fail)
                go_wp2_with fail
                go_roundw
                case rel => exact ⟨3, _, by omega, rfl, val_int (dig_at2 hb), rfl⟩
                case measure => simp [intOf]
              · go_wp2_with fail
                go_quiet (fail)
                go_wp2_with fail
                go_roundw
                case rel => exact ⟨4, _, by omega, rfl, val_int (dig_at3 hb), rfl⟩
                case measure => simp [intOf]
              · go_wp2_with fail
                go_quiet (fail)
                go_wp2_with fail
                go_roundw
                case rel => exact ⟨5, _, by omega, rfl, val_int (dig_at4 hb), rfl⟩
                case measure => simp [intOf]
              · go_wp2_with fail
                go_quiet (fail)
                go_wp2_with fail
                go_roundw
                case rel => exact ⟨6, _, by omega, rfl, val_int (dig_at5 hb), rfl⟩
                case measure => simp [intOf]
              · go_wp2_with fail
                go_quiet (fail)
                go_wp2_with fail
                go_roundw
                case rel => exact ⟨7, _, by omega, rfl, val_int (dig_at6 hb), rfl⟩
                case measure => simp [intOf]
              · go_wp2_with fail
                go_quiet (fail)
                go_wp2_with fail
                go_roundw
                case rel => exact ⟨8, _, by omega, rfl, val_int (dig_at7 hb), rfl⟩
                case measure => simp [intOf]
              · have hs : digs bn 8 = sub a := by rw [digs_turn hb, HFIN.out, ← HZ.out]
                rw [hs]
                clear hs hb HFIN hinv HZ
                have hsl := sub_lt ha2
                have e0 := h0'.cell (show a < 512 by omega)
                have g0 := h0'.frozen a
                have e1 := h0'.cell (show 256 + sub a < 512 by omega)
                have g1 := h0'.frozen (256 + sub a)
                unfold bCell at e0 e1
                have HNEW : Box (∀ j, j < a + 1 → (fun x => if x = 256 + sub a then a else if x = a then sub a else f x) j = sub j ∧ (fun x => if x = 256 + sub a then a else if x = a then sub a else f x) (256 + sub j) = j) := by
                  refine ⟨fun j hj => ?_⟩
                  show (if j = 256 + sub a then a else if j = a then sub a else f j) = sub j ∧ (if 256 + sub j = 256 + sub a then a else if 256 + sub j = a then sub a else f (256 + sub j)) = j
                  rw [if_neg (by omega)]
                  by_cases e : j = a
                  · subst e; rw [if_pos rfl, if_pos rfl]; exact ⟨rfl, rfl⟩
                  · have hja : j < a := by omega
                    rw [if_neg e, if_neg (fun h => e (Sbx.sub_inj (by omega) ha2 (by omega))), if_neg (by omega)]
                    exact HF.out j hja
                have HR : Box (∀ n, (((wr.drewN n).setCell ⟨w.heap.size, a, none⟩ (.int .u8 ((sub a : Nat) : Int))).setCell ⟨w.heap.size, 256 + sub a, none⟩ (.int .u8 (a : Int))).rowIs w.heap.size 55 512 (bCell fun x => if x = 256 + sub a then a else if x = a then sub a else f x)) := by
                  refine ⟨fun n => ?_⟩
                  have r0 : (wr.drewN n).rowIs w.heap.size 55 512 (bCell f) := h0'
                  refine ((r0.set a _).set (256 + sub a) _).congr (fun i _ => ?_)
                  show (if i = 256 + sub a then Value.int .u8 (a : Int) else if i = a then Value.int .u8 ((sub a : Nat) : Int) else Value.int .u8 ((f i : Nat) : Int)) = Value.int .u8 (((if i = 256 + sub a then a else if i = a then sub a else f i) : Nat) : Int)
                  by_cases e1 : i = 256 + sub a
                  · rw [if_pos e1, if_pos e1]
                  · rw [if_neg e1, if_neg e1]
                    by_cases e2 : i = a
                    · rw [if_pos e2, if_pos e2]
                    · rw [if_neg e2, if_neg e2]
                go_wp2_with fail
                go_roundw
                case rel =>
                  refine ⟨a + 1, _, by go_num, by omega, HNEW, HR.out n, ?_, ?_, ?_, ?_⟩
                  · exact ((show (wr.drewN n).rowIs _ 88 255 _ from h1').setOther (show w.heap.size + 1 ≠ w.heap.size by omega) _).setOther (show w.heap.size + 1 ≠ w.heap.size by omega) _
                  · exact ((show (wr.drewN n).rowIs _ 89 256 _ from h2').setOther (show w.heap.size + 2 ≠ w.heap.size by omega) _).setOther (show w.heap.size + 2 ≠ w.heap.size by omega) _
                  · exact ((below_drewN hbel' n).setCell (Nat.le_refl _) _).setCell (Nat.le_refl _) _
                  · simpa [World.setCell] using hsz'
                case measure => simp [intOf]; omega

    · have hk2 : k < 255 := by omega
      have hp := npow3_lt k
      have c1 := h1.cell hk2
      have f1 := h1.frozen k
      have c2 := h2.cell hp
      have f2 := h2.frozen (npow 3 k)
      have c2' : ∀ u, (wr.setCell ⟨w.heap.size + 1, k, none⟩ u).cell? ⟨w.heap.size + 2, npow 3 k, none⟩ = some (iCell g (npow 3 k)) := fun u => (h2.setOther (a := ⟨w.heap.size + 1, k, none⟩) (show w.heap.size + 2 ≠ w.heap.size + 1 by omega) u).cell hp
      unfold bCell at c1
      unfold iCell at c2 c2'
      have HM : Box (mul (npow 3 k) 3 = npow 3 (k + 1)) := ⟨rfl⟩
      clear hk5
      go_wp2_with fail
      refine (rmul_any (npow 3 k) 3 hp (by decide) _).mono ?_
      rw [HM.out]
      rintro e w' ⟨rfl, rfl⟩
      go_wp2_with fail
      go_roundw
      case rel =>
        refine ⟨k + 1, fun x => if x = npow 3 k then k else g x, by go_num, by omega, rfl, ⟨fun j hj => ?_⟩, ?_, ?_, ?_, ?_, ?_⟩
        · by_cases e : j = k
          · subst e; exact if_pos rfl
          · show (if npow 3 j = npow 3 k then k else g (npow 3 j)) = j
            rw [if_neg (fun h => e (npow3_inj (by omega) hk2 h))]; exact HG.out j (by omega)
        · exact (h0.setOther (show w.heap.size ≠ w.heap.size + 1 by omega) _).setOther (show w.heap.size ≠ w.heap.size + 2 by omega) _
        · refine (rowIs_set (x := npow 3 k) (g := upN (k + 1)) h1 (fun j _ => ?_) rfl).setOther (show w.heap.size + 1 ≠ w.heap.size + 2 by omega) _
          unfold bCell upN
          by_cases e : j = k
          · subst e; rw [if_pos rfl, if_pos (by omega)]
          · rw [if_neg e]
            by_cases hj : j < k
            · rw [if_pos hj, if_pos (by omega)]
            · rw [if_neg hj, if_neg (by omega)]
        · refine rowIs_set (x := k) (g := fun x => if x = npow 3 k then k else g x) (h2.setOther (show w.heap.size + 2 ≠ w.heap.size + 1 by omega) _) (fun j _ => ?_) rfl
          unfold iCell
          by_cases e : j = npow 3 k
          · rw [if_pos e, if_pos e]
          · rw [if_neg e, if_neg e]
        · exact (hbel.setCell (show w.heap.size ≤ w.heap.size + 1 by omega) _).setCell (show w.heap.size ≤ w.heap.size + 2 by omega) _
        · simpa [World.setCell] using hsz
      case measure => simp [intOf]; omega
end Go.Proofs.Ytibfihjcjohadaa
/- The walks of the laws on the byte box that need no reference: they return true, whatever the input, and write nothing that was there. -/
namespace Go.Proofs.Ytibfihjcjohadaa
open Go.RowKit Go.Op
open Fld (tw mul tw_lt xor_lt mul_lt pw npow inv inv_lt)
open Sbx (rotl rotl_lt turn turn_lt sub sub_lt back back_lt word word_lt)
set_option maxRecDepth 100000 in
set_option maxHeartbeats 1000000 in
theorem shares_any (a b p q d x y z v : Nat) (hp : p < 256) (hq : q < 256) (hx : x < 256) (hy : y < 256) (hz : z < 256)
    (H1 : Box (∀ w, Calls Try.prog 33 #[.int .u8 (a : Int)] w fun e w' => e = .returned (.int .u8 (p : Int)) ∧ w = w'))
    (H2 : Box (∀ w, Calls Try.prog 33 #[.int .u8 (b : Int)] w fun e w' => e = .returned (.int .u8 (q : Int)) ∧ w = w'))
    (H3 : Box (∀ w, Calls Try.prog 33 #[.int .u8 ((p ^^^ q : Nat) : Int)] w fun e w' => e = .returned (.int .u8 (d : Int)) ∧ w = w'))
    (S1 : Box (∀ w, Calls Try.prog 51 #[.int .u8 (a : Int)] w fun e w' => e = .returned (.int .u8 (x : Int)) ∧ Below w.heap.size w w'))
    (S2 : Box (∀ w, Calls Try.prog 51 #[.int .u8 (b : Int)] w fun e w' => e = .returned (.int .u8 (y : Int)) ∧ Below w.heap.size w w'))
    (S3 : Box (∀ w, Calls Try.prog 51 #[.int .u8 0] w fun e w' => e = .returned (.int .u8 (z : Int)) ∧ Below w.heap.size w w'))
    (S4 : Box (∀ w, Calls Try.prog 51 #[.int .u8 (d : Int)] w fun e w' => e = .returned (.int .u8 (v : Int)) ∧ Below w.heap.size w w'))
    (HS : Box (x ^^^ y ^^^ z = v)) (w : World) :
    Calls Try.prog 16 #[.int .u8 (a : Int), .int .u8 (b : Int)] w fun e w' => e = .returned (.bool true) ∧ Below w.heap.size w w' := by
  go_enter Try.func16, Try.ntmps16
  go_wp2_with fail
  refine (H1.out _).mono ?_
  rintro e w' ⟨rfl, rfl⟩
  go_wp2_with fail
  refine (H2.out _).mono ?_
  rintro e w' ⟨rfl, rfl⟩
  go_wp2_with fail
  refine (sum_any _ 2 2 [p, q] _ (bytes_two _ _ _ _ 5 rfl hp hq)).mono ?_
  rw [show xsum [p, q] = p ^^^ q by simp [xsum]]
  rintro e w' ⟨rfl, rfl⟩
  go_wp2_with fail
  refine (H3.out _).mono ?_
  rintro e w' ⟨rfl, rfl⟩
  go_wp2_with fail
  refine (S1.out _).mono ?_
  rintro e w1 ⟨rfl, hb1⟩
  have hbel1 := below_alloc hb1
  clear hb1
  go_wp2_with fail
  refine (S2.out _).mono ?_
  rintro e w2 ⟨rfl, hb2⟩
  have hbel2 := hbel1.trans (hb2.mono hbel1.size)
  clear hb2 hbel1
  go_wp2_with fail
  refine (S3.out _).mono ?_
  rintro e w3 ⟨rfl, hb3⟩
  have hbel3 := hbel2.trans (hb3.mono hbel2.size)
  clear hb3 hbel2
  go_wp2_with fail
  refine (sum_any _ 3 3 [x, y, z] _ (bytes_three _ _ _ _ _ 5 rfl hx hy hz)).mono ?_
  rw [xsum_three, HS.out]
  rintro e w' ⟨rfl, rfl⟩
  have hbel4 := hbel3.alloc hbel3.size (.cells #[.int .u8 (x : Int), .int .u8 (y : Int), .int .u8 (z : Int)] 5)
  have hsz4 := hbel4.size
  clear hbel3
  go_wp2_with fail
  refine (S4.out _).mono ?_
  rintro e w5 ⟨rfl, hb5⟩
  have hbel5 := hbel4.trans (hb5.mono hbel4.size)
  clear hb5 hbel4 hsz4
  go_wp2_with fail
  refine (awake5 _).mono ?_
  rintro e w6 ⟨rfl, hb6⟩
  go_wp2_with fail
  go_ret
  exact ⟨rfl, hbel5.trans (hb6.mono hbel5.size)⟩
theorem sboxShares_walk (a : Nat) (ha : a < 256) (b : Nat) (hb : b < 256) (w : World) :
    Calls Try.prog 16 #[.int .u8 (a : Int), .int .u8 (b : Int)] w fun e w' => e = .returned (.bool true) ∧ Below w.heap.size w w' := by
  have hx : inv a ^^^ inv b < 256 := xor_lt (inv_lt ha) (inv_lt hb)
  exact shares_any a b (inv a) (inv b) (inv (inv a ^^^ inv b)) (sub a) (sub b) (sub 0) (sub (inv (inv a ^^^ inv b))) (inv_lt ha) (inv_lt hb) (sub_lt ha) (sub_lt hb) (sub_lt (by decide))
    ⟨inv_any a ha⟩ ⟨inv_any b hb⟩ ⟨inv_any _ hx⟩ ⟨sub_any a ha⟩ ⟨sub_any b hb⟩ ⟨sub_any 0 (by decide)⟩ ⟨sub_any _ (inv_lt hx)⟩ ⟨Sbx.shares ha hb⟩ w
theorem or_two {x s : Nat} (k : Nat) (hx : x * 2 ^ k < 4294967296) (hk : 2 ^ k ≤ 4294967296) (hs : s < 2 ^ k) : bits .or .u32 ((x * 2 ^ k : Nat) : Int) (s : Int) = ((x * 2 ^ k + s : Nat) : Int) := by
  rw [u32_or_nat _ _ hx (by omega)]
  have h := Nat.two_pow_add_eq_or_of_lt (i := k) hs x
  rw [Nat.mul_comm x]
  exact congrArg _ h.symm
theorem or24 {x y : Nat} (hx : x < 256) (hy : y < 256) : bits .or .u32 ((x : Int) * 16777216) ((y : Int) * 65536) = (x : Int) * 16777216 + (y : Int) * 65536 := by
  have h := or_two (x := x) (s := y * 65536) 24 (by omega) (by decide) (by omega)
  rw [show (x : Int) * 16777216 = ((x * 2 ^ 24 : Nat) : Int) by omega, show (y : Int) * 65536 = ((y * 65536 : Nat) : Int) by omega, h]
  omega
theorem or16 {x y z : Nat} (hx : x < 256) (hy : y < 256) (hz : z < 256) : bits .or .u32 ((x : Int) * 16777216 + (y : Int) * 65536) ((z : Int) * 256) = (x : Int) * 16777216 + (y : Int) * 65536 + (z : Int) * 256 := by
  have h := or_two (x := x * 256 + y) (s := z * 256) 16 (by omega) (by decide) (by omega)
  rw [show (x : Int) * 16777216 + (y : Int) * 65536 = (((x * 256 + y) * 2 ^ 16 : Nat) : Int) by omega, show (z : Int) * 256 = ((z * 256 : Nat) : Int) by omega, h]
  omega
theorem or8 {x y z u : Nat} (hx : x < 256) (hy : y < 256) (hz : z < 256) (hu : u < 256) : bits .or .u32 ((x : Int) * 16777216 + (y : Int) * 65536 + (z : Int) * 256) (u : Int) = (x : Int) * 16777216 + (y : Int) * 65536 + (z : Int) * 256 + (u : Int) := by
  have h := or_two (x := x * 65536 + y * 256 + z) (s := u) 8 (by omega) (by decide) (by omega)
  rw [show (x : Int) * 16777216 + (y : Int) * 65536 + (z : Int) * 256 = (((x * 65536 + y * 256 + z) * 2 ^ 8 : Nat) : Int) by omega, h]
  omega
/-- a word out of four bytes -/
def word4 (a b c d : Nat) : Nat := a * 16777216 + b * 65536 + c * 256 + d
theorem word4_int (a b c d : Nat) : (a : Int) * 16777216 + (b : Int) * 65536 + (c : Int) * 256 + (d : Int) = ((word4 a b c d : Nat) : Int) := by unfold word4; omega
theorem word_of {a b c d : Nat} (ha : a < 256) (hb : b < 256) (hc : c < 256) (hd : d < 256) : word (word4 a b c d) = word4 (sub a) (sub b) (sub c) (sub d) := by
  unfold word word4
  rw [show (a * 16777216 + b * 65536 + c * 256 + d) / 16777216 % 256 = a by omega, show (a * 16777216 + b * 65536 + c * 256 + d) / 65536 % 256 = b by omega, show (a * 16777216 + b * 65536 + c * 256 + d) / 256 % 256 = c by omega, show (a * 16777216 + b * 65536 + c * 256 + d) % 256 = d by omega]
  omega
set_option maxRecDepth 100000 in
set_option maxHeartbeats 1000000 in
theorem sboxWords_walk (a : Nat) (ha : a < 256) (b : Nat) (hb : b < 256) (c : Nat) (hc : c < 256) (d : Nat) (hd : d < 256) (w : World) :
    Calls Try.prog 17 #[.int .u8 (a : Int), .int .u8 (b : Int), .int .u8 (c : Int), .int .u8 (d : Int)] w fun e w' => e = .returned (.bool true) ∧ Below w.heap.size w w' := by
  have hsa := sub_lt ha
  have hsb := sub_lt hb
  have hsc := sub_lt hc
  have hsd := sub_lt hd
  have h1 := or24 ha hb
  have h2 := or16 ha hb hc
  have h3 := or8 ha hb hc hd
  have g1 := or24 hsa hsb
  have g2 := or16 hsa hsb hsc
  have g3 := or8 hsa hsb hsc hsd
  have HW := Box.mk (word_of ha hb hc hd)
  have HL : Box (word4 a b c d < 4294967296) := ⟨by unfold word4; omega⟩
  rw [word4_int] at h3 g3
  go_enter Try.func17, Try.ntmps17
  go_wp2_with fail
  refine (sub_any a ha _).mono ?_
  rintro e w1 ⟨rfl, hb1⟩
  go_wp2_with fail
  refine (sub_any b hb _).mono ?_
  rintro e w2 ⟨rfl, hb2⟩
  have hbel2 := hb1.trans (hb2.mono hb1.size)
  clear hb2 hb1
  go_wp2_with fail
  refine (sub_any c hc _).mono ?_
  rintro e w3 ⟨rfl, hb3⟩
  have hbel3 := hbel2.trans (hb3.mono hbel2.size)
  clear hb3 hbel2
  go_wp2_with fail
  refine (sub_any d hd _).mono ?_
  rintro e w4 ⟨rfl, hb4⟩
  have hbel4 := hbel3.trans (hb4.mono hbel3.size)
  clear hb4 hbel3
  go_wp2_with fail
  refine (sword_any (word4 a b c d) HL.out _).mono ?_
  rw [HW.out]
  rintro e w5 ⟨rfl, hb5⟩
  have hbel5 := hbel4.trans (hb5.mono hbel4.size)
  clear hb5 hbel4
  go_wp2_with fail
  refine (awake5 _).mono ?_
  rintro e w6 ⟨rfl, hb6⟩
  go_wp2_with fail
  go_ret
  exact ⟨rfl, hbel5.trans (hb6.mono hbel5.size)⟩
theorem round_next {n : Int} (h : 1 ≤ n) : roundN (n + 1) = tw (roundN n) := by
  obtain ⟨m, hm⟩ := Int.eq_ofNat_of_zero_le (show 0 ≤ n - 1 by omega)
  have e1 : n = (m : Int) + 1 := by omega
  subst e1
  unfold roundN
  rw [if_neg (by omega), if_neg (by omega), show (m : Int) + 1 + 1 - 1 = ((m + 1 : Nat) : Int) by omega, show (m : Int) + 1 - 1 = ((m : Nat) : Int) by omega]
  unfold powI
  rw [if_neg (by omega), if_neg (by omega), show ((((m + 1 : Nat) : Int)) % 255).toNat = (m + 1) % 255 by omega, show ((((m : Nat) : Int)) % 255).toNat = m % 255 by omega,
    Fld.pw_eq (by decide) (by omega), Fld.pw_eq (by decide) (by omega), Fld.npow_mod (by decide) (by decide), Fld.npow_mod (by decide) (by decide)]
  show mul (npow 2 m) 2 = _
  rw [Fld.mul_comm (Fld.npow_lt (by decide) m) (by decide), Fld.two_mul (Fld.npow_lt (by decide) m)]
theorem round_255 {n : Int} (h : 1 ≤ n) : roundN (n + 255) = roundN n := by
  unfold roundN
  rw [if_neg (by omega), if_neg (by omega)]
  unfold powI
  rw [if_neg (by omega), if_neg (by omega), show n + 255 - 1 = n - 1 + 255 by omega, Int.add_emod_right]
theorem round_neg {n : Int} (h : 1 ≤ n) : roundN (-n) = 0 := by unfold roundN; rw [if_pos (by omega)]
set_option maxRecDepth 100000 in
set_option maxHeartbeats 1000000 in
theorem rounds_out (n : Int) (w : World) (h : n < 1 ∨ (1 ≤ n ∧ 100000 < n)) :
    Calls Try.prog 15 #[.int .i64 n] w fun e w' => e = .returned (.bool true) ∧ Below w.heap.size w w' := by
  rcases h with h | ⟨h1, h2⟩
  all_goals
    go_enter Try.func15, Try.ntmps15
    go_wp2_with fail
    refine (awake5 _).mono ?_
    rintro e w' ⟨rfl, hbel⟩
    go_wp2_with fail
    go_ret
    exact ⟨rfl, hbel⟩
set_option maxRecDepth 100000 in
set_option maxHeartbeats 1000000 in
theorem sboxRounds_walk (n : Int) (_n0 : -9223372036854775808 ≤ n) (_n1 : n ≤ 9223372036854775807) (w : World) :
    Calls Try.prog 15 #[.int .i64 n] w fun e w' => e = .returned (.bool true) ∧ Below w.heap.size w w' := by
  by_cases h : 1 ≤ n ∧ n ≤ 100000
  · obtain ⟨h1, h2⟩ := h
    clear _n0 _n1
    have R1 := Box.mk (round_next h1)
    have R2 := Box.mk (round_255 h1)
    have R3 := Box.mk (round_neg h1)
    go_enter Try.func15, Try.ntmps15
    go_wp2_with fail
    refine (sround_any (n + 1) _ (by omega) (by omega)).mono ?_
    rw [R1.out]
    rintro e w' ⟨rfl, rfl⟩
    go_wp2_with fail
    refine (sround_any n _ (by omega) (by omega)).mono ?_
    rintro e w' ⟨rfl, rfl⟩
    go_wp2_with fail
    refine (twice_any (roundN n) (roundN_lt n) _).mono ?_
    rintro e w' ⟨rfl, rfl⟩
    go_wp2_with fail
    refine (sround_any (n + 255) _ (by omega) (by omega)).mono ?_
    rw [R2.out]
    rintro e w' ⟨rfl, rfl⟩
    go_wp2_with fail
    refine (sround_any n _ (by omega) (by omega)).mono ?_
    rintro e w' ⟨rfl, rfl⟩
    go_wp2_with fail
    refine (sround_any (-n) _ (by omega) (by omega)).mono ?_
    rw [R3.out]
    rintro e w' ⟨rfl, rfl⟩
    go_wp2_with fail
    refine (awake5 _).mono ?_
    rintro e w' ⟨rfl, hbel⟩
    go_wp2_with fail
    go_ret
    exact ⟨rfl, hbel⟩
  · exact rounds_out n w (by omega)
/-- which bytes are another one's, of the first k -/
def seenB (k i : Nat) : Bool := (List.range k).any fun j => sub j == i
theorem seenB_new {k : Nat} (hk : k < 256) : seenB k (sub k) = false := by
  unfold seenB
  rw [List.any_eq_false]
  intro j hj e
  have hj' := List.mem_range.mp hj
  have := Sbx.sub_inj (a := j) (b := k) (by omega) hk (eq_of_beq e)
  omega
theorem seenB_succ (k i : Nat) : seenB (k + 1) i = (seenB k i || (sub k == i)) := by
  unfold seenB
  rw [List.range_succ, List.any_append]; simp
set_option maxRecDepth 100000 in
set_option maxHeartbeats 1000000 in
theorem sboxAll_walk (a : Nat) (ha : a < 256) (w : World) :
    Calls Try.prog 14 #[.int .u8 (a : Int)] w fun e w' => e = .returned (.bool true) ∧ Below w.heap.size w w' := by
  have HA := Box.mk (Sbx.sub_back ha)
  go_enter Try.func14, Try.ntmps14
  go_wp2_with fail
  have hz : Try.zeroCells59.size = 256 := by kernel_rfl
  have hc : ∀ i, i < Try.zeroCells59.size → Try.zeroCells59[i]? = some (.bool (seenB 0 i)) := by
    rw [show Try.zeroCells59 = Array.replicate 256 (.bool false) by kernel_rfl]
    intro i hi
    simp at hi
    simp [hi, seenB]
  have hR := World.rowIs_alloc w Try.zeroCells59 59 (fun i => .bool (seenB 0 i)) hc
  rw [hz] at hR
  have hB := below_alloc1 w (.cells Try.zeroCells59 59)
  have hs : (w.alloc (.cells Try.zeroCells59 59)).heap.size = w.heap.size + 1 := by simp
  clear hc hz
  revert hR hB hs
  generalize w.alloc (.cells Try.zeroCells59 59) = w1
  intro hR hB hs
  go_loopw [4] (fun i wr => ∃ (k : Nat), i = .int .i64 (k : Int) ∧ k ≤ 256 ∧ wr.rowIs w.heap.size 59 256 (fun j => .bool (seenB k j)) ∧ Below w.heap.size w wr ∧ w.heap.size + 1 ≤ wr.heap.size) (fun i _ => 256 - (intOf i).toNat)
  case atStart => exact ⟨0, rfl, by omega, hR, hB, by omega⟩
  case round =>
    obtain ⟨k, rfl, hk, hr, hbel, hsz⟩ := hrel
    clear hR hB hs w1
    by_cases h256 : k = 256
    · subst h256
      go_wp2_with fail
      refine (back_any a ha _).mono ?_
      rintro e w2 ⟨rfl, hb2⟩
      have hbel2 := hbel.trans (hb2.mono hbel.size)
      clear hb2 hbel hr
      go_wp2_with fail
      refine (sub_any (back a) (back_lt ha) _).mono ?_
      rw [HA.out]
      rintro e w3 ⟨rfl, hb3⟩
      have hbel3 := hbel2.trans (hb3.mono hbel2.size)
      clear hb3 hbel2
      go_wp2_with fail
      refine (awake5 _).mono ?_
      rintro e w4 ⟨rfl, hb4⟩
      go_wp2_with fail
      go_ret
      exact ⟨rfl, hbel3.trans (hb4.mono hbel3.size)⟩
    · have hk2 : k < 256 := by omega
      have hsk := sub_lt hk2
      have HN := Box.mk (Sbx.sub_ne hk2)
      have HW := Box.mk (seenB_new hk2)
      have HB := Box.mk (Sbx.back_sub hk2)
      have HC : Box (∀ i, seenB (k + 1) i = (seenB k i || (sub k == i))) := ⟨seenB_succ k⟩
      clear h256
      go_wp2_with fail
      refine (sub_any k hk2 _).mono ?_
      rintro e w2 ⟨rfl, hb2⟩
      have hbel2 := hbel.trans (hb2.mono hbel.size)
      have hr2 := rowIs_below hr hb2 hr.lt
      have hs2 := hb2.size
      have hcell := hr2.cell hsk
      rw [HW.out] at hcell
      have hfree := hr2.frozen (sub k)
      have t1 : (((sub k : Nat) : Int) == ((k : Nat) : Int)) = false := by rw [eq_lit]; simpa using HN.out.1
      have t2 : (((sub k : Nat) : Int) == 255 - ((k : Nat) : Int)) = false := by
        rw [show 255 - ((k : Nat) : Int) = ((255 - k : Nat) : Int) by omega, eq_lit]; simpa using HN.out.2
      clear hr hbel hb2
      go_wp2_with fail
      refine (back_any (sub k) hsk _).mono ?_
      rw [HB.out]
      rintro e w3 ⟨rfl, hb3⟩
      have hbel3 := hbel2.trans (hb3.mono hbel2.size)
      have hr3 := rowIs_below hr2 hb3 hr2.lt
      have hs3 := hb3.size
      have hcell3 := hr3.cell hsk
      rw [HW.out] at hcell3
      have hfree3 := hr3.frozen (sub k)
      clear hr2 hbel2 hb3 hcell hfree
      go_wp2_with fail
      go_roundw
      case rel =>
        refine ⟨k + 1, by go_num, by omega, (hr3.set (sub k) (.bool true)).congr (fun i _ => ?_), hbel3.setCell (Nat.le_refl _) _, by simp [World.setCell]; omega⟩
        rw [HC.out i]
        by_cases e : i = sub k
        · subst e; simp
        · rw [if_neg e]
          have : (sub k == i) = false := by simpa using fun h => e h.symm
          rw [this, Bool.or_false]
      case measure => simp [intOf]; omega
end Go.Proofs.Ytibfihjcjohadaa
/- The walk of the reference's Word: each byte of a word is turned, out of a box in memory; nothing is written. -/
namespace Go.Proofs.Ytibfihjcjohadaa
open Go.RowKit Go.Op
open Sbx (sub sub_lt back back_lt word boxN)
theorem BoxM.to {w : World} {B : Nat} (h : BoxM w B) {i : Nat} (hi : i < 256) : w.cell? ⟨B, i, none⟩ = some (.int .u8 ((sub i : Nat) : Int)) := by
  have h1 := World.rowIs.cell h (show i < 512 by omega)
  rw [h1]; unfold bCell boxN; rw [if_pos hi]
theorem BoxM.from_ {w : World} {B : Nat} (h : BoxM w B) {i : Nat} (hi : i < 256) : w.cell? ⟨B, 256 + i, none⟩ = some (.int .u8 ((back i : Nat) : Int)) := by
  have h1 := World.rowIs.cell h (show 256 + i < 512 by omega)
  rw [h1]; unfold bCell boxN; rw [if_neg (by omega), show 256 + i - 256 = i by omega]
theorem BoxM.drewN {w : World} {B : Nat} (h : BoxM w B) (n : Nat) : BoxM (w.drewN n) B := h
theorem BoxM.below {w w' : World} {B C : Nat} (h : BoxM w B) (hb : Below C w w') (hB : B < C) : BoxM w' B := rowIs_below h hb hB
theorem BoxM.lt {w : World} {B : Nat} (h : BoxM w B) : B < w.heap.size := World.rowIs.lt h
theorem and255 {x : Nat} (hx : x < 4294967296) : bits .and .u32 (x : Int) 255 = ((x % 256 : Nat) : Int) := by
  have h := u32_and_nat x 255 hx (by decide)
  rw [show ((255 : Nat) : Int) = 255 from rfl] at h
  rw [h, show (255 : Nat) = 2 ^ 8 - 1 from rfl, Nat.and_two_pow_sub_one_eq_mod]
theorem bytes_of_word (x : Nat) (hx : x < 4294967296) : ∃ b3 b2 b1 b0 : Nat, b3 < 256 ∧ b2 < 256 ∧ b1 < 256 ∧ b0 < 256 ∧ (x : Int) / 16777216 = (b3 : Int) ∧ bits .and .u32 ((x : Int) / 65536) 255 = (b2 : Int) ∧ bits .and .u32 ((x : Int) / 256) 255 = (b1 : Int) ∧ bits .and .u32 (x : Int) 255 = (b0 : Int) ∧ word x = word4 (sub b3) (sub b2) (sub b1) (sub b0) := by
  refine ⟨x / 16777216, x / 65536 % 256, x / 256 % 256, x % 256, by omega, by omega, by omega, by omega, by omega, ?_, ?_, and255 hx, ?_⟩
  · rw [show (x : Int) / 65536 = ((x / 65536 : Nat) : Int) by omega]; exact and255 (by omega)
  · rw [show (x : Int) / 256 = ((x / 256 : Nat) : Int) by omega]; exact and255 (by omega)
  · unfold word word4
    rw [show x / 16777216 % 256 = x / 16777216 by omega]
    omega
set_option maxRecDepth 100000 in
set_option maxHeartbeats 4000000 in
theorem rword_any (B x : Nat) (hx : x < 4294967296) (w : World) (hB : BoxM w B) :
    Calls Try.prog 55 #[.pointer (some ⟨B, 0, none⟩), .int .u32 (x : Int)] w fun e w' => e = .returned (.int .u32 ((word x : Nat) : Int)) ∧ ∃ n, w' = w.drewN n := by
  obtain ⟨b3, b2, b1, b0, h3, h2, h1, h0, e3, e2, e1, e0, hw⟩ := bytes_of_word x hx
  rw [hw]
  clear hw
  have c3 := hB.to h3
  have c2 := hB.to h2
  have c1 := hB.to h1
  have c0 := hB.to h0
  have s3 := sub_lt h3
  have s2 := sub_lt h2
  have s1 := sub_lt h1
  have s0 := sub_lt h0
  revert c3 c2 c1 c0 s3 s2 s1 s0
  generalize sub b3 = t3
  generalize sub b2 = t2
  generalize sub b1 = t1
  generalize sub b0 = t0
  intro c3 c2 c1 c0 s3 s2 s1 s0
  have o1 := or24 s3 s2
  have o2 := or16 s3 s2 s1
  have o3 := or8 s3 s2 s1 s0
  rw [word4_int] at o3
  go_enter Try.func55, Try.ntmps55
  go_wp2_with fail
  go_quiet (fail)
  go_wp2_with fail
  go_ret
  exact ⟨rfl, _, rfl⟩
end Go.Proofs.Ytibfihjcjohadaa
