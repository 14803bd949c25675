/-
  The walks of package sbox: RotateLeft8, turned, Sub, Back, Word, Round: what each call answers; nothing that was there is written.
-/
import Derived.Test.YtibfihjcjohadaaFieldW
import Derived.Test.YtibfihjcjohadaaOwn2
import Derived.Test.YtibfihjcjohadaaPSbx
namespace Go.Proofs.Ytibfihjcjohadaa
open Go.RowKit Go.Op
open Fld (tw mul tw_lt xor_lt mul_lt pw npow inv inv_lt)
open Sbx (rotl rotl_lt turn turn_lt sub sub_lt back back_lt word word_lt)
theorem or_cast {x y : Int} {X Y : Nat} (hx : x = (X : Int)) (hy : y = (Y : Int)) (hX : X < 256) (hY : Y < 256) : bits .or .u8 x y = ((X ||| Y : Nat) : Int) := by
  subst hx hy
  exact u8_or_nat X Y hX hY
set_option maxRecDepth 100000 in
set_option maxHeartbeats 400000 in
theorem rotl8_any (b k : Nat) (hb : b < 256) (hk : k ≤ 7) (w : World) :
    Calls Try.prog 79 #[.int .u8 (b : Int), .int .i64 (k : Int)] w fun e w' => e = .returned (.int .u8 ((rotl b k : Nat) : Int)) ∧ w = w' := by
  have h : k = 0 ∨ k = 1 ∨ k = 2 ∨ k = 3 ∨ k = 4 ∨ k = 5 ∨ k = 6 ∨ k = 7 := by omega
  clear hk
  have e0 : bits .and .u64 0 7 = 0 := by decide +kernel
  have e1 : bits .and .u64 1 7 = 1 := by decide +kernel
  have e2 : bits .and .u64 2 7 = 2 := by decide +kernel
  have e3 : bits .and .u64 3 7 = 3 := by decide +kernel
  have e4 : bits .and .u64 4 7 = 4 := by decide +kernel
  have e5 : bits .and .u64 5 7 = 5 := by decide +kernel
  have e6 : bits .and .u64 6 7 = 6 := by decide +kernel
  have e7 : bits .and .u64 7 7 = 7 := by decide +kernel
  rcases h with rfl | rfl | rfl | rfl | rfl | rfl | rfl | rfl
  all_goals
    go_enter Try.func79, Try.ntmps79
    go_wp2_with fail
    go_ret
    refine ⟨ret_int ?_, rfl⟩
    first
      | exact or_cast (X := b * 2 ^ 0 % 256) (Y := b / 2 ^ (8 - 0)) (by omega) (by omega) (by omega) (by omega)
      | exact or_cast (X := b * 2 ^ 1 % 256) (Y := b / 2 ^ (8 - 1)) (by omega) (by omega) (by omega) (by omega)
      | exact or_cast (X := b * 2 ^ 2 % 256) (Y := b / 2 ^ (8 - 2)) (by omega) (by omega) (by omega) (by omega)
      | exact or_cast (X := b * 2 ^ 3 % 256) (Y := b / 2 ^ (8 - 3)) (by omega) (by omega) (by omega) (by omega)
      | exact or_cast (X := b * 2 ^ 4 % 256) (Y := b / 2 ^ (8 - 4)) (by omega) (by omega) (by omega) (by omega)
      | exact or_cast (X := b * 2 ^ 5 % 256) (Y := b / 2 ^ (8 - 5)) (by omega) (by omega) (by omega) (by omega)
      | exact or_cast (X := b * 2 ^ 6 % 256) (Y := b / 2 ^ (8 - 6)) (by omega) (by omega) (by omega) (by omega)
      | exact or_cast (X := b * 2 ^ 7 % 256) (Y := b / 2 ^ (8 - 7)) (by omega) (by omega) (by omega) (by omega)
theorem bytes_three (W : World) (b x y z : Nat) (t : TypeId) (hb : b = W.heap.size) (hx : x < 256) (hy : y < 256) (hz : z < 256) :
    Bytes (W.alloc (.cells #[.int .u8 (x : Int), .int .u8 (y : Int), .int .u8 (z : Int)] t)) (some ⟨b, 0, none⟩) 3 [x, y, z] := by
  subst hb
  refine Bytes.block (l := [x, y, z]) (heap_alloc_new W _) (by unfold maxLen; simp) (by simp [hx, hy, hz]) (fun j hj => ?_)
  match j, hj with
  | 0, _ => rfl
  | 1, _ => rfl
  | 2, _ => rfl
theorem xsum_three (x y z : Nat) : xsum [x, y, z] = x ^^^ y ^^^ z := by simp [xsum]
/-- the places that a byte is turned by -/
def Ints5 (w : World) (g : Nat) : Prop := w.heap[g]? = some (.cells #[.int .i64 0, .int .i64 1, .int .i64 2, .int .i64 3, .int .i64 4] 3 (0, 0))
theorem Ints5.cell {w : World} {g k : Nat} (h : Ints5 w g) (hk : k < 5) : w.cell? ⟨g, k, none⟩ = some (.int .i64 (k : Int)) := by
  rw [cell_of_row w g k _ 3 (0, 0) h]
  have h : k = 0 ∨ k = 1 ∨ k = 2 ∨ k = 3 ∨ k = 4 := by omega
  rcases h with rfl | rfl | rfl | rfl | rfl <;> rfl
theorem Ints5.lt {w : World} {g : Nat} (h : Ints5 w g) : g < w.heap.size := by
  rcases Nat.lt_or_ge g w.heap.size with hlt | hge
  · exact hlt
  · unfold Ints5 at h; rw [Array.getElem?_eq_none hge] at h; cases h
theorem Ints5.alloc {w : World} {g : Nat} (h : Ints5 w g) (o : Obj) : Ints5 (w.alloc o) g := (Below.heap_alloc w o g h.lt).trans h
theorem Ints5.grown {w w' : World} {g : Nat} {row : Option Nat} (h : Ints5 w g) (hg : w.grownBy w' row) (hne : some g ≠ row) : Ints5 w' g := (hg.block g h.lt hne).trans h
def turnL (b k : Nat) : List Nat := 99 :: (List.range k).map (rotl b)
theorem turnL_succ (b k : Nat) : turnL b (k + 1) = turnL b k ++ [rotl b k] := by
  unfold turnL; rw [List.range_succ, List.map_append]; rfl
theorem turnL_sum (b : Nat) : xsum (turnL b 5) = turn b := by
  unfold turn
  show xsum [99, rotl b 0, rotl b 1, rotl b 2, rotl b 3, rotl b 4] = _
  simp [xsum]
theorem turnL_len (b k : Nat) : (turnL b k).length = k + 1 := by simp [turnL]
set_option maxRecDepth 100000 in
set_option maxHeartbeats 1000000 in
theorem turned_any (b : Nat) (hb : b < 256) (w : World) :
    Calls Try.prog 77 #[.int .u8 (b : Int)] w fun e w' => e = .returned (.int .u8 ((turn b : Nat) : Int)) ∧ Below w.heap.size w w' := by
  go_enter Try.func77, Try.ntmps77
  go_wp2_with fail
  go_loopw [3, 9] (fun l i wr => ∃ (k : Nat), i = .int .i64 (k : Int) ∧ k ≤ 5 ∧ Own wr w.heap.size l (turnL b k) ∧ l.ownBlock ≠ some (w.heap.size + 1) ∧ Ints5 wr (w.heap.size + 1) ∧ Below w.heap.size w wr) (fun _ i _ => 5 - (intOf i).toNat)
  case atStart =>
    refine ⟨0, rfl, by omega, (ownA_one w _ _ 99 rfl (Nat.le_refl _) (by decide)).alloc _, by simp [Value.ownBlock], ?_, ((Below.refl _ _).alloc (Nat.le_refl _) _).alloc (by simp) _⟩
    have h := heap_alloc_new (w.alloc (.cells #[.int .u8 99] 5)) (.cells #[.int .i64 0, .int .i64 1, .int .i64 2, .int .i64 3, .int .i64 4] 3)
    rw [show (w.alloc (.cells #[.int .u8 99] 5)).heap.size = w.heap.size + 1 by simp] at h
    exact h
  case round =>
    obtain ⟨k, rfl, hk, ho, hne, hi, hbel⟩ := hrel
    have hsz := hbel.size
    by_cases h5 : k = 5
    · subst h5
      obtain ⟨A, c, rfl⟩ := ho.form
      have hr := ho.rd
      rw [turnL_len] at hr ⊢
      have HS := Lib.hid (turnL_sum b)
      clear ho
      go_wp2_with fail
      refine (sum_any A _ c (turnL b 5) _ hr).mono ?_
      rw [HS.out]
      rintro e w' ⟨rfl, rfl⟩
      go_wp2_with fail
      go_ret
      exact ⟨rfl, hbel⟩
    · have hlt : k < 5 := by omega
      have hcell := hi.cell hlt
      have hrl := rotl_lt (k := k) hb
      have HT := Lib.hid (turnL_succ b k)
      clear h5
      go_wp2_with fail
      refine (rotl8_any b k hb (by omega) _).mono ?_
      rintro e w' ⟨rfl, rfl⟩
      go_wp2_with (first
        | ((with_reducible show wpList _ _ _ (⟨some 18, Op.call _, _, _, _, _⟩ :: _) _ _); refine wp_appA rfl (.tmp 13) (.tmp 17) rfl w.heap.size u3 (turnL b k) rfl (ho.alloc _) (some ⟨wr.heap.size, 0, none⟩) 1 1 [rotl b k] rfl (bytes_one _ _ _ _ rfl hrl) (by rw [turnL_len]; omega) (by simp; omega) ?_; intro v' w1 h1 h2 h3))
      rw [← HT.out] at h1
      have hne' : v'.ownBlock ≠ some (w.heap.size + 1) := by
        rcases h3 with h3 | h3
        · rw [h3]; exact hne
        · rw [h3]; intro e; injection e with e; have := hi.lt; simp at e; omega
      have hi' : Ints5 w1 (w.heap.size + 1) := (hi.alloc _).grown h2 hne.symm
      have hb' : Below w.heap.size w w1 := grown_below (hbel.alloc hsz _) h2 (by simp; omega) (fun k hk => (ho.ge k hk).1)
      clear h2 h3 ho hne hi hbel hcell HT
      go_wp2_with fail
      go_roundw
      case rel => exact ⟨k + 1, by go_num, by omega, h1, hne', hi', hb'⟩
      case measure => simp [intOf]; omega
set_option maxHeartbeats 400000 in
theorem sub_any (a : Nat) (ha : a < 256) (w : World) :
    Calls Try.prog 51 #[.int .u8 (a : Int)] w fun e w' => e = .returned (.int .u8 ((sub a : Nat) : Int)) ∧ Below w.heap.size w w' := by
  go_enter Try.func51, Try.ntmps51
  go_wp2_with fail
  refine (inv_any a ha _).mono ?_
  rintro e w' ⟨rfl, rfl⟩
  go_wp2_with fail
  refine (turned_any (inv a) (inv_lt ha) _).mono ?_
  rintro e w' ⟨rfl, hb⟩
  go_wp2_with fail
  go_ret
  exact ⟨rfl, hb⟩
set_option maxHeartbeats 400000 in
theorem back_any (a : Nat) (ha : a < 256) (w : World) :
    Calls Try.prog 53 #[.int .u8 (a : Int)] w fun e w' => e = .returned (.int .u8 ((back a : Nat) : Int)) ∧ Below w.heap.size w w' := by
  have hx := u8_xor_nat a 99 ha (by decide)
  rw [show ((99 : Nat) : Int) = 99 from rfl] at hx
  have hc : a ^^^ 99 < 256 := xor_lt ha (by decide)
  have HB : Hid (back a = inv (rotl (a ^^^ 99) 1 ^^^ rotl (a ^^^ 99) 3 ^^^ rotl (a ^^^ 99) 6)) := rfl
  have h1 := rotl_lt (k := 1) hc
  have h3 := rotl_lt (k := 3) hc
  have h6 := rotl_lt (k := 6) hc
  go_enter Try.func53, Try.ntmps53
  go_wp2_with fail
  refine (rotl8_any (a ^^^ 99) 1 hc (by omega) _).mono ?_
  rintro e w' ⟨rfl, rfl⟩
  go_wp2_with fail
  refine (rotl8_any (a ^^^ 99) 3 hc (by omega) _).mono ?_
  rintro e w' ⟨rfl, rfl⟩
  go_wp2_with fail
  refine (rotl8_any (a ^^^ 99) 6 hc (by omega) _).mono ?_
  rintro e w' ⟨rfl, rfl⟩
  go_wp2_with fail
  refine (sum_any _ 3 3 [rotl (a ^^^ 99) 1, rotl (a ^^^ 99) 3, rotl (a ^^^ 99) 6] _ (bytes_three _ _ _ _ _ 5 rfl h1 h3 h6)).mono ?_
  rw [xsum_three]
  rintro e w' ⟨rfl, rfl⟩
  go_wp2_with fail
  refine (inv_any _ (xor_lt (xor_lt h1 h3) h6) _).mono ?_
  rw [← HB.out]
  rintro e w' ⟨rfl, rfl⟩
  go_wp2_with fail
  go_ret
  exact ⟨rfl, (Below.refl _ _).alloc (Nat.le_refl _) _⟩
/-- what a round of the key adds, of whatever number -/
def roundN (n : Int) : Nat := if n < 1 then 0 else powI 2 (n - 1)
theorem roundN_lt (n : Int) : roundN n < 256 := by
  unfold roundN; split
  · decide
  · exact powI_lt (by decide) _
set_option maxHeartbeats 400000 in
theorem sround_any (n : Int) (w : World) (hn : -9223372036854775808 ≤ n) (hn2 : n ≤ 9223372036854775807) :
    Calls Try.prog 56 #[.int .i64 n] w fun e w' => e = .returned (.int .u8 ((roundN n : Nat) : Int)) ∧ w = w' := by
  by_cases h : n < 1
  · have e : roundN n = 0 := by unfold roundN; rw [if_pos h]
    rw [e]
    clear e
    go_enter Try.func56, Try.ntmps56
    go_wp2_with fail
    go_ret
    exact ⟨rfl, rfl⟩
  · have e : powI 2 (n - 1) = roundN n := by unfold roundN; rw [if_neg h]
    have E := Lib.hid e
    clear e
    have h' : 1 ≤ n := by omega
    go_enter Try.func56, Try.ntmps56
    go_wp2_with fail
    refine (power_any 2 (n - 1) (by decide) _).mono ?_
    rw [E.out]
    rintro e w' ⟨rfl, rfl⟩
    go_wp2_with fail
    go_ret
    exact ⟨rfl, rfl⟩
end Go.Proofs.Ytibfihjcjohadaa
