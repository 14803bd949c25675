/-
  The walks of the laws on the byte box that need no reference: they return true, whatever the input, and write nothing that was there.
-/
import Derived.Test.YtibfihjcjohadaaSbxV
import Derived.Test.YtibfihjcjohadaaBase
namespace Go.Proofs.Ytibfihjcjohadaa
open Go.RowKit Go.Op
open Fld (tw mul tw_lt xor_lt mul_lt pw npow inv inv_lt)
open Sbx (rotl rotl_lt turn turn_lt sub sub_lt back back_lt word word_lt)
set_option maxRecDepth 100000 in
set_option maxHeartbeats 1000000 in
theorem shares_any (a b p q d x y z v : Nat) (hp : p < 256) (hq : q < 256) (hx : x < 256) (hy : y < 256) (hz : z < 256)
    (H1 : Box (∀ w, Calls Try.prog 33 #[.int .u8 (a : Int)] w fun e w' => e = .returned (.int .u8 (p : Int)) ∧ w = w'))
    (H2 : Box (∀ w, Calls Try.prog 33 #[.int .u8 (b : Int)] w fun e w' => e = .returned (.int .u8 (q : Int)) ∧ w = w'))
    (H3 : Box (∀ w, Calls Try.prog 33 #[.int .u8 ((p ^^^ q : Nat) : Int)] w fun e w' => e = .returned (.int .u8 (d : Int)) ∧ w = w'))
    (S1 : Box (∀ w, Calls Try.prog 51 #[.int .u8 (a : Int)] w fun e w' => e = .returned (.int .u8 (x : Int)) ∧ Below w.heap.size w w'))
    (S2 : Box (∀ w, Calls Try.prog 51 #[.int .u8 (b : Int)] w fun e w' => e = .returned (.int .u8 (y : Int)) ∧ Below w.heap.size w w'))
    (S3 : Box (∀ w, Calls Try.prog 51 #[.int .u8 0] w fun e w' => e = .returned (.int .u8 (z : Int)) ∧ Below w.heap.size w w'))
    (S4 : Box (∀ w, Calls Try.prog 51 #[.int .u8 (d : Int)] w fun e w' => e = .returned (.int .u8 (v : Int)) ∧ Below w.heap.size w w'))
    (HS : Box (x ^^^ y ^^^ z = v)) (w : World) :
    Calls Try.prog 16 #[.int .u8 (a : Int), .int .u8 (b : Int)] w fun e w' => e = .returned (.bool true) ∧ Below w.heap.size w w' := by
  go_enter Try.func16, Try.ntmps16
  go_wp2_with fail
  refine (H1.out _).mono ?_
  rintro e w' ⟨rfl, rfl⟩
  go_wp2_with fail
  refine (H2.out _).mono ?_
  rintro e w' ⟨rfl, rfl⟩
  go_wp2_with fail
  refine (sum_any _ 2 2 [p, q] _ (bytes_two _ _ _ _ 5 rfl hp hq)).mono ?_
  rw [show xsum [p, q] = p ^^^ q by simp [xsum]]
  rintro e w' ⟨rfl, rfl⟩
  go_wp2_with fail
  refine (H3.out _).mono ?_
  rintro e w' ⟨rfl, rfl⟩
  go_wp2_with fail
  refine (S1.out _).mono ?_
  rintro e w1 ⟨rfl, hb1⟩
  have hbel1 := below_alloc hb1
  clear hb1
  go_wp2_with fail
  refine (S2.out _).mono ?_
  rintro e w2 ⟨rfl, hb2⟩
  have hbel2 := hbel1.trans (hb2.mono hbel1.size)
  clear hb2 hbel1
  go_wp2_with fail
  refine (S3.out _).mono ?_
  rintro e w3 ⟨rfl, hb3⟩
  have hbel3 := hbel2.trans (hb3.mono hbel2.size)
  clear hb3 hbel2
  go_wp2_with fail
  refine (sum_any _ 3 3 [x, y, z] _ (bytes_three _ _ _ _ _ 5 rfl hx hy hz)).mono ?_
  rw [xsum_three, HS.out]
  rintro e w' ⟨rfl, rfl⟩
  have hbel4 := hbel3.alloc hbel3.size (.cells #[.int .u8 (x : Int), .int .u8 (y : Int), .int .u8 (z : Int)] 5)
  have hsz4 := hbel4.size
  clear hbel3
  go_wp2_with fail
  refine (S4.out _).mono ?_
  rintro e w5 ⟨rfl, hb5⟩
  have hbel5 := hbel4.trans (hb5.mono hbel4.size)
  clear hb5 hbel4 hsz4
  go_wp2_with fail
  refine (awake5 _).mono ?_
  rintro e w6 ⟨rfl, hb6⟩
  go_wp2_with fail
  go_ret
  exact ⟨rfl, hbel5.trans (hb6.mono hbel5.size)⟩
theorem sboxShares_walk (a : Nat) (ha : a < 256) (b : Nat) (hb : b < 256) (w : World) :
    Calls Try.prog 16 #[.int .u8 (a : Int), .int .u8 (b : Int)] w fun e w' => e = .returned (.bool true) ∧ Below w.heap.size w w' := by
  have hx : inv a ^^^ inv b < 256 := xor_lt (inv_lt ha) (inv_lt hb)
  exact shares_any a b (inv a) (inv b) (inv (inv a ^^^ inv b)) (sub a) (sub b) (sub 0) (sub (inv (inv a ^^^ inv b))) (inv_lt ha) (inv_lt hb) (sub_lt ha) (sub_lt hb) (sub_lt (by decide))
    ⟨inv_any a ha⟩ ⟨inv_any b hb⟩ ⟨inv_any _ hx⟩ ⟨sub_any a ha⟩ ⟨sub_any b hb⟩ ⟨sub_any 0 (by decide)⟩ ⟨sub_any _ (inv_lt hx)⟩ ⟨Sbx.shares ha hb⟩ w
theorem or_two {x s : Nat} (k : Nat) (hx : x * 2 ^ k < 4294967296) (hk : 2 ^ k ≤ 4294967296) (hs : s < 2 ^ k) : bits .or .u32 ((x * 2 ^ k : Nat) : Int) (s : Int) = ((x * 2 ^ k + s : Nat) : Int) := by
  rw [u32_or_nat _ _ hx (by omega)]
  have h := Nat.two_pow_add_eq_or_of_lt (i := k) hs x
  rw [Nat.mul_comm x]
  exact congrArg _ h.symm
theorem or24 {x y : Nat} (hx : x < 256) (hy : y < 256) : bits .or .u32 ((x : Int) * 16777216) ((y : Int) * 65536) = (x : Int) * 16777216 + (y : Int) * 65536 := by
  have h := or_two (x := x) (s := y * 65536) 24 (by omega) (by decide) (by omega)
  rw [show (x : Int) * 16777216 = ((x * 2 ^ 24 : Nat) : Int) by omega, show (y : Int) * 65536 = ((y * 65536 : Nat) : Int) by omega, h]
  omega
theorem or16 {x y z : Nat} (hx : x < 256) (hy : y < 256) (hz : z < 256) : bits .or .u32 ((x : Int) * 16777216 + (y : Int) * 65536) ((z : Int) * 256) = (x : Int) * 16777216 + (y : Int) * 65536 + (z : Int) * 256 := by
  have h := or_two (x := x * 256 + y) (s := z * 256) 16 (by omega) (by decide) (by omega)
  rw [show (x : Int) * 16777216 + (y : Int) * 65536 = (((x * 256 + y) * 2 ^ 16 : Nat) : Int) by omega, show (z : Int) * 256 = ((z * 256 : Nat) : Int) by omega, h]
  omega
theorem or8 {x y z u : Nat} (hx : x < 256) (hy : y < 256) (hz : z < 256) (hu : u < 256) : bits .or .u32 ((x : Int) * 16777216 + (y : Int) * 65536 + (z : Int) * 256) (u : Int) = (x : Int) * 16777216 + (y : Int) * 65536 + (z : Int) * 256 + (u : Int) := by
  have h := or_two (x := x * 65536 + y * 256 + z) (s := u) 8 (by omega) (by decide) (by omega)
  rw [show (x : Int) * 16777216 + (y : Int) * 65536 + (z : Int) * 256 = (((x * 65536 + y * 256 + z) * 2 ^ 8 : Nat) : Int) by omega, h]
  omega
/-- a word out of four bytes -/
def word4 (a b c d : Nat) : Nat := a * 16777216 + b * 65536 + c * 256 + d
theorem word4_int (a b c d : Nat) : (a : Int) * 16777216 + (b : Int) * 65536 + (c : Int) * 256 + (d : Int) = ((word4 a b c d : Nat) : Int) := by unfold word4; omega
theorem word_of {a b c d : Nat} (ha : a < 256) (hb : b < 256) (hc : c < 256) (hd : d < 256) : word (word4 a b c d) = word4 (sub a) (sub b) (sub c) (sub d) := by
  unfold word word4
  rw [show (a * 16777216 + b * 65536 + c * 256 + d) / 16777216 % 256 = a by omega, show (a * 16777216 + b * 65536 + c * 256 + d) / 65536 % 256 = b by omega, show (a * 16777216 + b * 65536 + c * 256 + d) / 256 % 256 = c by omega, show (a * 16777216 + b * 65536 + c * 256 + d) % 256 = d by omega]
  omega
set_option maxRecDepth 100000 in
set_option maxHeartbeats 1000000 in
theorem sboxWords_walk (a : Nat) (ha : a < 256) (b : Nat) (hb : b < 256) (c : Nat) (hc : c < 256) (d : Nat) (hd : d < 256) (w : World) :
    Calls Try.prog 17 #[.int .u8 (a : Int), .int .u8 (b : Int), .int .u8 (c : Int), .int .u8 (d : Int)] w fun e w' => e = .returned (.bool true) ∧ Below w.heap.size w w' := by
  have hsa := sub_lt ha
  have hsb := sub_lt hb
  have hsc := sub_lt hc
  have hsd := sub_lt hd
  have h1 := or24 ha hb
  have h2 := or16 ha hb hc
  have h3 := or8 ha hb hc hd
  have g1 := or24 hsa hsb
  have g2 := or16 hsa hsb hsc
  have g3 := or8 hsa hsb hsc hsd
  have HW := Box.mk (word_of ha hb hc hd)
  have HL : Box (word4 a b c d < 4294967296) := ⟨by unfold word4; omega⟩
  rw [word4_int] at h3 g3
  go_enter Try.func17, Try.ntmps17
  go_wp2_with fail
  refine (sub_any a ha _).mono ?_
  rintro e w1 ⟨rfl, hb1⟩
  go_wp2_with fail
  refine (sub_any b hb _).mono ?_
  rintro e w2 ⟨rfl, hb2⟩
  have hbel2 := hb1.trans (hb2.mono hb1.size)
  clear hb2 hb1
  go_wp2_with fail
  refine (sub_any c hc _).mono ?_
  rintro e w3 ⟨rfl, hb3⟩
  have hbel3 := hbel2.trans (hb3.mono hbel2.size)
  clear hb3 hbel2
  go_wp2_with fail
  refine (sub_any d hd _).mono ?_
  rintro e w4 ⟨rfl, hb4⟩
  have hbel4 := hbel3.trans (hb4.mono hbel3.size)
  clear hb4 hbel3
  go_wp2_with fail
  refine (sword_any (word4 a b c d) HL.out _).mono ?_
  rw [HW.out]
  rintro e w5 ⟨rfl, hb5⟩
  have hbel5 := hbel4.trans (hb5.mono hbel4.size)
  clear hb5 hbel4
  go_wp2_with fail
  refine (awake5 _).mono ?_
  rintro e w6 ⟨rfl, hb6⟩
  go_wp2_with fail
  go_ret
  exact ⟨rfl, hbel5.trans (hb6.mono hbel5.size)⟩
theorem round_next {n : Int} (h : 1 ≤ n) : roundN (n + 1) = tw (roundN n) := by
  obtain ⟨m, hm⟩ := Int.eq_ofNat_of_zero_le (show 0 ≤ n - 1 by omega)
  have e1 : n = (m : Int) + 1 := by omega
  subst e1
  unfold roundN
  rw [if_neg (by omega), if_neg (by omega), show (m : Int) + 1 + 1 - 1 = ((m + 1 : Nat) : Int) by omega, show (m : Int) + 1 - 1 = ((m : Nat) : Int) by omega]
  unfold powI
  rw [if_neg (by omega), if_neg (by omega), show ((((m + 1 : Nat) : Int)) % 255).toNat = (m + 1) % 255 by omega, show ((((m : Nat) : Int)) % 255).toNat = m % 255 by omega,
    Fld.pw_eq (by decide) (by omega), Fld.pw_eq (by decide) (by omega), Fld.npow_mod (by decide) (by decide), Fld.npow_mod (by decide) (by decide)]
  show mul (npow 2 m) 2 = _
  rw [Fld.mul_comm (Fld.npow_lt (by decide) m) (by decide), Fld.two_mul (Fld.npow_lt (by decide) m)]
theorem round_255 {n : Int} (h : 1 ≤ n) : roundN (n + 255) = roundN n := by
  unfold roundN
  rw [if_neg (by omega), if_neg (by omega)]
  unfold powI
  rw [if_neg (by omega), if_neg (by omega), show n + 255 - 1 = n - 1 + 255 by omega, Int.add_emod_right]
theorem round_neg {n : Int} (h : 1 ≤ n) : roundN (-n) = 0 := by unfold roundN; rw [if_pos (by omega)]
set_option maxRecDepth 100000 in
set_option maxHeartbeats 1000000 in
theorem rounds_out (n : Int) (w : World) (h : n < 1 ∨ (1 ≤ n ∧ 100000 < n)) :
    Calls Try.prog 15 #[.int .i64 n] w fun e w' => e = .returned (.bool true) ∧ Below w.heap.size w w' := by
  rcases h with h | ⟨h1, h2⟩
  all_goals
    go_enter Try.func15, Try.ntmps15
    go_wp2_with fail
    refine (awake5 _).mono ?_
    rintro e w' ⟨rfl, hbel⟩
    go_wp2_with fail
    go_ret
    exact ⟨rfl, hbel⟩
set_option maxRecDepth 100000 in
set_option maxHeartbeats 1000000 in
theorem sboxRounds_walk (n : Int) (_n0 : -9223372036854775808 ≤ n) (_n1 : n ≤ 9223372036854775807) (w : World) :
    Calls Try.prog 15 #[.int .i64 n] w fun e w' => e = .returned (.bool true) ∧ Below w.heap.size w w' := by
  by_cases h : 1 ≤ n ∧ n ≤ 100000
  · obtain ⟨h1, h2⟩ := h
    clear _n0 _n1
    have R1 := Box.mk (round_next h1)
    have R2 := Box.mk (round_255 h1)
    have R3 := Box.mk (round_neg h1)
    go_enter Try.func15, Try.ntmps15
    go_wp2_with fail
    refine (sround_any (n + 1) _ (by omega) (by omega)).mono ?_
    rw [R1.out]
    rintro e w' ⟨rfl, rfl⟩
    go_wp2_with fail
    refine (sround_any n _ (by omega) (by omega)).mono ?_
    rintro e w' ⟨rfl, rfl⟩
    go_wp2_with fail
    refine (twice_any (roundN n) (roundN_lt n) _).mono ?_
    rintro e w' ⟨rfl, rfl⟩
    go_wp2_with fail
    refine (sround_any (n + 255) _ (by omega) (by omega)).mono ?_
    rw [R2.out]
    rintro e w' ⟨rfl, rfl⟩
    go_wp2_with fail
    refine (sround_any n _ (by omega) (by omega)).mono ?_
    rintro e w' ⟨rfl, rfl⟩
    go_wp2_with fail
    refine (sround_any (-n) _ (by omega) (by omega)).mono ?_
    rw [R3.out]
    rintro e w' ⟨rfl, rfl⟩
    go_wp2_with fail
    refine (awake5 _).mono ?_
    rintro e w' ⟨rfl, hbel⟩
    go_wp2_with fail
    go_ret
    exact ⟨rfl, hbel⟩
  · exact rounds_out n w (by omega)
/-- which bytes are another one's, of the first k -/
def seenB (k i : Nat) : Bool := (List.range k).any fun j => sub j == i
theorem seenB_new {k : Nat} (hk : k < 256) : seenB k (sub k) = false := by
  unfold seenB
  rw [List.any_eq_false]
  intro j hj e
  have hj' := List.mem_range.mp hj
  have := Sbx.sub_inj (a := j) (b := k) (by omega) hk (eq_of_beq e)
  omega
theorem seenB_succ (k i : Nat) : seenB (k + 1) i = (seenB k i || (sub k == i)) := by
  unfold seenB
  rw [List.range_succ, List.any_append]; simp
set_option maxRecDepth 100000 in
set_option maxHeartbeats 1000000 in
theorem sboxAll_walk (a : Nat) (ha : a < 256) (w : World) :
    Calls Try.prog 14 #[.int .u8 (a : Int)] w fun e w' => e = .returned (.bool true) ∧ Below w.heap.size w w' := by
  have HA := Box.mk (Sbx.sub_back ha)
  go_enter Try.func14, Try.ntmps14
  go_wp2_with fail
  have hz : Try.zeroCells59.size = 256 := by kernel_rfl
  have hc : ∀ i, i < Try.zeroCells59.size → Try.zeroCells59[i]? = some (.bool (seenB 0 i)) := by
    rw [show Try.zeroCells59 = Array.replicate 256 (.bool false) by kernel_rfl]
    intro i hi
    simp at hi
    simp [hi, seenB]
  have hR := World.rowIs_alloc w Try.zeroCells59 59 (fun i => .bool (seenB 0 i)) hc
  rw [hz] at hR
  have hB := below_alloc1 w (.cells Try.zeroCells59 59)
  have hs : (w.alloc (.cells Try.zeroCells59 59)).heap.size = w.heap.size + 1 := by simp
  clear hc hz
  revert hR hB hs
  generalize w.alloc (.cells Try.zeroCells59 59) = w1
  intro hR hB hs
  go_loopw [4] (fun i wr => ∃ (k : Nat), i = .int .i64 (k : Int) ∧ k ≤ 256 ∧ wr.rowIs w.heap.size 59 256 (fun j => .bool (seenB k j)) ∧ Below w.heap.size w wr ∧ w.heap.size + 1 ≤ wr.heap.size) (fun i _ => 256 - (intOf i).toNat)
  case atStart => exact ⟨0, rfl, by omega, hR, hB, by omega⟩
  case round =>
    obtain ⟨k, rfl, hk, hr, hbel, hsz⟩ := hrel
    clear hR hB hs w1
    by_cases h256 : k = 256
    · subst h256
      go_wp2_with fail
      refine (back_any a ha _).mono ?_
      rintro e w2 ⟨rfl, hb2⟩
      have hbel2 := hbel.trans (hb2.mono hbel.size)
      clear hb2 hbel hr
      go_wp2_with fail
      refine (sub_any (back a) (back_lt ha) _).mono ?_
      rw [HA.out]
      rintro e w3 ⟨rfl, hb3⟩
      have hbel3 := hbel2.trans (hb3.mono hbel2.size)
      clear hb3 hbel2
      go_wp2_with fail
      refine (awake5 _).mono ?_
      rintro e w4 ⟨rfl, hb4⟩
      go_wp2_with fail
      go_ret
      exact ⟨rfl, hbel3.trans (hb4.mono hbel3.size)⟩
    · have hk2 : k < 256 := by omega
      have hsk := sub_lt hk2
      have HN := Box.mk (Sbx.sub_ne hk2)
      have HW := Box.mk (seenB_new hk2)
      have HB := Box.mk (Sbx.back_sub hk2)
      have HC : Box (∀ i, seenB (k + 1) i = (seenB k i || (sub k == i))) := ⟨seenB_succ k⟩
      clear h256
      go_wp2_with fail
      refine (sub_any k hk2 _).mono ?_
      rintro e w2 ⟨rfl, hb2⟩
      have hbel2 := hbel.trans (hb2.mono hbel.size)
      have hr2 := rowIs_below hr hb2 hr.lt
      have hs2 := hb2.size
      have hcell := hr2.cell hsk
      rw [HW.out] at hcell
      have hfree := hr2.frozen (sub k)
      have t1 : (((sub k : Nat) : Int) == ((k : Nat) : Int)) = false := by rw [eq_lit]; simpa using HN.out.1
      have t2 : (((sub k : Nat) : Int) == 255 - ((k : Nat) : Int)) = false := by
        rw [show 255 - ((k : Nat) : Int) = ((255 - k : Nat) : Int) by omega, eq_lit]; simpa using HN.out.2
      clear hr hbel hb2
      go_wp2_with fail
      refine (back_any (sub k) hsk _).mono ?_
      rw [HB.out]
      rintro e w3 ⟨rfl, hb3⟩
      have hbel3 := hbel2.trans (hb3.mono hbel2.size)
      have hr3 := rowIs_below hr2 hb3 hr2.lt
      have hs3 := hb3.size
      have hcell3 := hr3.cell hsk
      rw [HW.out] at hcell3
      have hfree3 := hr3.frozen (sub k)
      clear hr2 hbel2 hb3 hcell hfree
      go_wp2_with fail
      go_roundw
      case rel =>
        refine ⟨k + 1, by go_num, by omega, (hr3.set (sub k) (.bool true)).congr (fun i _ => ?_), hbel3.setCell (Nat.le_refl _) _, by simp [World.setCell]; omega⟩
        rw [HC.out i]
        by_cases e : i = sub k
        · subst e; simp
        · rw [if_neg e]
          have : (sub k == i) = false := by simpa using fun h => e h.symm
          rw [this, Bool.or_false]
      case measure => simp [intOf]; omega
end Go.Proofs.Ytibfihjcjohadaa
