/-
  The walks of the laws on bytes that multiply (chapter 4): each returns true, whatever the input, and writes nothing that was there.
-/
import Derived.Test.YtibfihjcjohadaaFieldW
namespace Go.Proofs.Ytibfihjcjohadaa
open Go.RowKit Go.Op
open Fld (tw mul mulL tw_lt xor_lt mul_lt pw powL npow inv inv_lt)
theorem awake4_c : mul 87 131 = 193 ∧ tw 128 = 27 ∧ inv 0 = 0 ∧ mul 83 (inv 83) = 1 ∧ powI 2 8 = 27 ∧ powI 0 0 = 1 ∧ xsum [5, 6] = 3 := by decide +kernel
set_option maxHeartbeats 400000 in
theorem awake4 (w : World) : Calls Try.prog 34 #[] w fun e w' => e = .returned (.bool true) ∧ Below w.heap.size w w' := by
  go_enter Try.func34, Try.ntmps34
  go_wp2_with fail
  refine (mul_any 87 131 (by decide) (by decide) _).mono ?_
  rw [awake4_c.1]
  rintro e w' ⟨rfl, rfl⟩
  go_wp2_with fail
  refine (twice_any 128 (by decide) _).mono ?_
  rw [awake4_c.2.1]
  rintro e w' ⟨rfl, rfl⟩
  go_wp2_with fail
  refine (inv_any 0 (by decide) _).mono ?_
  rw [awake4_c.2.2.1]
  rintro e w' ⟨rfl, rfl⟩
  go_wp2_with fail
  refine (inv_any 83 (by decide) _).mono ?_
  rintro e w' ⟨rfl, rfl⟩
  go_wp2_with fail
  refine (mul_any 83 (inv 83) (by decide) (inv_lt (by decide)) _).mono ?_
  rw [awake4_c.2.2.2.1]
  rintro e w' ⟨rfl, rfl⟩
  go_wp2_with fail
  refine (power_any 2 8 (by decide) _).mono ?_
  rw [awake4_c.2.2.2.2.1]
  rintro e w' ⟨rfl, rfl⟩
  go_wp2_with fail
  refine (power_any 0 0 (by decide) _).mono ?_
  rw [awake4_c.2.2.2.2.2.1]
  rintro e w' ⟨rfl, rfl⟩
  go_wp2_with fail
  refine (sum_any none 0 0 [] _ (bytes_nil _)).mono ?_
  rintro e w' ⟨rfl, rfl⟩
  go_wp2_with fail
  refine (sum_any _ 2 2 [5, 6] _ (bytes_two _ _ 5 6 5 rfl (by decide) (by decide))).mono ?_
  rw [awake4_c.2.2.2.2.2.2]
  rintro e w' ⟨rfl, rfl⟩
  go_wp2_with fail
  go_ret
  exact ⟨rfl, (Below.refl _ _).alloc (Nat.le_refl _) _⟩

theorem xsum_two (x y : Nat) : xsum [x, y] = x ^^^ y := by simp [xsum]
set_option maxHeartbeats 1000000 in
theorem fieldLaws_walk (a : Nat) (ha : a < 256) (b : Nat) (hb : b < 256) (c : Nat) (hc : c < 256) (w : World) :
    Calls Try.prog 3 #[.int .u8 (a : Int), .int .u8 (b : Int), .int .u8 (c : Int)] w fun e w' => e = .returned (.bool true) ∧ Below w.heap.size w w' := by
  have hab : mul a b < 256 := mul_lt ha
  have hac : mul a c < 256 := mul_lt ha
  have hbc : mul b c < 256 := mul_lt hb
  have hx : b ^^^ c < 256 := xor_lt hb hc
  have hi : inv a < 256 := inv_lt ha
  have hz : ((a : Int) == 0) = false ∨ a = 0 := by
    rcases Nat.eq_zero_or_pos a with h | h
    · exact .inr h
    · exact .inl (by rw [show (0 : Int) = ((0 : Nat) : Int) from rfl, eq_lit]; simp; omega)
  rcases hz with hz | hz
  · have hz' : ((a : Int) != 0) = true := by rw [ne0]; rw [show (0 : Int) = ((0 : Nat) : Int) from rfl, eq_lit] at hz; simpa using hz
    have h0 : a ≠ 0 := by rw [show (0 : Int) = ((0 : Nat) : Int) from rfl, eq_lit] at hz; simpa using hz
    go_enter Try.func3, Try.ntmps3
    go_wp2_with fail
    refine (mul_any a b ha hb _).mono ?_
    rintro e w' ⟨rfl, rfl⟩
    go_wp2_with fail
    refine (mul_any b a hb ha _).mono ?_
    rw [Fld.mul_comm hb ha]
    rintro e w' ⟨rfl, rfl⟩
    go_wp2_with fail
    refine (mul_any a b ha hb _).mono ?_
    rintro e w' ⟨rfl, rfl⟩
    go_wp2_with fail
    refine (mul_any (mul a b) c hab hc _).mono ?_
    rintro e w' ⟨rfl, rfl⟩
    go_wp2_with fail
    refine (mul_any b c hb hc _).mono ?_
    rintro e w' ⟨rfl, rfl⟩
    go_wp2_with fail
    refine (mul_any a (mul b c) ha hbc _).mono ?_
    rw [← Fld.mul_assoc ha hb hc]
    rintro e w' ⟨rfl, rfl⟩
    go_wp2_with fail
    refine (sum_any _ 2 2 [b, c] _ (bytes_two _ _ b c 5 (by simp) hb hc)).mono ?_
    rw [xsum_two]
    rintro e w' ⟨rfl, rfl⟩
    go_wp2_with fail
    refine (mul_any a (b ^^^ c) ha hx _).mono ?_
    rw [Fld.mul_xor_right]
    rintro e w' ⟨rfl, rfl⟩
    go_wp2_with fail
    refine (mul_any a b ha hb _).mono ?_
    rintro e w' ⟨rfl, rfl⟩
    go_wp2_with fail
    refine (mul_any a c ha hc _).mono ?_
    rintro e w' ⟨rfl, rfl⟩
    go_wp2_with fail
    refine (sum_any _ 2 2 [mul a b, mul a c] _ (bytes_two _ _ (mul a b) (mul a c) 5 (by simp) hab hac)).mono ?_
    rw [xsum_two]
    rintro e w' ⟨rfl, rfl⟩
    go_wp2_with fail
    refine (mul_any a 1 ha (by decide) _).mono ?_
    rw [Fld.mul_one]
    rintro e w' ⟨rfl, rfl⟩
    go_wp2_with fail
    refine (mul_any a 0 ha (by decide) _).mono ?_
    rw [Fld.mul_zero]
    rintro e w' ⟨rfl, rfl⟩
    go_wp2_with fail
    refine (sum_any _ 2 2 [a, a] _ (bytes_two _ _ a a 5 (by simp) ha ha)).mono ?_
    rw [xsum_two, Nat.xor_self]
    rintro e w' ⟨rfl, rfl⟩
    go_wp2_with fail
    refine (twice_any a ha _).mono ?_
    rintro e w' ⟨rfl, rfl⟩
    go_wp2_with fail
    refine (mul_any 2 a (by decide) ha _).mono ?_
    rw [Fld.two_mul ha]
    rintro e w' ⟨rfl, rfl⟩
    go_wp2_with fail
    refine (inv_any a ha _).mono ?_
    rintro e w' ⟨rfl, rfl⟩
    go_wp2_with fail
    refine (mul_any a (inv a) ha hi _).mono ?_
    rw [Fld.mul_inv ha h0]
    rintro e w' ⟨rfl, rfl⟩
    go_wp2_with fail
    refine (inv_any a ha _).mono ?_
    rintro e w' ⟨rfl, rfl⟩
    go_wp2_with fail
    refine (inv_any (inv a) hi _).mono ?_
    rw [Fld.inv_inv ha]
    rintro e w' ⟨rfl, rfl⟩
    go_wp2_with fail
    refine (awake4 _).mono ?_
    rintro e w' ⟨rfl, hbel⟩
    go_wp2_with fail
    go_ret
    exact ⟨rfl, below_alloc (below_alloc (below_alloc hbel))⟩
  · subst hz
    go_enter Try.func3, Try.ntmps3
    go_wp2_with fail
    refine (mul_any 0 b ha hb _).mono ?_
    rintro e w' ⟨rfl, rfl⟩
    go_wp2_with fail
    refine (mul_any b 0 hb ha _).mono ?_
    rw [Fld.mul_comm hb ha]
    rintro e w' ⟨rfl, rfl⟩
    go_wp2_with fail
    refine (mul_any 0 b ha hb _).mono ?_
    rintro e w' ⟨rfl, rfl⟩
    go_wp2_with fail
    refine (mul_any (mul 0 b) c hab hc _).mono ?_
    rintro e w' ⟨rfl, rfl⟩
    go_wp2_with fail
    refine (mul_any b c hb hc _).mono ?_
    rintro e w' ⟨rfl, rfl⟩
    go_wp2_with fail
    refine (mul_any 0 (mul b c) ha hbc _).mono ?_
    rw [← Fld.mul_assoc ha hb hc]
    rintro e w' ⟨rfl, rfl⟩
    go_wp2_with fail
    refine (sum_any _ 2 2 [b, c] _ (bytes_two _ _ b c 5 (by simp) hb hc)).mono ?_
    rw [xsum_two]
    rintro e w' ⟨rfl, rfl⟩
    go_wp2_with fail
    refine (mul_any 0 (b ^^^ c) ha hx _).mono ?_
    rw [Fld.mul_xor_right]
    rintro e w' ⟨rfl, rfl⟩
    go_wp2_with fail
    refine (mul_any 0 b ha hb _).mono ?_
    rintro e w' ⟨rfl, rfl⟩
    go_wp2_with fail
    refine (mul_any 0 c ha hc _).mono ?_
    rintro e w' ⟨rfl, rfl⟩
    go_wp2_with fail
    refine (sum_any _ 2 2 [mul 0 b, mul 0 c] _ (bytes_two _ _ (mul 0 b) (mul 0 c) 5 (by simp) hab hac)).mono ?_
    rw [xsum_two]
    rintro e w' ⟨rfl, rfl⟩
    go_wp2_with fail
    refine (mul_any 0 1 ha (by decide) _).mono ?_
    rw [Fld.mul_one]
    rintro e w' ⟨rfl, rfl⟩
    go_wp2_with fail
    refine (mul_any 0 0 ha (by decide) _).mono ?_
    rw [Fld.mul_zero]
    rintro e w' ⟨rfl, rfl⟩
    go_wp2_with fail
    refine (sum_any _ 2 2 [0, 0] _ (bytes_two _ _ 0 0 5 (by simp) ha ha)).mono ?_
    rw [xsum_two, Nat.xor_self]
    rintro e w' ⟨rfl, rfl⟩
    go_wp2_with fail
    refine (twice_any 0 ha _).mono ?_
    rintro e w' ⟨rfl, rfl⟩
    go_wp2_with fail
    refine (mul_any 2 0 (by decide) ha _).mono ?_
    rw [Fld.two_mul ha]
    rintro e w' ⟨rfl, rfl⟩
    go_wp2_with fail
    refine (inv_any 0 ha _).mono ?_
    rw [awake4_c.2.2.1]
    rintro e w' ⟨rfl, rfl⟩
    go_wp2_with fail
    refine (inv_any 0 ha _).mono ?_
    rw [awake4_c.2.2.1]
    rintro e w' ⟨rfl, rfl⟩
    go_wp2_with fail
    refine (inv_any 0 ha _).mono ?_
    rw [awake4_c.2.2.1]
    rintro e w' ⟨rfl, rfl⟩
    go_wp2_with fail
    refine (awake4 _).mono ?_
    rintro e w' ⟨rfl, hbel⟩
    go_wp2_with fail
    go_ret
    exact ⟨rfl, below_alloc (below_alloc (below_alloc hbel))⟩
end Go.Proofs.Ytibfihjcjohadaa
