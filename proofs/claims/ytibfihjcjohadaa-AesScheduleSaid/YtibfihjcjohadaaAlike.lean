/-
  The walk of prioryalike.Round: a number from 0 to ahead of n. Condition: n from 1 to 2^40.
-/
import Derived.Test.YtibfihjcjohadaaOwn
import Derived.WalkSpells
import Derived.WalkLawsBesides
import Derived.Lib.Hide
namespace Go.Proofs.Ytibfihjcjohadaa
open Go.RowKit Go.Op
theorem tmod_bd (k n : Int) (hn : 0 < n) : -n < k.tmod n ∧ k.tmod n < n := by
  have h1 := Int.tmod_lt_of_pos k hn
  have h2 := Int.lt_tmod_of_pos k hn
  exact ⟨h2, h1⟩
theorem round_eq (k n : Int) (hn : 0 < n) : (k.tmod n + n).tmod n = k % n := by
  have h := tmod_bd k n hn
  rw [Int.tmod_eq_emod_of_nonneg (by omega), Int.add_emod_right]
  rw [Int.tmod_eq_emod]
  split
  · simp
  · rw [show (n.natAbs : Int) = n by omega, Int.sub_emod_right]; simp
set_option maxRecDepth 100000 in
set_option maxHeartbeats 400000 in
theorem round_any (k n : Int) (hn0 : 0 < n) (hn1 : n ≤ 1099511627776) (w : World) :
    Calls Try.prog 36 #[.int .i64 k, .int .i64 n] w fun e w' => e = .returned (.int .i64 (k % n)) ∧ w = w' := by
  have hb := tmod_bd k n hn0
  have e1 : IntKind.i64.wrap (k.tmod n) = k.tmod n := IntWalk.i64_in _ (by omega)
  have e2 : IntKind.i64.wrap (k.tmod n + n) = k.tmod n + n := IntWalk.i64_in _ (by omega)
  have e4 := round_eq k n hn0
  have hm := Int.emod_nonneg k (show n ≠ 0 by omega)
  have hm2 := Int.emod_lt_of_pos k hn0
  have e5 : IntKind.i64.wrap (k % n) = k % n := IntWalk.i64_in _ (by omega)
  have hne : (n == 0) = false := by simp; omega
  go_enter Try.func36, Try.ntmps36
  go_wp2
  go_ret
  exact ⟨rfl, rfl⟩
end Go.Proofs.Ytibfihjcjohadaa
