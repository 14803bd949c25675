/-
  The walks of aes.New of whatever key, of Rounds and Keys: what each call answers; nothing that was there is written.
-/
import Derived.Test.YtibfihjcjohadaaAesM
namespace Go.Proofs.Ytibfihjcjohadaa
open Go.RowKit Go.Op
open Aes (words words_len)
theorem new_any (A : Option Addr) (n cap : Nat) (l : List Nat) (w : World) (hl : Bytes w A n l) (hcap : n ≤ cap) (hn : n = 16 ∨ n = 32) :
    Calls Try.prog 59 #[.slice A n cap] w fun e w' => NewQ l w e w' := by
  rcases hn with rfl | rfl
  · exact new16 A cap l w hl hcap
  · exact new32 A cap l w hl hcap
set_option maxRecDepth 100000 in
set_option maxHeartbeats 400000 in
theorem new_no (A : Option Addr) (n cap : Nat) (w : World) (h1 : ((n : Int) != 16) = true) (h2 : ((n : Int) != 32) = true) :
    Calls Try.prog 59 #[.slice A n cap] w fun e w' => e = .returned (.tuple #[.pointer none, .int .i64 1]) ∧ w = w' := by
  go_enter Try.func59, Try.ntmps59
  go_wp2_with fail
  go_ret2
  exact ⟨rfl, rfl⟩
/-- how many rounds words are for -/
def roundsN (n : Nat) : Nat := if n = 0 then 0 else n / 4 - 1
set_option maxRecDepth 100000 in
set_option maxHeartbeats 400000 in
theorem rounds_any (C : Nat) (ws : List Nat) (w : World) (hC : Ciph w C ws) (h4 : 4 ≤ ws.length) (h9 : ws.length ≤ 1000) :
    Calls Try.prog 65 #[.pointer (some ⟨C, 0, none⟩)] w fun e w' => e = .returned (.int .i64 ((ws.length / 4 - 1 : Nat) : Int)) ∧ w = w' := by
  obtain ⟨T, A, c, h1, h2, h3⟩ := hC
  have hk := h1.keys
  revert hk h4 h9
  generalize ws.length = n
  intro hk h4 h9
  have hne : ((n : Int) == 0) = false := by simp; omega
  go_enter Try.func65, Try.ntmps65
  go_wp2_with fail
  go_ret
  refine ⟨ret_int ?_, rfl⟩
  omega
set_option maxRecDepth 100000 in
set_option maxHeartbeats 400000 in
theorem rounds_nil (w : World) : Calls Try.prog 65 #[.pointer none] w fun e w' => e = .returned (.int .i64 0) ∧ w = w' := by
  go_enter Try.func65, Try.ntmps65
  go_wp2_with fail
  go_ret
  exact ⟨rfl, rfl⟩
end Go.Proofs.Ytibfihjcjohadaa
