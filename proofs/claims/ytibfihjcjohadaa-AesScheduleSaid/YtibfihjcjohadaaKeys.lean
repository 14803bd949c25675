/-
  The walks of slices.Clone of words, of Keys of a live cipher, and of MayKey. Condition: words there are, not too many.
-/
import Derived.Test.YtibfihjcjohadaaAesL
import Derived.WalkSpells
namespace Go.Proofs.Ytibfihjcjohadaa
open Go.RowKit Go.Op
open Aes (words words_len)
theorem ownW_made (w : World) (base : Nat) (hb : base ≤ w.heap.size) : OwnW (w.alloc (.cells #[] 50)) base (.slice (some ⟨w.heap.size, 0, none⟩) 0 0) [] :=
  ⟨World.ownsRow_made w #[] 0 hb (by unfold maxLen; omega) (by simp), by simp, by simp⟩
/-- a row of words of the call's own, made at or behind base -/
def OwnWQ (ws : List Nat) (w : World) (e : Ending) (w' : World) : Prop := ∃ v, e = .returned v ∧ OwnW w' w.heap.size v ws ∧ Below w.heap.size w w'
set_option maxRecDepth 100000 in
set_option maxHeartbeats 1000000 in
theorem clone_any (ad : Addr) (m c : Nat) (ws : List Nat) (w : World) (hw : Words w (some ad) m ws) (hm : m ≤ 1000) :
    Calls Try.prog 85 #[.slice (some ad) m c] w (OwnWQ ws w) := by
  have hne := fun w => Lib.run_eql_slice_nil (P := Try.prog) w 70 50 (some ad) m c 0 0 Try.underlying70
  have hO : OwnW (w.alloc (.cells #[] 50)) w.heap.size (.slice (some ⟨w.heap.size, 0, none⟩) 0 0) [] := ownW_made w _ (Nat.le_refl _)
  have hW : Words (w.alloc (.cells #[] 50)) (some ad) m ws := hw.alloc _
  go_enter Try.func85, Try.ntmps85
  go_wp2_with ((with_reducible show wpList _ _ _ (⟨some 7, _, _, _, _, _⟩ :: _) _ _); refine wp_appW rfl (.tmp 5) (.tmp 6) rfl w.heap.size (.slice (some ⟨w.heap.size, 0, none⟩) 0 0) [] rfl hO (some ad) m c ws rfl hW (by simp; omega) (by simp) ?_)
  intro v' w' h1 h2 h3
  go_wp2_with fail
  go_ret
  refine ⟨v', rfl, h1, ?_⟩
  exact grown_below ((Below.refl _ _).alloc (Nat.le_refl _) _) h2 (by simp) (fun k hk => by have hk : some w.heap.size = some k := hk; injection hk with hk; omega)
set_option maxRecDepth 100000 in
set_option maxHeartbeats 1000000 in
theorem keys_any (C : Nat) (ws : List Nat) (w : World) (hC : Ciph w C ws) (h0 : 0 < ws.length) (h9 : ws.length ≤ 1000) :
    Calls Try.prog 64 #[.pointer (some ⟨C, 0, none⟩)] w (OwnWQ ws w) := by
  obtain ⟨T, A, c, g1, g2, g3⟩ := hC
  obtain ⟨ad, rfl⟩ := words_some g3 h0
  have hck := g1.keys
  have HC := Box.mk (fun w h => clone_any ad ws.length c ws w h h9)
  have HW := Box.mk g3
  clear g1 g2 g3
  go_enter Try.func64, Try.ntmps64
  go_wp2_with fail
  refine (HC.out _ HW.out).mono ?_
  rintro e w' ⟨v, rfl, h1, h2⟩
  go_wp2_with fail
  go_ret
  exact ⟨v, rfl, h1, h2⟩
set_option maxRecDepth 100000 in
theorem mayKey_any (A : Option Addr) (n c : Nat) (w : World) :
    Calls Try.prog 62 #[.slice A n c] w fun e w' => e = .returned (.bool (decide (n = 16 ∨ n = 32))) ∧ w = w' := by
  by_cases h : n = 16
  · have e : ((n : Int) == 16) = true := by simp; omega
    have d : decide (n = 16 ∨ n = 32) = true := decide_eq_true (.inl h)
    rw [d]
    go_enter Try.func62, Try.ntmps62
    go_wp2_with fail
    go_ret
    exact ⟨rfl, rfl⟩
  · have e : ((n : Int) == 16) = false := by simp; omega
    by_cases h2 : n = 32
    · have e2 : ((n : Int) == 32) = true := by simp; omega
      have d : decide (n = 16 ∨ n = 32) = true := decide_eq_true (.inr h2)
      rw [d]
      go_enter Try.func62, Try.ntmps62
      go_wp2_with fail
      go_ret
      exact ⟨rfl, rfl⟩
    · have e2 : ((n : Int) == 32) = false := by simp; omega
      have d : decide (n = 16 ∨ n = 32) = false := decide_eq_false (by omega)
      rw [d]
      go_enter Try.func62, Try.ntmps62
      go_wp2_with fail
      go_ret
      exact ⟨rfl, rfl⟩
end Go.Proofs.Ytibfihjcjohadaa
