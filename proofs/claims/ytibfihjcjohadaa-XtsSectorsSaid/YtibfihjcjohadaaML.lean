/-
  No cipher; contracts by the key alone; Keys. Conditions: a key of 16 or 32 bytes.
-/
import Derived.Test.YtibfihjcjohadaaMD
import Derived.WalkSpells
/- The walks of Encrypt and Decrypt of no cipher: a block stays what it is. -/
namespace Go.Proofs.Ytibfihjcjohadaa
open Go.RowKit Go.Op
set_option maxRecDepth 100000 in
theorem encrypt_nil (f : Nat → Nat) (w : World) :
    Calls Try.prog 61 #[.pointer none, .agg (bv f)] w fun e w' => e = .returned (.agg (bv f)) ∧ Below w.heap.size w w' := by
  have ha0 : Arr ((w.alloc (.cells (bv f) 36)).alloc (.cells #[.int .u8 0, .int .u8 0, .int .u8 0, .int .u8 0, .int .u8 0, .int .u8 0, .int .u8 0, .int .u8 0, .int .u8 0, .int .u8 0, .int .u8 0, .int .u8 0, .int .u8 0, .int .u8 0, .int .u8 0, .int .u8 0] 36)) w.heap.size f := (Arr.new _ _ _ rfl).alloc _
  have hz0 : Arr ((w.alloc (.cells (bv f) 36)).alloc (.cells #[.int .u8 0, .int .u8 0, .int .u8 0, .int .u8 0, .int .u8 0, .int .u8 0, .int .u8 0, .int .u8 0, .int .u8 0, .int .u8 0, .int .u8 0, .int .u8 0, .int .u8 0, .int .u8 0, .int .u8 0, .int .u8 0] 36)) (w.heap.size + 1) (fun _ => 0) := Arr.zero _ _ (by simp)
  have hb0 : Below w.heap.size w ((w.alloc (.cells (bv f) 36)).alloc (.cells #[.int .u8 0, .int .u8 0, .int .u8 0, .int .u8 0, .int .u8 0, .int .u8 0, .int .u8 0, .int .u8 0, .int .u8 0, .int .u8 0, .int .u8 0, .int .u8 0, .int .u8 0, .int .u8 0, .int .u8 0, .int .u8 0] 36)) := ((Below.refl _ _).alloc (Nat.le_refl _) _).alloc (by simp) _
  go_enter Try.func61, Try.ntmps61
  go_wp2_with fail
  revert ha0 hz0 hb0
  generalize (w.alloc (.cells (bv f) 36)).alloc (.cells #[.int .u8 0, .int .u8 0, .int .u8 0, .int .u8 0, .int .u8 0, .int .u8 0, .int .u8 0, .int .u8 0, .int .u8 0, .int .u8 0, .int .u8 0, .int .u8 0, .int .u8 0, .int .u8 0, .int .u8 0, .int .u8 0] 36) = w1
  intro ha0 hz0 hb0
  refine (rounds_nil w1).mono ?_
  rintro e w' ⟨rfl, rfl⟩
  go_wp2_with (first
    | ((with_reducible show wpList _ _ _ (⟨some 13, Op.load 36 (.tmp 3), _, _, _, _⟩ :: _) _ _); refine wp_load_arr rfl (.tmp 3) rfl (w.heap.size) (f) rfl (ha0) ?_)
    | ((with_reducible show wpList _ _ _ (⟨_, Op.store 36 (.tmp 4) (.tmp 13), _, _, _, _⟩ :: _) _ _); refine wp_store_arr rfl (.tmp 4) (.tmp 13) rfl (w.heap.size + 1) (fun _ => 0) (f) rfl rfl (hz0) ?_))
  exact bodyPost_ret (results_arr rfl _ _ (w.heap.size + 1) f rfl hz0.setRow) rfl ⟨rfl, below_setRow hb0 (by omega) _⟩
set_option maxRecDepth 100000 in
theorem decrypt_nil (f : Nat → Nat) (w : World) :
    Calls Try.prog 60 #[.pointer none, .agg (bv f)] w fun e w' => e = .returned (.agg (bv f)) ∧ Below w.heap.size w w' := by
  have ha0 : Arr ((w.alloc (.cells (bv f) 36)).alloc (.cells #[.int .u8 0, .int .u8 0, .int .u8 0, .int .u8 0, .int .u8 0, .int .u8 0, .int .u8 0, .int .u8 0, .int .u8 0, .int .u8 0, .int .u8 0, .int .u8 0, .int .u8 0, .int .u8 0, .int .u8 0, .int .u8 0] 36)) w.heap.size f := (Arr.new _ _ _ rfl).alloc _
  have hz0 : Arr ((w.alloc (.cells (bv f) 36)).alloc (.cells #[.int .u8 0, .int .u8 0, .int .u8 0, .int .u8 0, .int .u8 0, .int .u8 0, .int .u8 0, .int .u8 0, .int .u8 0, .int .u8 0, .int .u8 0, .int .u8 0, .int .u8 0, .int .u8 0, .int .u8 0, .int .u8 0] 36)) (w.heap.size + 1) (fun _ => 0) := Arr.zero _ _ (by simp)
  have hb0 : Below w.heap.size w ((w.alloc (.cells (bv f) 36)).alloc (.cells #[.int .u8 0, .int .u8 0, .int .u8 0, .int .u8 0, .int .u8 0, .int .u8 0, .int .u8 0, .int .u8 0, .int .u8 0, .int .u8 0, .int .u8 0, .int .u8 0, .int .u8 0, .int .u8 0, .int .u8 0, .int .u8 0] 36)) := ((Below.refl _ _).alloc (Nat.le_refl _) _).alloc (by simp) _
  go_enter Try.func60, Try.ntmps60
  go_wp2_with fail
  revert ha0 hz0 hb0
  generalize (w.alloc (.cells (bv f) 36)).alloc (.cells #[.int .u8 0, .int .u8 0, .int .u8 0, .int .u8 0, .int .u8 0, .int .u8 0, .int .u8 0, .int .u8 0, .int .u8 0, .int .u8 0, .int .u8 0, .int .u8 0, .int .u8 0, .int .u8 0, .int .u8 0, .int .u8 0] 36) = w1
  intro ha0 hz0 hb0
  refine (rounds_nil w1).mono ?_
  rintro e w' ⟨rfl, rfl⟩
  go_wp2_with (first
    | ((with_reducible show wpList _ _ _ (⟨some 13, Op.load 36 (.tmp 3), _, _, _, _⟩ :: _) _ _); refine wp_load_arr rfl (.tmp 3) rfl (w.heap.size) (f) rfl (ha0) ?_)
    | ((with_reducible show wpList _ _ _ (⟨_, Op.store 36 (.tmp 4) (.tmp 13), _, _, _, _⟩ :: _) _ _); refine wp_store_arr rfl (.tmp 4) (.tmp 13) rfl (w.heap.size + 1) (fun _ => 0) (f) rfl rfl (hz0) ?_))
  exact bodyPost_ret (results_arr rfl _ _ (w.heap.size + 1) f rfl hz0.setRow) rfl ⟨rfl, below_setRow hb0 (by omega) _⟩
end Go.Proofs.Ytibfihjcjohadaa
/- What the laws use of a cipher: its contracts by the key alone, both ways back. Condition: a key of 16 or 32 bytes. -/
namespace Go.Proofs.Ytibfihjcjohadaa
open Go.RowKit Go.Op
open Aes (words words_len encR encR_lt decR decR_lt addF addF_lt enc dec enc_dec dec_enc encR_congr decR_congr addF_congr)
/-- a block encrypted by a key -/
def encK (l : List Nat) (f : Nat → Nat) : Nat → Nat := encR (fun i => (words l).getD i 0) (l.length / 4 + 6) f (l.length / 4 + 6)
/-- a block decrypted by a key -/
def decK (l : List Nat) (f : Nat → Nat) : Nat → Nat := addF (fun i => (words l).getD i 0) 0 (decR (fun i => (words l).getD i 0) (l.length / 4 + 6) f (l.length / 4 + 6))
theorem encK_lt {l : List Nat} {f : Nat → Nat} (hf : ∀ i, f i < 256) : ∀ i, encK l f i < 256 := encR_lt hf _
theorem decK_lt {l : List Nat} {f : Nat → Nat} (hf : ∀ i, f i < 256) : ∀ i, decK l f i < 256 := addF_lt (decR_lt hf _)
theorem encK_enc (l : List Nat) (f : Nat → Nat) : encK l f = enc (fun i => (words l).getD i 0) (l.length / 4 + 6) f := by unfold encK enc; rw [if_neg (by omega)]
theorem decK_dec (l : List Nat) (f : Nat → Nat) : decK l f = dec (fun i => (words l).getD i 0) (l.length / 4 + 6) f := by unfold decK dec; rw [if_neg (by omega)]
theorem dec_encK {l : List Nat} {f : Nat → Nat} (hf : ∀ i, f i < 256) : bv (decK l (encK l f)) = bv f := bv_congr fun i hi => by rw [decK_dec, encK_enc]; exact dec_enc hf hi
theorem enc_decK {l : List Nat} {f : Nat → Nat} (hf : ∀ i, f i < 256) : bv (encK l (decK l f)) = bv f := bv_congr fun i hi => by rw [decK_dec, encK_enc]; exact enc_dec hf hi
theorem encK_congr {l : List Nat} {f g : Nat → Nat} (h : ∀ i, i < 16 → f i = g i) : bv (encK l f) = bv (encK l g) := bv_congr fun i hi => encR_congr h _ i hi
theorem encK_inj {l : List Nat} {f g : Nat → Nat} (hf : ∀ i, f i < 256) (hg : ∀ i, g i < 256) (h : ∀ i, i < 16 → encK l f i = encK l g i) : ∀ i, i < 16 → f i = g i := by
  rw [encK_enc, encK_enc] at h
  exact Aes.enc_inj hf hg h
/-- a key that may be -/
def MayK (n : Nat) : Prop := n = 16 ∨ n = 32
theorem encrypt_key (C : Nat) (l : List Nat) (f : Nat → Nat) (hk : MayK l.length) (hf : ∀ i, f i < 256) (w : World) (hC : Ciph w C (words l)) :
    Calls Try.prog 61 #[.pointer (some ⟨C, 0, none⟩), .agg (bv f)] w fun e w' => e = .returned (.agg (bv (encK l f))) ∧ Below w.heap.size w w' := by
  have h4 : l.length / 4 + 6 ≤ 100 := by rcases hk with h | h <;> omega
  exact encrypt_walk C (l.length / 4 + 6) (words l) _ rfl f hf w hC (by rw [words_len]) (by omega) h4
theorem decrypt_key (C : Nat) (l : List Nat) (f : Nat → Nat) (hk : MayK l.length) (hf : ∀ i, f i < 256) (w : World) (hC : Ciph w C (words l)) :
    Calls Try.prog 60 #[.pointer (some ⟨C, 0, none⟩), .agg (bv f)] w fun e w' => e = .returned (.agg (bv (decK l f))) ∧ Below w.heap.size w w' := by
  have h4 : l.length / 4 + 6 ≤ 100 := by rcases hk with h | h <;> omega
  exact decrypt_walk C (l.length / 4 + 6) (words l) _ rfl f hf w hC (by rw [words_len]) (by omega) h4
theorem rounds_key (C : Nat) (l : List Nat) (hk : MayK l.length) (w : World) (hC : Ciph w C (words l)) :
    Calls Try.prog 65 #[.pointer (some ⟨C, 0, none⟩)] w fun e w' => e = .returned (.int .i64 ((l.length / 4 + 6 : Nat) : Int)) ∧ w = w' := by
  have h := rounds_any C (words l) w hC (by rw [words_len]; omega) (by rw [words_len]; rcases hk with h | h <;> omega)
  rw [words_len] at h
  rwa [show 4 * (l.length / 4 + 7) / 4 - 1 = l.length / 4 + 6 by omega] at h
end Go.Proofs.Ytibfihjcjohadaa
/- The walks of slices.Clone of words, of Keys of a live cipher, and of MayKey. Condition: words there are, not too many. -/
namespace Go.Proofs.Ytibfihjcjohadaa
open Go.RowKit Go.Op
open Aes (words words_len)
theorem ownW_made (w : World) (base : Nat) (hb : base ≤ w.heap.size) : OwnW (w.alloc (.cells #[] 50)) base (.slice (some ⟨w.heap.size, 0, none⟩) 0 0) [] :=
  ⟨World.ownsRow_made w #[] 0 hb (by unfold maxLen; omega) (by simp), by simp, by simp⟩
/-- a row of words of the call's own, made at or behind base -/
def OwnWQ (ws : List Nat) (w : World) (e : Ending) (w' : World) : Prop := ∃ v, e = .returned v ∧ OwnW w' w.heap.size v ws ∧ Below w.heap.size w w'
set_option maxRecDepth 100000 in
set_option maxHeartbeats 1000000 in
theorem clone_any (ad : Addr) (m c : Nat) (ws : List Nat) (w : World) (hw : Words w (some ad) m ws) (hm : m ≤ 1000) :
    Calls Try.prog 85 #[.slice (some ad) m c] w (OwnWQ ws w) := by
  have hne := fun w => Lib.run_eql_slice_nil (P := Try.prog) w 70 50 (some ad) m c 0 0 Try.underlying70
  have hO : OwnW (w.alloc (.cells #[] 50)) w.heap.size (.slice (some ⟨w.heap.size, 0, none⟩) 0 0) [] := ownW_made w _ (Nat.le_refl _)
  have hW : Words (w.alloc (.cells #[] 50)) (some ad) m ws := hw.alloc _
  go_enter Try.func85, Try.ntmps85
  go_wp2_with ((with_reducible show wpList _ _ _ (⟨some 7, _, _, _, _, _⟩ :: _) _ _); refine wp_appW rfl (.tmp 5) (.tmp 6) rfl w.heap.size (.slice (some ⟨w.heap.size, 0, none⟩) 0 0) [] rfl hO (some ad) m c ws rfl hW (by simp; omega) (by simp) ?_)
  intro v' w' h1 h2 h3
  go_wp2_with fail
  go_ret
  refine ⟨v', rfl, h1, ?_⟩
  exact grown_below ((Below.refl _ _).alloc (Nat.le_refl _) _) h2 (by simp) (fun k hk => by have hk : some w.heap.size = some k := hk; injection hk with hk; omega)
set_option maxRecDepth 100000 in
set_option maxHeartbeats 1000000 in
theorem keys_any (C : Nat) (ws : List Nat) (w : World) (hC : Ciph w C ws) (h0 : 0 < ws.length) (h9 : ws.length ≤ 1000) :
    Calls Try.prog 64 #[.pointer (some ⟨C, 0, none⟩)] w (OwnWQ ws w) := by
  obtain ⟨T, A, c, g1, g2, g3⟩ := hC
  obtain ⟨ad, rfl⟩ := words_some g3 h0
  have hck := g1.keys
  have HC := Box.mk (fun w h => clone_any ad ws.length c ws w h h9)
  have HW := Box.mk g3
  clear g1 g2 g3
  go_enter Try.func64, Try.ntmps64
  go_wp2_with fail
  refine (HC.out _ HW.out).mono ?_
  rintro e w' ⟨v, rfl, h1, h2⟩
  go_wp2_with fail
  go_ret
  exact ⟨v, rfl, h1, h2⟩
set_option maxRecDepth 100000 in
theorem mayKey_any (A : Option Addr) (n c : Nat) (w : World) :
    Calls Try.prog 62 #[.slice A n c] w fun e w' => e = .returned (.bool (decide (n = 16 ∨ n = 32))) ∧ w = w' := by
  by_cases h : n = 16
  · have e : ((n : Int) == 16) = true := by simp; omega
    have d : decide (n = 16 ∨ n = 32) = true := decide_eq_true (.inl h)
    rw [d]
    go_enter Try.func62, Try.ntmps62
    go_wp2_with fail
    go_ret
    exact ⟨rfl, rfl⟩
  · have e : ((n : Int) == 16) = false := by simp; omega
    by_cases h2 : n = 32
    · have e2 : ((n : Int) == 32) = true := by simp; omega
      have d : decide (n = 16 ∨ n = 32) = true := decide_eq_true (.inr h2)
      rw [d]
      go_enter Try.func62, Try.ntmps62
      go_wp2_with fail
      go_ret
      exact ⟨rfl, rfl⟩
    · have e2 : ((n : Int) == 32) = false := by simp; omega
      have d : decide (n = 16 ∨ n = 32) = false := decide_eq_false (by omega)
      rw [d]
      go_enter Try.func62, Try.ntmps62
      go_wp2_with fail
      go_ret
      exact ⟨rfl, rfl⟩
end Go.Proofs.Ytibfihjcjohadaa
