/-
  What the laws use of a cipher: its contracts by the key alone, both ways back. Condition: a key of 16 or 32 bytes.
-/
import Derived.Test.YtibfihjcjohadaaAesZ
namespace Go.Proofs.Ytibfihjcjohadaa
open Go.RowKit Go.Op
open Aes (words words_len encR encR_lt decR decR_lt addF addF_lt enc dec enc_dec dec_enc encR_congr decR_congr addF_congr)
/-- a block encrypted by a key -/
def encK (l : List Nat) (f : Nat → Nat) : Nat → Nat := encR (fun i => (words l).getD i 0) (l.length / 4 + 6) f (l.length / 4 + 6)
/-- a block decrypted by a key -/
def decK (l : List Nat) (f : Nat → Nat) : Nat → Nat := addF (fun i => (words l).getD i 0) 0 (decR (fun i => (words l).getD i 0) (l.length / 4 + 6) f (l.length / 4 + 6))
theorem encK_lt {l : List Nat} {f : Nat → Nat} (hf : ∀ i, f i < 256) : ∀ i, encK l f i < 256 := encR_lt hf _
theorem decK_lt {l : List Nat} {f : Nat → Nat} (hf : ∀ i, f i < 256) : ∀ i, decK l f i < 256 := addF_lt (decR_lt hf _)
theorem encK_enc (l : List Nat) (f : Nat → Nat) : encK l f = enc (fun i => (words l).getD i 0) (l.length / 4 + 6) f := by unfold encK enc; rw [if_neg (by omega)]
theorem decK_dec (l : List Nat) (f : Nat → Nat) : decK l f = dec (fun i => (words l).getD i 0) (l.length / 4 + 6) f := by unfold decK dec; rw [if_neg (by omega)]
theorem dec_encK {l : List Nat} {f : Nat → Nat} (hf : ∀ i, f i < 256) : bv (decK l (encK l f)) = bv f := bv_congr fun i hi => by rw [decK_dec, encK_enc]; exact dec_enc hf hi
theorem enc_decK {l : List Nat} {f : Nat → Nat} (hf : ∀ i, f i < 256) : bv (encK l (decK l f)) = bv f := bv_congr fun i hi => by rw [decK_dec, encK_enc]; exact enc_dec hf hi
theorem encK_congr {l : List Nat} {f g : Nat → Nat} (h : ∀ i, i < 16 → f i = g i) : bv (encK l f) = bv (encK l g) := bv_congr fun i hi => encR_congr h _ i hi
theorem encK_inj {l : List Nat} {f g : Nat → Nat} (hf : ∀ i, f i < 256) (hg : ∀ i, g i < 256) (h : ∀ i, i < 16 → encK l f i = encK l g i) : ∀ i, i < 16 → f i = g i := by
  rw [encK_enc, encK_enc] at h
  exact Aes.enc_inj hf hg h
/-- a key that may be -/
def MayK (n : Nat) : Prop := n = 16 ∨ n = 32
theorem encrypt_key (C : Nat) (l : List Nat) (f : Nat → Nat) (hk : MayK l.length) (hf : ∀ i, f i < 256) (w : World) (hC : Ciph w C (words l)) :
    Calls Try.prog 61 #[.pointer (some ⟨C, 0, none⟩), .agg (bv f)] w fun e w' => e = .returned (.agg (bv (encK l f))) ∧ Below w.heap.size w w' := by
  have h4 : l.length / 4 + 6 ≤ 100 := by rcases hk with h | h <;> omega
  exact encrypt_walk C (l.length / 4 + 6) (words l) _ rfl f hf w hC (by rw [words_len]) (by omega) h4
theorem decrypt_key (C : Nat) (l : List Nat) (f : Nat → Nat) (hk : MayK l.length) (hf : ∀ i, f i < 256) (w : World) (hC : Ciph w C (words l)) :
    Calls Try.prog 60 #[.pointer (some ⟨C, 0, none⟩), .agg (bv f)] w fun e w' => e = .returned (.agg (bv (decK l f))) ∧ Below w.heap.size w w' := by
  have h4 : l.length / 4 + 6 ≤ 100 := by rcases hk with h | h <;> omega
  exact decrypt_walk C (l.length / 4 + 6) (words l) _ rfl f hf w hC (by rw [words_len]) (by omega) h4
theorem rounds_key (C : Nat) (l : List Nat) (hk : MayK l.length) (w : World) (hC : Ciph w C (words l)) :
    Calls Try.prog 65 #[.pointer (some ⟨C, 0, none⟩)] w fun e w' => e = .returned (.int .i64 ((l.length / 4 + 6 : Nat) : Int)) ∧ w = w' := by
  have h := rounds_any C (words l) w hC (by rw [words_len]; omega) (by rw [words_len]; rcases hk with h | h <;> omega)
  rw [words_len] at h
  rwa [show 4 * (l.length / 4 + 7) / 4 - 1 = l.length / 4 + 6 by omega] at h
end Go.Proofs.Ytibfihjcjohadaa
