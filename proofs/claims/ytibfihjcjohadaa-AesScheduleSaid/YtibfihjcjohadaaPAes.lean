/-
  Plain mathematics: AES: columns mixed and back, rounds' keys, a block both ways, the key's words. No condition beside the bounds.
-/
import Derived.Test.YtibfihjcjohadaaPSbx
namespace Go.Proofs.Ytibfihjcjohadaa.Aes
open Fld Sbx
theorem all16 {p : Nat → Bool} (h : (List.range 16).all p = true) {a : Nat} (ha : a < 16) : p a = true :=
  List.all_eq_true.mp h a (List.mem_range.mpr ha)
/-- where a row's byte comes from -/
def shI (i : Nat) : Nat := (i + 4 * (i % 4)) % 16
def unI (i : Nat) : Nat := (i + 12 * (i % 4)) % 16
theorem shI_lt (i : Nat) : shI i < 16 := Nat.mod_lt _ (by decide)
theorem unI_lt (i : Nat) : unI i < 16 := Nat.mod_lt _ (by decide)
theorem sh_un {i : Nat} (hi : i < 16) : shI (unI i) = i := eq_of_beq (all16 (p := fun i => shI (unI i) == i) (by decide) hi)
theorem un_sh {i : Nat} (hi : i < 16) : unI (shI i) = i := eq_of_beq (all16 (p := fun i => unI (shI i) == i) (by decide) hi)
/-- the columns' factors, both ways -/
def mx (k : Nat) : Nat := [2, 1, 1, 3].getD k 0
def un (k : Nat) : Nat := [14, 9, 13, 11].getD k 0
/-- columns mixed by factors -/
def mixF (m f : Nat → Nat) (j : Nat) : Nat :=
  mul (f (j / 4 * 4)) (m (j % 4)) ^^^ mul (f (j / 4 * 4 + 1)) (m ((j + 3) % 4)) ^^^ mul (f (j / 4 * 4 + 2)) (m ((j + 2) % 4)) ^^^ mul (f (j / 4 * 4 + 3)) (m ((j + 1) % 4))
theorem mixF_lt {m f : Nat → Nat} (hf : ∀ i, f i < 256) (j : Nat) : mixF m f j < 256 :=
  xor_lt (xor_lt (xor_lt (mul_lt (hf _)) (mul_lt (hf _))) (mul_lt (hf _))) (mul_lt (hf _))
theorem mixF_congr {m f g : Nat → Nat} (h : ∀ i, i < 16 → f i = g i) {j : Nat} (hj : j < 16) : mixF m f j = mixF m g j := by
  have hc : j / 4 * 4 + 3 < 16 := by omega
  unfold mixF
  rw [h _ (show j / 4 * 4 < 16 by omega), h _ (show j / 4 * 4 + 1 < 16 by omega), h _ (show j / 4 * 4 + 2 < 16 by omega), h _ hc]
/-- two mixings of one column, by whatever factors -/
def two (m u : Nat → Nat) (q r b : Nat) : Nat :=
  mul (mul b (m ((4 - q) % 4))) (u (r % 4)) ^^^ mul (mul b (m ((5 - q) % 4))) (u ((r + 3) % 4)) ^^^ mul (mul b (m ((6 - q) % 4))) (u ((r + 2) % 4)) ^^^ mul (mul b (m ((7 - q) % 4))) (u ((r + 1) % 4))
theorem mix_mix {m u f : Nat → Nat} (hf : ∀ i, f i < 256) (h : ∀ q, q < 4 → ∀ r, r < 4 → ∀ b, b < 256 → two m u q r b = if q = r then b else 0) {j : Nat} (_ : j < 16) :
    mixF u (mixF m f) j = f j := by
  have e : mixF u (mixF m f) j = two m u 0 (j % 4) (f (j / 4 * 4)) ^^^ two m u 1 (j % 4) (f (j / 4 * 4 + 1)) ^^^ two m u 2 (j % 4) (f (j / 4 * 4 + 2)) ^^^ two m u 3 (j % 4) (f (j / 4 * 4 + 3)) := by
    have d0 : j / 4 * 4 / 4 = j / 4 := by omega
    have d1 : (j / 4 * 4 + 1) / 4 = j / 4 := by omega
    have d2 : (j / 4 * 4 + 2) / 4 = j / 4 := by omega
    have d3 : (j / 4 * 4 + 3) / 4 = j / 4 := by omega
    have r1 : (j % 4 + 3) % 4 = (j + 3) % 4 := by omega
    have r2 : (j % 4 + 2) % 4 = (j + 2) % 4 := by omega
    have r3 : (j % 4 + 1) % 4 = (j + 1) % 4 := by omega
    have r0 : j % 4 % 4 = j % 4 := by omega
    unfold two
    rw [r0, r1, r2, r3]
    generalize hj4 : j / 4 = c at *
    have s00 : (c * 4) % 4 = 0 := by omega
    have s01 : (c * 4 + 1) % 4 = 1 := by omega
    have s02 : (c * 4 + 2) % 4 = 2 := by omega
    have s03 : (c * 4 + 3) % 4 = 3 := by omega
    have s11 : (c * 4 + 1 + 3) % 4 = 0 := by omega
    have s12 : (c * 4 + 2 + 3) % 4 = 1 := by omega
    have s13 : (c * 4 + 3 + 3) % 4 = 2 := by omega
    unfold mixF
    rw [hj4, d0, d1, d2, d3, s00, s01, s02, s03, s11, s12, s13]
    have hb0 := hf (c * 4)
    have hb1 := hf (c * 4 + 1)
    have hb2 := hf (c * 4 + 2)
    have hb3 := hf (c * 4 + 3)
    generalize f (c * 4) = b0 at hb0 ⊢
    generalize f (c * 4 + 1) = b1 at hb1 ⊢
    generalize f (c * 4 + 2) = b2 at hb2 ⊢
    generalize f (c * 4 + 3) = b3 at hb3 ⊢
    have M : ∀ {b : Nat} (k : Nat), b < 256 → mul b (m k) < 256 := fun _ hb => mul_lt hb
    have E : ∀ (k0 k1 k2 k3 v : Nat), mul (mul b0 (m k0) ^^^ mul b1 (m k1) ^^^ mul b2 (m k2) ^^^ mul b3 (m k3)) v = mul (mul b0 (m k0)) v ^^^ mul (mul b1 (m k1)) v ^^^ mul (mul b2 (m k2)) v ^^^ mul (mul b3 (m k3)) v := by
      intro k0 k1 k2 k3 v
      rw [mul_xor_left _ (xor_lt (xor_lt (M _ hb0) (M _ hb1)) (M _ hb2)) (M _ hb3), mul_xor_left _ (xor_lt (M _ hb0) (M _ hb1)) (M _ hb2), mul_xor_left _ (M _ hb0) (M _ hb1)]
    rw [E, E, E, E]
    simp only [show (4 - 0) % 4 = 0 from rfl, show (5 - 0) % 4 = 1 from rfl, show (6 - 0) % 4 = 2 from rfl, show (7 - 0) % 4 = 3 from rfl]
    ac_rfl
  rw [e, h 0 (by decide) _ (Nat.mod_lt _ (by decide)) _ (hf _), h 1 (by decide) _ (Nat.mod_lt _ (by decide)) _ (hf _), h 2 (by decide) _ (Nat.mod_lt _ (by decide)) _ (hf _), h 3 (by decide) _ (Nat.mod_lt _ (by decide)) _ (hf _)]
  have hr : j % 4 = 0 ∨ j % 4 = 1 ∨ j % 4 = 2 ∨ j % 4 = 3 := by omega
  rcases hr with hr | hr | hr | hr <;> rw [hr] <;> simp
  · congr 1; omega
  · congr 1; omega
  · congr 1; omega
  · congr 1; omega
theorem all4 {p : Nat → Bool} (h : (List.range 4).all p = true) {a : Nat} (ha : a < 4) : p a = true :=
  List.all_eq_true.mp h a (List.mem_range.mpr ha)
theorem undo_mix {f : Nat → Nat} (hf : ∀ i, f i < 256) {j : Nat} (hj : j < 16) : mixF un (mixF mx f) j = f j :=
  mix_mix hf (fun _ hq _ hr _ hb => eq_of_beq (all256 (all4 (all4 (p := fun q => (List.range 4).all fun r => (List.range 256).all fun b => two mx un q r b == if q = r then b else 0) (by decide +kernel) hq) hr) hb)) hj
theorem mix_undo {f : Nat → Nat} (hf : ∀ i, f i < 256) {j : Nat} (hj : j < 16) : mixF mx (mixF un f) j = f j :=
  mix_mix hf (fun _ hq _ hr _ hb => eq_of_beq (all256 (all4 (all4 (p := fun q => (List.range 4).all fun r => (List.range 256).all fun b => two un mx q r b == if q = r then b else 0) (by decide +kernel) hq) hr) hb)) hj
/-- bytes for bytes, rows turned -/
def subF (f : Nat → Nat) (i : Nat) : Nat := sub (f (shI i))
def backF (f : Nat → Nat) (i : Nat) : Nat := back (f (unI i))
/-- byte i of what round r adds -/
def keyB (W : Nat → Nat) (r i : Nat) : Nat := W (4 * r + i / 4) / 2 ^ (24 - 8 * (i % 4)) % 256
def addF (W : Nat → Nat) (r : Nat) (f : Nat → Nat) (i : Nat) : Nat := f i ^^^ keyB W r i
theorem keyB_lt (W : Nat → Nat) (r i : Nat) : keyB W r i < 256 := Nat.mod_lt _ (by decide)
theorem addF_lt {W f : Nat → Nat} {r : Nat} (hf : ∀ i, f i < 256) (i : Nat) : addF W r f i < 256 := xor_lt (hf i) (keyB_lt _ _ _)
theorem subF_lt {f : Nat → Nat} (hf : ∀ i, f i < 256) (i : Nat) : subF f i < 256 := sub_lt (hf _)
theorem backF_lt {f : Nat → Nat} (hf : ∀ i, f i < 256) (i : Nat) : backF f i < 256 := back_lt (hf _)
theorem add_add {W f : Nat → Nat} {r : Nat} (i : Nat) : addF W r (addF W r f) i = f i := by unfold addF; rw [Nat.xor_assoc, Nat.xor_self, Nat.xor_zero]
theorem addF_congr {W f g : Nat → Nat} {r : Nat} (h : ∀ i, i < 16 → f i = g i) {i : Nat} (hi : i < 16) : addF W r f i = addF W r g i := by unfold addF; rw [h i hi]
theorem subF_congr {f g : Nat → Nat} (h : ∀ i, i < 16 → f i = g i) (i : Nat) : subF f i = subF g i := by unfold subF; rw [h _ (shI_lt i)]
theorem backF_congr {f g : Nat → Nat} (h : ∀ i, i < 16 → f i = g i) (i : Nat) : backF f i = backF g i := by unfold backF; rw [h _ (unI_lt i)]
theorem back_sub_F {f : Nat → Nat} (hf : ∀ i, f i < 256) {i : Nat} (hi : i < 16) : backF (subF f) i = f i := by unfold backF subF; rw [back_sub (hf _), sh_un hi]
theorem sub_back_F {f : Nat → Nat} (hf : ∀ i, f i < 256) {i : Nat} (hi : i < 16) : subF (backF f) i = f i := by unfold backF subF; rw [sub_back (hf _), un_sh hi]
/-- a round ahead of its key -/
def fwd (n r : Nat) (f : Nat → Nat) : Nat → Nat := if r < n then mixF mx (subF f) else subF f
/-- a round behind its key -/
def bwd (n r : Nat) (f : Nat → Nat) : Nat → Nat := if r < n then backF (mixF un f) else backF f
/-- r rounds forth -/
def encR (W : Nat → Nat) (n : Nat) (f : Nat → Nat) : Nat → Nat → Nat
  | 0 => addF W 0 f
  | r + 1 => addF W (r + 1) (fwd n (r + 1) (encR W n f r))
/-- what a block is encrypted to, of n rounds -/
def enc (W : Nat → Nat) (n : Nat) (f : Nat → Nat) : Nat → Nat := if n = 0 then f else encR W n f n
/-- rounds back, from round n on -/
def decR (W : Nat → Nat) (n : Nat) (f : Nat → Nat) : Nat → Nat → Nat
  | 0 => f
  | k + 1 => bwd n (n - k) (addF W (n - k) (decR W n f k))
def dec (W : Nat → Nat) (n : Nat) (f : Nat → Nat) : Nat → Nat := if n = 0 then f else addF W 0 (decR W n f n)
theorem fwd_lt {n r : Nat} {f : Nat → Nat} (hf : ∀ i, f i < 256) (i : Nat) : fwd n r f i < 256 := by
  unfold fwd; split
  · exact mixF_lt (subF_lt hf) i
  · exact subF_lt hf i
theorem bwd_lt {n r : Nat} {f : Nat → Nat} (hf : ∀ i, f i < 256) (i : Nat) : bwd n r f i < 256 := by
  unfold bwd; split
  · exact backF_lt (mixF_lt hf) i
  · exact backF_lt hf i
theorem encR_lt {W f : Nat → Nat} {n : Nat} (hf : ∀ i, f i < 256) : ∀ r i, encR W n f r i < 256
  | 0, i => addF_lt hf i
  | r + 1, i => addF_lt (fwd_lt (encR_lt hf r)) i
theorem decR_lt {W f : Nat → Nat} {n : Nat} (hf : ∀ i, f i < 256) : ∀ r i, decR W n f r i < 256
  | 0, i => hf i
  | r + 1, i => bwd_lt (addF_lt (decR_lt hf r)) i
theorem enc_lt {W f : Nat → Nat} {n : Nat} (hf : ∀ i, f i < 256) (i : Nat) : enc W n f i < 256 := by
  unfold enc; split
  · exact hf i
  · exact encR_lt hf n i
theorem dec_lt {W f : Nat → Nat} {n : Nat} (hf : ∀ i, f i < 256) (i : Nat) : dec W n f i < 256 := by
  unfold dec; split
  · exact hf i
  · exact addF_lt (decR_lt hf n) i
theorem fwd_congr {n r : Nat} {f g : Nat → Nat} (h : ∀ i, i < 16 → f i = g i) {i : Nat} (hi : i < 16) : fwd n r f i = fwd n r g i := by
  unfold fwd; split
  · exact mixF_congr (fun j _ => subF_congr h j) hi
  · exact subF_congr h i
theorem bwd_congr {n r : Nat} {f g : Nat → Nat} (h : ∀ i, i < 16 → f i = g i) {i : Nat} : bwd n r f i = bwd n r g i := by
  unfold bwd; split
  · exact backF_congr (fun j hj => mixF_congr h hj) i
  · exact backF_congr h i
theorem encR_congr {W f g : Nat → Nat} {n : Nat} (h : ∀ i, i < 16 → f i = g i) : ∀ r i, i < 16 → encR W n f r i = encR W n g r i
  | 0, _, hi => addF_congr h hi
  | r + 1, _, hi => addF_congr (fun _ hj => fwd_congr (encR_congr h r) hj) hi
theorem decR_congr {W f g : Nat → Nat} {n : Nat} (h : ∀ i, i < 16 → f i = g i) : ∀ r i, i < 16 → decR W n f r i = decR W n g r i
  | 0, i, hi => h i hi
  | r + 1, _, _ => bwd_congr (fun _ hj => addF_congr (decR_congr h r) hj)
theorem enc_congr {W f g : Nat → Nat} {n : Nat} (h : ∀ i, i < 16 → f i = g i) {i : Nat} (hi : i < 16) : enc W n f i = enc W n g i := by
  unfold enc; split
  · exact h i hi
  · exact encR_congr h n i hi
theorem dec_congr {W f g : Nat → Nat} {n : Nat} (h : ∀ i, i < 16 → f i = g i) {i : Nat} (hi : i < 16) : dec W n f i = dec W n g i := by
  unfold dec; split
  · exact h i hi
  · exact addF_congr (decR_congr h n) hi
theorem bwd_fwd {n r : Nat} {f : Nat → Nat} (hf : ∀ i, f i < 256) {i : Nat} (hi : i < 16) : bwd n r (fwd n r f) i = f i := by
  unfold bwd fwd
  by_cases h : r < n
  · rw [if_pos h, if_pos h, backF_congr (g := subF f) (fun j hj => undo_mix (subF_lt hf) hj), back_sub_F hf hi]
  · rw [if_neg h, if_neg h, back_sub_F hf hi]
theorem fwd_bwd {n r : Nat} {f : Nat → Nat} (hf : ∀ i, f i < 256) {i : Nat} (hi : i < 16) : fwd n r (bwd n r f) i = f i := by
  unfold bwd fwd
  by_cases h : r < n
  · rw [if_pos h, if_pos h, mixF_congr (g := mixF un f) (fun j hj => sub_back_F (mixF_lt hf) hj) hi, mix_undo hf hi]
  · rw [if_neg h, if_neg h, sub_back_F hf hi]
theorem decR_encR {W f : Nat → Nat} {n : Nat} (hf : ∀ i, f i < 256) : ∀ k, k ≤ n → ∀ i, i < 16 → decR W n (encR W n f n) k i = encR W n f (n - k) i := by
  intro k
  induction k with
  | zero => intro _ i _; rfl
  | succ k ih =>
    intro hk i hi
    obtain ⟨r, hr⟩ : ∃ r, n - k = r + 1 := ⟨n - k - 1, by omega⟩
    have e1 := ih (by omega)
    rw [hr] at e1
    rw [show n - (k + 1) = r by omega]
    show bwd n (n - k) (addF W (n - k) (decR W n (encR W n f n) k)) i = _
    rw [hr, bwd_congr (g := fwd n (r + 1) (encR W n f r)) (fun j hj => ?_), bwd_fwd (encR_lt hf r) hi]
    rw [addF_congr e1 hj]
    exact add_add j
theorem dec_enc {W f : Nat → Nat} {n : Nat} (hf : ∀ i, f i < 256) {i : Nat} (hi : i < 16) : dec W n (enc W n f) i = f i := by
  unfold dec enc
  by_cases h : n = 0
  · rw [if_pos h, if_pos h]
  · rw [if_neg h, if_neg h, addF_congr (g := encR W n f 0) (fun j hj => by rw [decR_encR hf n (Nat.le_refl _) j hj, Nat.sub_self]) hi]
    exact add_add i
theorem encR_decR {W f : Nat → Nat} {n : Nat} (hf : ∀ i, f i < 256) : ∀ r, r ≤ n → ∀ i, i < 16 → encR W n (addF W 0 (decR W n f n)) r i = decR W n f (n - r) i := by
  intro r
  induction r with
  | zero => intro _ i _; exact add_add i
  | succ r ih =>
    intro hr i hi
    have e1 := ih (by omega)
    rw [show n - r = (n - (r + 1)) + 1 by omega] at e1
    show addF W (r + 1) (fwd n (r + 1) (encR W n (addF W 0 (decR W n f n)) r)) i = _
    rw [addF_congr (g := addF W (r + 1) (decR W n f (n - (r + 1)))) (fun j hj => ?_) hi, add_add]
    rw [fwd_congr e1 hj]
    show fwd n (r + 1) (bwd n (n - (n - (r + 1))) (addF W (n - (n - (r + 1))) (decR W n f (n - (r + 1))))) j = _
    rw [show n - (n - (r + 1)) = r + 1 by omega]
    exact fwd_bwd (addF_lt (decR_lt hf _)) hj
theorem enc_dec {W f : Nat → Nat} {n : Nat} (hf : ∀ i, f i < 256) {i : Nat} (hi : i < 16) : enc W n (dec W n f) i = f i := by
  unfold dec enc
  by_cases h : n = 0
  · rw [if_pos h, if_pos h]
  · rw [if_neg h, if_neg h, encR_decR hf n (Nat.le_refl _) i hi, Nat.sub_self]; rfl
theorem enc_inj {W f g : Nat → Nat} {n : Nat} (hf : ∀ i, f i < 256) (hg : ∀ i, g i < 256) (h : ∀ i, i < 16 → enc W n f i = enc W n g i) : ∀ i, i < 16 → f i = g i := fun i hi => by
  rw [← dec_enc (W := W) (n := n) hf hi, dec_congr h hi, dec_enc hg hi]
/-- a word turned a byte up -/
def rot8 (w : Nat) : Nat := w * 256 % 4294967296 + w / 16777216
/-- what a round of the key adds -/
def rcon (i : Nat) : Nat := if i = 0 then 0 else npow 2 (i - 1)
theorem rcon_lt (i : Nat) : rcon i < 256 := by
  unfold rcon; split
  · decide
  · exact npow_lt (by decide) _
/-- what the word ahead becomes, at place i of a key of n words -/
def turnW (n i t : Nat) : Nat := if i % n = 0 then word (rot8 t) ^^^ rcon (i / n) * 16777216 else if 6 < n ∧ i % n = 4 then word t else t
/-- the next word of a schedule -/
def nextW (n : Nat) (l : List Nat) : Nat := l.getD (l.length - n) 0 ^^^ turnW n l.length (l.getD (l.length - 1) 0)
def sched (n : Nat) (l : List Nat) : Nat → List Nat
  | 0 => l
  | k + 1 => sched n l k ++ [nextW n (sched n l k)]
theorem sched_len (n : Nat) (l : List Nat) : ∀ k, (sched n l k).length = l.length + k
  | 0 => rfl
  | k + 1 => by rw [sched, List.length_append, sched_len n l k]; simp; omega
theorem rot8_lt {w : Nat} (hw : w < 4294967296) : rot8 w < 4294967296 := by unfold rot8; omega
theorem xor_lt32 {a b : Nat} (ha : a < 4294967296) (hb : b < 4294967296) : a ^^^ b < 4294967296 := Nat.xor_lt_two_pow (n := 32) ha hb
theorem turnW_lt {n i t : Nat} (ht : t < 4294967296) : turnW n i t < 4294967296 := by
  unfold turnW
  split
  · refine xor_lt32 word_lt ?_
    have := rcon_lt (i / n); omega
  · split
    · exact word_lt
    · exact ht
theorem getD_lt {l : List Nat} (h : ∀ x ∈ l, x < 4294967296) (i : Nat) : l.getD i 0 < 4294967296 := by
  rw [List.getD_eq_getElem?_getD]
  rcases hi : l[i]? with _ | x
  · decide
  · exact h x (List.mem_of_getElem? hi)
theorem sched_lt {n : Nat} {l : List Nat} (h : ∀ x ∈ l, x < 4294967296) : ∀ k, ∀ x ∈ sched n l k, x < 4294967296
  | 0 => h
  | k + 1 => by
    intro x hx
    rw [sched, List.mem_append] at hx
    rcases hx with hx | hx
    · exact sched_lt h k x hx
    · rw [List.mem_singleton] at hx
      rw [hx]
      exact xor_lt32 (getD_lt (sched_lt h k) _) (turnW_lt (getD_lt (sched_lt h k) _))
theorem sched_get (n : Nat) (l : List Nat) (k i : Nat) (hi : i < l.length + k) : (sched n l (k + 1)).getD i 0 = (sched n l k).getD i 0 := by
  rw [sched, List.getD_eq_getElem?_getD, List.getD_eq_getElem?_getD, List.getElem?_append_left (by rw [sched_len]; exact hi)]
theorem sched_keep (n : Nat) (l : List Nat) (k i : Nat) (hi : i < l.length + k) : ∀ d, (sched n l (k + d)).getD i 0 = (sched n l k).getD i 0
  | 0 => rfl
  | d + 1 => by rw [← Nat.add_assoc, sched_get n l (k + d) i (by omega), sched_keep n l k i hi d]
theorem sched_last (n : Nat) (l : List Nat) (k : Nat) : (sched n l (k + 1)).getD (l.length + k) 0 = nextW n (sched n l k) := by
  rw [sched, List.getD_eq_getElem?_getD, List.getElem?_append_right (by rw [sched_len]; omega), sched_len]; simp
/-- each word of a schedule is the one n ahead, and the one ahead of it, turned -/
theorem sched_word {n : Nat} {l : List Nat} (hl : l.length = n) (hn : 0 < n) (K i : Nat) (h1 : n ≤ i) (h2 : i < n + K) :
    (sched n l K).getD i 0 = (sched n l K).getD (i - n) 0 ^^^ turnW n i ((sched n l K).getD (i - 1) 0) := by
  obtain ⟨k, rfl⟩ : ∃ k, i = l.length + k := ⟨i - n, by omega⟩
  obtain ⟨d, rfl⟩ : ∃ d, K = (k + 1) + d := ⟨K - (k + 1), by omega⟩
  rw [sched_keep n l (k + 1) _ (by omega) d, sched_last, sched_keep n l (k + 1) _ (by omega) d, sched_keep n l (k + 1) _ (by omega) d, sched_get n l k _ (by omega), sched_get n l k _ (by omega)]
  unfold nextW
  rw [sched_len, hl]
/-- the words of a key -/
def keyW (l : List Nat) (i : Nat) : Nat := ((l.getD (4 * i) 0 * 256 + l.getD (4 * i + 1) 0) * 256 + l.getD (4 * i + 2) 0) * 256 + l.getD (4 * i + 3) 0
def keyWs (l : List Nat) : List Nat := (List.range (l.length / 4)).map (keyW l)
/-- all words that a key's rounds add -/
def words (l : List Nat) : List Nat := sched (l.length / 4) (keyWs l) (4 * (l.length / 4 + 7) - l.length / 4)
theorem getD8 {l : List Nat} (h : ∀ x ∈ l, x < 256) (i : Nat) : l.getD i 0 < 256 := by
  rw [List.getD_eq_getElem?_getD]
  rcases hi : l[i]? with _ | x
  · decide
  · exact h x (List.mem_of_getElem? hi)
theorem keyW_lt {l : List Nat} (h : ∀ x ∈ l, x < 256) (i : Nat) : keyW l i < 4294967296 := by
  unfold keyW
  have h0 := getD8 h (4 * i)
  have h1 := getD8 h (4 * i + 1)
  have h2 := getD8 h (4 * i + 2)
  have h3 := getD8 h (4 * i + 3)
  omega
theorem keyWs_lt {l : List Nat} (h : ∀ x ∈ l, x < 256) : ∀ x ∈ keyWs l, x < 4294967296 := by
  intro x hx
  obtain ⟨i, _, rfl⟩ := List.mem_map.mp hx
  exact keyW_lt h i
theorem keyWs_len (l : List Nat) : (keyWs l).length = l.length / 4 := by simp [keyWs]
theorem words_len (l : List Nat) : (words l).length = 4 * (l.length / 4 + 7) := by
  unfold words; rw [sched_len, keyWs_len]; omega
theorem words_lt {l : List Nat} (h : ∀ x ∈ l, x < 256) : ∀ x ∈ words l, x < 4294967296 := sched_lt (keyWs_lt h) _
theorem words_head {l : List Nat} {i : Nat} (hi : i < l.length / 4) : (words l).getD i 0 = keyW l i := by
  unfold words
  rw [← Nat.zero_add (4 * (l.length / 4 + 7) - l.length / 4), sched_keep _ _ 0 i (by rw [keyWs_len]; exact hi)]
  show (keyWs l).getD i 0 = _
  rw [List.getD_eq_getElem?_getD, keyWs, List.getElem?_map, List.getElem?_range hi]; rfl
theorem words_next {l : List Nat} (h0 : 0 < l.length / 4) {i : Nat} (h1 : l.length / 4 ≤ i) (h2 : i < 4 * (l.length / 4 + 7)) :
    (words l).getD i 0 = (words l).getD (i - l.length / 4) 0 ^^^ turnW (l.length / 4) i ((words l).getD (i - 1) 0) :=
  sched_word (keyWs_len l) h0 _ i h1 (by omega)
end Go.Proofs.Ytibfihjcjohadaa.Aes
