/-
  What sectors are, plainly: a block encrypted as a number, a unit's tweaks, a sector's blocks; how parts of a row of bytes lie. Conditions: bytes, blocks below 2^128.
-/
import Derived.Test.YtibfihjcjohadaaML
import Derived.Test.YtibfihjcjohadaaMT
import Derived.Test.YtibfihjcjohadaaMQ
namespace Go.Proofs.Ytibfihjcjohadaa
open Go.RowKit Go.Op
open Aes (words words_len)
open Twk (byt dbl hlv tm byt_lt dbl_lt tm_lt up down xor_lt128 byt_xor)
/-- a block encrypted by a key, as numbers -/
def encN (l : List Nat) (x : Nat) : Nat := numF (encK l (byt x)) 16
def decN (l : List Nat) (x : Nat) : Nat := numF (decK l (byt x)) 16
theorem encN_lt (l : List Nat) (x : Nat) : encN l x < 2 ^ 128 := numF_lt16 (encK_lt (byt_lt x))
theorem decN_lt (l : List Nat) (x : Nat) : decN l x < 2 ^ 128 := numF_lt16 (decK_lt (byt_lt x))
theorem bv_encN (l : List Nat) (x : Nat) : bv (encK l (byt x)) = bv (byt (encN l x)) := (blk_numF (encK_lt (byt_lt x))).symm
theorem bv_decN (l : List Nat) (x : Nat) : bv (decK l (byt x)) = bv (byt (decN l x)) := (blk_numF (decK_lt (byt_lt x))).symm
theorem decN_encN (l : List Nat) {x : Nat} (hx : x < 2 ^ 128) : decN l (encN l x) = x := by
  refine byt_ext (decN_lt _ _) hx fun i hi => ?_
  have e : bv (byt (decN l (encN l x))) = bv (byt x) := by
    rw [← bv_decN]
    have h : bv (decK l (byt (encN l x))) = bv (decK l (encK l (byt x))) := bv_congr fun i hi => Aes.addF_congr (fun j hj => Aes.decR_congr (fun k hk => bv_inj (bv_encN l x).symm k hk) _ j hj) hi
    rw [h, dec_encK (byt_lt x)]
  exact bv_inj e i hi
theorem encN_inj (l : List Nat) {x y : Nat} (hx : x < 2 ^ 128) (hy : y < 2 ^ 128) (h : encN l x = encN l y) : x = y := by
  rw [← decN_encN l hx, h, decN_encN l hy]
theorem encN_any (C : Nat) (l : List Nat) (x : Nat) (hk : MayK l.length) (w : World) (hC : Ciph w C (words l)) :
    Calls Try.prog 61 #[.pointer (some ⟨C, 0, none⟩), .agg (bv (byt x))] w fun e w' => e = .returned (.agg (bv (byt (encN l x)))) ∧ Below w.heap.size w w' := by
  have h := encrypt_key C l (byt x) hk (byt_lt x) w hC
  rwa [bv_encN] at h
theorem decN_any (C : Nat) (l : List Nat) (x : Nat) (hk : MayK l.length) (w : World) (hC : Ciph w C (words l)) :
    Calls Try.prog 60 #[.pointer (some ⟨C, 0, none⟩), .agg (bv (byt x))] w fun e w' => e = .returned (.agg (bv (byt (decN l x)))) ∧ Below w.heap.size w w' := by
  have h := decrypt_key C l (byt x) hk (byt_lt x) w hC
  rwa [bv_decN] at h
/-- a unit's tweak number i, by the second half of a key -/
def twN (l : List Nat) (u i : Nat) : Nat := up (encN l u) i
theorem up_lt {b : Nat} (h : b < 2 ^ 128) : ∀ n, up b n < 2 ^ 128
  | 0 => h
  | n + 1 => by show dbl (up b n) < _; exact dbl_lt (up_lt h n)
theorem twN_lt (l : List Nat) (u i : Nat) : twN l u i < 2 ^ 128 := up_lt (encN_lt l u) i
/-- the first n tweaks -/
def twL (l : List Nat) (u n : Nat) : List Nat := (List.range n).map (twN l u)
theorem twL_succ (l : List Nat) (u n : Nat) : twL l u (n + 1) = twL l u n ++ [twN l u n] := by unfold twL; rw [List.range_succ, List.map_append]; rfl
theorem twL_len (l : List Nat) (u n : Nat) : (twL l u n).length = n := by simp [twL]
theorem twL_get (l : List Nat) (u : Nat) {n i : Nat} (hi : i < n) : (twL l u n).getD i 0 = twN l u i := by
  rw [List.getD_eq_getElem?_getD, twL, List.getElem?_map, List.getElem?_range hi]; rfl
/-- block number i of data -/
def datF (d : List Nat) (i j : Nat) : Nat := d.getD (16 * i + j) 0
def datN (d : List Nat) (i : Nat) : Nat := numF (datF d i) 16
theorem datF_lt {d : List Nat} (h : ∀ x ∈ d, x < 256) (i j : Nat) : datF d i j < 256 := Aes.getD8 h _
theorem datN_lt {d : List Nat} (h : ∀ x ∈ d, x < 256) (i : Nat) : datN d i < 2 ^ 128 := numF_lt16 (datF_lt h i)
theorem bv_datN {d : List Nat} (h : ∀ x ∈ d, x < 256) (i : Nat) : bv (datF d i) = bv (byt (datN d i)) := (blk_numF (datF_lt h i)).symm
/-- a block of a sector, forth or back -/
def xtB (back : Bool) (k1 k2 : List Nat) (u : Nat) (d : List Nat) (i : Nat) : Nat := (if back then decN k1 (datN d i ^^^ twN k2 u i) else encN k1 (datN d i ^^^ twN k2 u i)) ^^^ twN k2 u i
theorem xtB_lt (back : Bool) (k1 k2 : List Nat) (u : Nat) (d : List Nat) (i : Nat) : xtB back k1 k2 u d i < 2 ^ 128 := by
  unfold xtB
  refine xor_lt128 ?_ (twN_lt _ _ _)
  split
  · exact decN_lt _ _
  · exact encN_lt _ _
/-- the first n blocks of a sector as bytes -/
def xtL (back : Bool) (k1 k2 : List Nat) (u : Nat) (d : List Nat) : Nat → List Nat
  | 0 => []
  | n + 1 => xtL back k1 k2 u d n ++ listB (byt (xtB back k1 k2 u d n))
theorem listB_len (f : Nat → Nat) : (listB f).length = 16 := by simp [listB]
theorem listB_lt {f : Nat → Nat} (hf : ∀ i, f i < 256) : ∀ x ∈ listB f, x < 256 := by
  intro x hx
  obtain ⟨y, _, rfl⟩ := List.mem_map.mp hx
  exact hf y
theorem listB_get {f : Nat → Nat} {j : Nat} (hj : j < 16) : (listB f).getD j 0 = f j := by
  rw [List.getD_eq_getElem?_getD, listB, List.getElem?_map, List.getElem?_range hj]; rfl
theorem xtL_len (back : Bool) (k1 k2 : List Nat) (u : Nat) (d : List Nat) : ∀ n, (xtL back k1 k2 u d n).length = 16 * n
  | 0 => rfl
  | n + 1 => by rw [xtL, List.length_append, xtL_len back k1 k2 u d n, listB_len]; omega
theorem xtL_lt (back : Bool) (k1 k2 : List Nat) (u : Nat) (d : List Nat) : ∀ n, ∀ x ∈ xtL back k1 k2 u d n, x < 256
  | 0 => by simp [xtL]
  | n + 1 => by
    intro x hx
    rw [xtL, List.mem_append] at hx
    rcases hx with hx | hx
    · exact xtL_lt back k1 k2 u d n x hx
    · exact listB_lt (byt_lt _) x hx
theorem xtL_get (back : Bool) (k1 k2 : List Nat) (u : Nat) (d : List Nat) : ∀ n i j, i < n → j < 16 → (xtL back k1 k2 u d n).getD (16 * i + j) 0 = byt (xtB back k1 k2 u d i) j
  | 0, i, _, hi, _ => absurd hi (by omega)
  | n + 1, i, j, hi, hj => by
    rw [xtL, List.getD_eq_getElem?_getD]
    by_cases h : i < n
    · rw [List.getElem?_append_left (by rw [xtL_len]; omega), ← List.getD_eq_getElem?_getD]
      exact xtL_get back k1 k2 u d n i j h hj
    · have e : i = n := by omega
      subst e
      rw [List.getElem?_append_right (by rw [xtL_len]; omega), xtL_len, show 16 * i + j - 16 * i = j by omega, ← List.getD_eq_getElem?_getD]
      exact listB_get hj
/-- parts of a row of bytes -/
theorem Bytes.take {w : World} {A : Option Addr} {n h : Nat} {l : List Nat} (hl : Bytes w A n l) (hh : h ≤ n) : Bytes w A h (l.take h) := by
  obtain ⟨h1, h2, h3, h4⟩ := hl
  refine ⟨by rw [List.length_take]; omega, by omega, fun x hx => h3 x (List.mem_of_mem_take hx), fun h0 => ?_⟩
  obtain ⟨ad, e, hc⟩ := h4 (by omega)
  refine ⟨ad, e, fun j hj => ?_⟩
  rw [hc j (by omega), List.getD_eq_getElem?_getD, List.getD_eq_getElem?_getD, List.getElem?_take, if_pos hj]
theorem Bytes.drop {w : World} {ad : Addr} {n h : Nat} {l : List Nat} (hl : Bytes w (some ad) n l) (hh : h ≤ n) : Bytes w (some (ad.add h)) (n - h) (l.drop h) := by
  obtain ⟨h1, h2, h3, h4⟩ := hl
  refine ⟨by rw [List.length_drop]; omega, by omega, fun x hx => h3 x (List.mem_of_mem_drop hx), fun h0 => ?_⟩
  obtain ⟨ad', e, hc⟩ := h4 (by omega)
  injection e with e
  subst e
  refine ⟨_, rfl, fun j hj => ?_⟩
  rw [add_of_add, hc (h + j) (by omega), List.getD_eq_getElem?_getD, List.getD_eq_getElem?_getD, List.getElem?_drop]
end Go.Proofs.Ytibfihjcjohadaa
