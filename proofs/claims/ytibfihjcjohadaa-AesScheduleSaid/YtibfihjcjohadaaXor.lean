/-
  The walk of tweak.Xor: the sum of blocks in memory. Condition: at most 2^40 blocks.
-/
import Derived.Test.YtibfihjcjohadaaNum
import Derived.Deep.MidRow
namespace Go.Proofs.Ytibfihjcjohadaa
open Go.RowKit Go.Op
open Twk (byt dbl hlv tm byt_lt dbl_lt hlv_lt tm_lt up down xor_lt128 byt_xor)
/-- a block's cells as a list -/
def bl (f : Nat → Nat) : List Value := (List.range 16).map fun i => cellOf (f i)
theorem bl_bv (f : Nat → Nat) : (bl f).toArray = bv f := rfl
theorem bl_len (f : Nat → Nat) : (bl f).length = 16 := by simp [bl]
/-- blocks in a row in memory, nil let in -/
def Blocks (w : World) (A : Option Addr) (n : Nat) (l : List Nat) : Prop :=
  l.length = n ∧ n ≤ 1099511627776 ∧ (∀ x ∈ l, x < 2 ^ 128) ∧ (0 < n → ∃ b o, A = some ⟨b, o, none⟩ ∧ ∀ j, j < n → w.rangeAt b (o + j * 16) (bl (byt (l.getD j 0))))
theorem Blocks.at_ {w : World} {A : Option Addr} {n k : Nat} {l : List Nat} (h : Blocks w A n l) (hk : k < n) : ∃ b o x, A = some ⟨b, o, none⟩ ∧ l.getD k 0 = x ∧ x < 2 ^ 128 ∧ l[k]? = some x ∧ w.rangeAt b (o + k * 16) (bl (byt x)) := by
  obtain ⟨hl, _, hx, hc⟩ := h
  obtain ⟨b, o, hA, hc⟩ := hc (by omega)
  have hkl : k < l.length := by omega
  have e : l.getD k 0 = l[k] := by simp [List.getD, List.getElem?_eq_getElem hkl]
  refine ⟨b, o, l.getD k 0, hA, rfl, ?_, ?_, hc k hk⟩
  · rw [e]; exact hx _ (List.getElem_mem hkl)
  · rw [e]; exact List.getElem?_eq_getElem hkl
theorem rangeAt_keep {w w' : World} {b o : Nat} {cs : List Value} (h : w.rangeAt b o cs) (hk : ∀ p : Addr, p.block < w.heap.size → w'.cell? p = w.cell? p) : w'.rangeAt b o cs := fun j v hv => by
  have h1 := h j v hv
  exact (hk _ (World.block_lt_of_cell? w _ h1)).trans h1
theorem Blocks.keep {w w' : World} {A : Option Addr} {n : Nat} {l : List Nat} (h : Blocks w A n l) (hk : ∀ p : Addr, p.block < w.heap.size → w'.cell? p = w.cell? p) : Blocks w' A n l :=
  ⟨h.1, h.2.1, h.2.2.1, fun hn => by
    obtain ⟨b, o, hA, hc⟩ := h.2.2.2 hn
    exact ⟨b, o, hA, fun j hj => rangeAt_keep (hc j hj) hk⟩⟩
theorem Blocks.below {w w' : World} {A : Option Addr} {n : Nat} {l : List Nat} (h : Blocks w A n l) (hb : Below w.heap.size w w') : Blocks w' A n l := h.keep fun _ hp => hb.cell hp
theorem Blocks.alloc {w : World} {A : Option Addr} {n : Nat} {l : List Nat} (h : Blocks w A n l) (o : Obj) : Blocks (w.alloc o) A n l := h.keep fun p hp => World.cell?_alloc_lt w o p hp
/-- a whole block is read out of the middle of a row -/
theorem wp_load_blk {ops : Array Oper} {rest : List Oper} {o : Oper} {a : Act} {w : World} {Q : Exit → Act → World → Prop} (hgd : o.guard = none) (x : Operand) (ho : o.op = .load 36 x)
    (b off : Nat) (f : Nat → Nat) (hx : a.eval x = .pointer (some ⟨b, off, none⟩)) (ha : w.rangeAt b off (bl f))
    (h : wpList Try.prog ops Q rest (a.put o.dst (.agg (bv f))) w) : wpList Try.prog ops Q (o :: rest) a w :=
  wpList_load_mid hgd 36 x ho b off hx (bl f) _ ha Try.underlying36 rfl (by rw [bl_len]; exact size36) h
/-- the sum of blocks -/
def nsum (l : List Nat) : Nat := l.foldl (· ^^^ ·) 0
theorem nsum_snoc (l : List Nat) (x : Nat) : nsum (l ++ [x]) = nsum l ^^^ x := by simp [nsum]
theorem nsum_lt (l : List Nat) (h : ∀ x ∈ l, x < 2 ^ 128) : nsum l < 2 ^ 128 := by
  have key : ∀ l : List Nat, (∀ x ∈ l, x < 2 ^ 128) → ∀ a, a < 2 ^ 128 → l.foldl (· ^^^ ·) a < 2 ^ 128 := by
    intro l
    induction l with
    | nil => intro _ a ha; exact ha
    | cons x l ih => intro h a ha; exact ih (fun y hy => h y (by simp [hy])) _ (xor_lt128 ha (h x (by simp)))
  exact key l h 0 (by decide)
set_option maxRecDepth 100000 in
set_option maxHeartbeats 1000000 in
theorem xor_any (A : Option Addr) (n c : Nat) (l : List Nat) (w : World) (hl : Blocks w A n l) :
    Calls Try.prog 47 #[.slice A n c] w fun e w' => e = .returned (.agg (blk (nsum l))) ∧ Below w.heap.size w w' := by
  have hn := hl.2.1
  have hll : Hid (l.length = n) := hl.1
  go_enter Try.func47, Try.ntmps47
  go_wp2_with fail
  go_loopw [9] (fun i wr => ∃ (k : Nat), i = .int .i64 (k : Int) ∧ k ≤ n ∧ Arr wr w.heap.size (byt (nsum (l.take k))) ∧ Below w.heap.size w wr ∧ w.heap.size + 1 ≤ wr.heap.size) (fun i _ => n - (intOf i).toNat)
  case atStart => exact ⟨0, rfl, by omega, (Arr.zero _ _ rfl).congr (fun i _ => by simp [nsum, byt]), (Below.refl _ _).alloc (Nat.le_refl _) _, by simp⟩
  case round =>
    obtain ⟨k, rfl, hk, ha, hbel, hsz⟩ := hrel
    by_cases hlt : k < n
    · obtain ⟨b, o, x, rfl, _, hx, hx2, hr⟩ := (hl.below hbel).at_ hlt
      have HS : Hid (nsum (l.take (k + 1)) = nsum (l.take k) ^^^ x) := by
        show _ = _
        rw [List.take_add_one, hx2]; exact nsum_snoc _ _
      clear hx2
      have ha1 : Arr ((wr.alloc (.cells #[.int .u8 0, .int .u8 0, .int .u8 0, .int .u8 0, .int .u8 0, .int .u8 0, .int .u8 0, .int .u8 0, .int .u8 0, .int .u8 0, .int .u8 0, .int .u8 0, .int .u8 0, .int .u8 0, .int .u8 0, .int .u8 0] 36)).setRow wr.heap.size (bv (byt x))) w.heap.size (byt (nsum (l.take k))) := (ha.alloc _).setRow_far (by omega)
      have hb1 : Below w.heap.size w ((wr.alloc (.cells #[.int .u8 0, .int .u8 0, .int .u8 0, .int .u8 0, .int .u8 0, .int .u8 0, .int .u8 0, .int .u8 0, .int .u8 0, .int .u8 0, .int .u8 0, .int .u8 0, .int .u8 0, .int .u8 0, .int .u8 0, .int .u8 0] 36)).setRow wr.heap.size (bv (byt x))) := below_setRow (hbel.alloc (by omega) _) (by omega) _
      obtain ⟨wo, rfl⟩ : ∃ wo : World, wo = wr := ⟨_, rfl⟩
      go_wp2_with (first
        | ((with_reducible show wpList _ _ _ _ _ _); refine wp_load_blk rfl (.tmp 11) rfl b (o + k * 16) (byt x) rfl hr ?_)
        | ((with_reducible show wpList _ _ _ _ _ _); refine wp_store_arr rfl (.tmp 4) (.tmp 12) rfl wo.heap.size (fun _ => 0) (byt x) rfl rfl (Arr.zero _ _ rfl) ?_)
        | ((with_reducible show wpList _ _ _ _ _ _); refine wp_load_arr rfl (.tmp 4) rfl wo.heap.size (byt x) rfl (Arr.zero _ _ rfl).setRow ?_))
      go_loopw [14] (fun i wr => ∃ (m : Nat) (h : Nat → Nat), i = .int .i64 (m : Int) ∧ m ≤ 16 ∧ Hid (∀ j, j < 16 → h j = if j < m then byt (nsum (l.take (k + 1))) j else byt (nsum (l.take k)) j) ∧ Arr wr w.heap.size h ∧ Below w.heap.size w wr ∧ w.heap.size + 1 ≤ wr.heap.size) (fun i _ => 16 - (intOf i).toNat)
      case atStart => exact ⟨0, _, rfl, by omega, Lib.hid (fun j _ => rfl), ha1, hb1, by simp [World.setRow]; omega⟩
      case round =>
        obtain ⟨m, h, rfl, hm, H, ha2, hb2, hs2⟩ := hrel
        clear ha1 hb1 ha hbel hr
        by_cases hlt2 : m < 16
        · have hix := run_index (f := byt x) hlt2
          have hbx := byt_lt x m
          have hcell := ha2.cell hlt2
          have hfree := ha2.free m
          have HM : Hid (h m = byt (nsum (l.take k)) m) := by show _ = _; rw [H.out m hlt2, if_neg (by omega)]
          have hhm : h m < 256 := by rw [HM.out]; exact byt_lt _ _
          have hxr := u8_xor_nat (h m) (byt x m) hhm hbx
          go_wp2_with fail
          go_roundw
          case rel =>
            refine ⟨m + 1, upd h m (h m ^^^ byt x m), by go_num, by omega, Lib.hid (fun j hj => ?_), ha2.set, hb2.setCell (by simp) _, by simpa [World.setCell] using hs2⟩
            unfold upd
            by_cases e : j = m
            · subst e; rw [if_pos rfl, if_pos (by omega), HS.out, byt_xor, HM.out]
            · rw [if_neg e, H.out j hj]
              by_cases hjm : j < m
              · rw [if_pos hjm, if_pos (by omega)]
              · rw [if_neg hjm, if_neg (by omega)]
          case measure => simp [intOf]; omega
        · have e16 : m = 16 := by omega
          subst e16
          have ha3 : Arr wr w.heap.size (byt (nsum (l.take (k + 1)))) := ha2.congr (fun j hj => by rw [H.out j hj, if_pos hj])
          clear ha2 H
          go_wp2_with fail
          go_roundw
          case rel => exact ⟨k + 1, by go_num, by omega, ha3, hb2, hs2⟩
          case measure => simp [intOf]; omega
    · have e : k = n := by omega
      subst e
      have et : l.take k = l := List.take_of_length_le (by rw [hll.out]; omega)
      rw [et] at ha
      clear et
      go_wp2_with (first
        | ((with_reducible show wpList _ _ _ _ _ _); refine wp_load_arr rfl (.tmp 2) rfl w.heap.size (byt (nsum l)) rfl ha ?_)
        | ((with_reducible show wpList _ _ _ _ _ _); refine wp_store_arr rfl (.tmp 2) (.tmp 26) rfl w.heap.size (byt (nsum l)) (byt (nsum l)) rfl rfl ha ?_))
      exact bodyPost_ret (results_arr rfl _ _ w.heap.size (byt (nsum l)) rfl ha.setRow) rfl ⟨rfl, below_setRow hbel (by omega) _⟩
end Go.Proofs.Ytibfihjcjohadaa
