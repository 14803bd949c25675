/-
  The walk of the reference's NewBox: a new block of 512 bytes: what each byte is turned into, and back.
-/
import Derived.Test.YtibfihjcjohadaaRSbx
import Derived.Test.YtibfihjcjohadaaPBox
namespace Go.Proofs.Ytibfihjcjohadaa
open Go.RowKit Go.Op
open Fld (tw mul tw_lt xor_lt mul_lt pw npow inv inv_lt)
open Sbx (sub sub_lt back back_lt turn turn_lt dig digs digs_turn boxN lg npow3_inj npow3_lt table_lg)
theorem below_drewN {B : Nat} {a w : World} (h : Below B a w) (n : Nat) : Below B a (w.drewN n) := ⟨h.os, h.tape, h.output, h.size, h.block⟩
/-- a byte as a cell -/
def bCell (f : Nat → Nat) (i : Nat) : Value := .int .u8 ((f i : Nat) : Int)
/-- a whole number as a cell -/
def iCell (f : Nat → Nat) (i : Nat) : Value := .int .i64 ((f i : Nat) : Int)
theorem zero_cells {C : Array Value} {n : Nat} {v : Value} (h : C = Array.replicate n v) (w : World) (t : TypeId) : (w.alloc (.cells C t)).rowIs w.heap.size t n (fun _ => v) := by
  subst h
  have := World.rowIs_alloc w (Array.replicate n v) t (fun _ => v) (fun i hi => by simp at hi; simp [hi])
  rwa [Array.size_replicate] at this
theorem rowIs_set {w : World} {b t n i : Nat} {k : IntKind} {f : Nat → Value} {g : Nat → Nat} {x : Nat} (h : w.rowIs b t n f) (hg : ∀ j, j < n → (if j = i then Value.int k (x : Int) else f j) = Value.int k ((g j : Nat) : Int)) {u : Value} (hu : u = .int k (x : Int)) : (w.setCell ⟨b, i, none⟩ u).rowIs b t n (fun j => .int k ((g j : Nat) : Int)) := by
  subst hu
  exact (h.set i _).congr hg
/-- block B is a box -/
def BoxM (w : World) (B : Nat) : Prop := w.rowIs B 55 512 (bCell boxN)
/-- the first k powers of 3 -/
def upN (k j : Nat) : Nat := if j < k then npow 3 j else 0
set_option maxRecDepth 100000 in
set_option maxHeartbeats 8000000 in
theorem newBox_any (w : World) :
    Calls Try.prog 50 #[] w fun e w' => e = .returned (.pointer (some ⟨w.heap.size, 0, none⟩)) ∧ BoxM w' w.heap.size ∧ Below w.heap.size w w' ∧ w.heap.size + 1 ≤ w'.heap.size := by
  have z0 := zero_cells (show Try.zeroCells55 = Array.replicate 512 (.int .u8 0) by kernel_rfl) w 55
  have z1 := zero_cells (show Try.zeroCells88 = Array.replicate 255 (.int .u8 0) by kernel_rfl) (w.alloc (.cells Try.zeroCells55 55)) 88
  have z2 := zero_cells (show Try.zeroCells89 = Array.replicate 256 (.int .i64 0) by kernel_rfl) ((w.alloc (.cells Try.zeroCells55 55)).alloc (.cells Try.zeroCells88 88)) 89
  have zb : Below w.heap.size w (((w.alloc (.cells Try.zeroCells55 55)).alloc (.cells Try.zeroCells88 88)).alloc (.cells Try.zeroCells89 89)) := (((Below.refl _ _).alloc (Nat.le_refl _) _).alloc (by simp) _).alloc (by simp; omega) _
  have z0 := (z0.alloc (.cells Try.zeroCells88 88)).alloc (.cells Try.zeroCells89 89)
  have z1 := z1.alloc (.cells Try.zeroCells89 89)
  have zs : w.heap.size + 3 ≤ (((w.alloc (.cells Try.zeroCells55 55)).alloc (.cells Try.zeroCells88 88)).alloc (.cells Try.zeroCells89 89)).heap.size := by simp
  simp only [World.size_alloc] at z1 z2
  go_enter Try.func50, Try.ntmps50
  go_wp2_with fail
  revert z0 z1 z2 zb zs
  generalize ((w.alloc (.cells Try.zeroCells55 55)).alloc (.cells Try.zeroCells88 88)).alloc (.cells Try.zeroCells89 89) = w1
  intro zb z0 zs z1 z2
  go_loopw [4, 5] (fun v i wr => ∃ (k : Nat) (g : Nat → Nat), i = .int .i64 (k : Int) ∧ k ≤ 255 ∧ v = .int .u8 ((npow 3 k : Nat) : Int) ∧ Box (∀ j, j < k → g (npow 3 j) = j) ∧ wr.rowIs w.heap.size 55 512 (bCell fun _ => 0) ∧ wr.rowIs (w.heap.size + 1) 88 255 (bCell (upN k)) ∧ wr.rowIs (w.heap.size + 2) 89 256 (iCell g) ∧ Below w.heap.size w wr ∧ w.heap.size + 3 ≤ wr.heap.size) (fun _ i _ => 255 - (intOf i).toNat)
  case atStart => exact ⟨0, fun _ => 0, rfl, by omega, rfl, ⟨fun j hj => absurd hj (by omega)⟩, z0, z1, z2, zb, zs⟩
  case round =>
    obtain ⟨k, g, rfl, hk, rfl, HG, h0, h1, h2, hbel, hsz⟩ := hrel
    clear z0 z1 z2 zb zs w1
    by_cases hk5 : k = 255
    · subst hk5
      have HT : Box (∀ a, a < 256 → a ≠ 0 → g a = lg a ∧ lg a < 255 ∧ npow 3 ((255 - lg a) % 255) = inv a) := ⟨fun a ha h0 => table_lg HG.out ha h0⟩
      clear HG
      go_wp2_with fail
      go_loopw [6] (fun i wr => ∃ (a : Nat) (f : Nat → Nat), i = .int .i64 (a : Int) ∧ a ≤ 256 ∧ Box (∀ j, j < a → f j = sub j ∧ f (256 + sub j) = j) ∧ wr.rowIs w.heap.size 55 512 (bCell f) ∧ wr.rowIs (w.heap.size + 1) 88 255 (bCell (upN 255)) ∧ wr.rowIs (w.heap.size + 2) 89 256 (iCell g) ∧ Below w.heap.size w wr ∧ w.heap.size + 3 ≤ wr.heap.size) (fun i _ => 256 - (intOf i).toNat)
      case atStart => exact ⟨0, fun _ => 0, rfl, by omega, ⟨fun j hj => absurd hj (by omega)⟩, h0, h1, h2, hbel, hsz⟩
      case round =>
        obtain ⟨a, f, rfl, ha, HF, h0', h1', h2', hbel', hsz'⟩ := hrel
        clear h0 h1 h2 hbel hsz
        by_cases ha6 : a = 256
        · subst ha6
          have hB : BoxM wr w.heap.size := by
            refine h0'.congr (fun i hi => ?_)
            unfold bCell boxN
            by_cases h : i < 256
            · rw [if_pos h, (HF.out i h).1]
            · rw [if_neg h]
              have h1 := (HF.out (back (i - 256)) (back_lt (by omega))).2
              rw [Sbx.sub_back (by omega), show 256 + (i - 256) = i by omega] at h1
              rw [h1]
          clear HF h0' h1' h2'
          go_wp2_with fail
          go_ret
          exact ⟨rfl, hB, hbel', by omega⟩
        · have ha2 : a < 256 := by omega
          clear ha6
          have HI : Box (∀ x, x < 256 → f x < 256 ∨ True) := ⟨fun _ _ => .inr trivial⟩
          clear HI
          have hcase : (a = 0) ∨ (0 < a ∧ ∃ L q : Nat, g a = L ∧ L < 255 ∧ (255 - (L : Int)) % 255 = (q : Int) ∧ q < 255 ∧ npow 3 q = inv a) := by
            rcases Nat.eq_zero_or_pos a with h | h
            · exact .inl h
            · obtain ⟨t1, t2, t3⟩ := HT.out a ha2 (by omega)
              exact .inr ⟨h, lg a, (255 - lg a) % 255, t1, t2, by omega, Nat.mod_lt _ (by decide), t3⟩
          have HFIN : Box (sub a = turn (inv a)) := ⟨rfl⟩
          have hinv := inv_lt ha2
          rcases hcase with h0a | ⟨ha0, L, q, hL, hL2, hq, hq2, hqi⟩
          · have HZ : Box (0 = inv a) := ⟨by rw [h0a, inv_zero]⟩
            have hle : (a : Int) ≤ 0 := by omega
            clear h0a
            go_wp2_with fail
            obtain ⟨bn, hbn, hb, HZ⟩ : ∃ bn : Nat, (0 : Int) = (bn : Int) ∧ bn < 256 ∧ Box (bn = inv a) := ⟨0, rfl, by decide, HZ⟩
            rw [show Value.int .u8 0 = Value.int .u8 (bn : Int) by rw [hbn]]
            have HBN := Box.mk hbn
            clear hbn
            go_loopw [8, 9] (fun r i w' => ∃ (k n : Nat), k ≤ 8 ∧ i = .int .i64 (k : Int) ∧ r = .int .u8 ((digs bn k : Nat) : Int) ∧ w' = wr.drewN n) (fun _ i _ => 8 - (intOf i).toNat)
            case atStart => exact ⟨0, 0, by omega, rfl, val_int HBN.out.symm, rfl⟩
            case round =>
              obtain ⟨k, n, hk, rfl, rfl, rfl⟩ := hrel
              have h8 : k = 0 ∨ k = 1 ∨ k = 2 ∨ k = 3 ∨ k = 4 ∨ k = 5 ∨ k = 6 ∨ k = 7 ∨ k = 8 := by omega
              clear hk
              rcases h8 with rfl | rfl | rfl | rfl | rfl | rfl | rfl | rfl | rfl
              · go_wp2_with fail
                go_quiet (fail)
                go_wp2_with fail
                go_roundw
                case rel => exact ⟨1, _, by omega, rfl, val_int (dig_at0 hb), rfl⟩
                case measure => simp [intOf]
              · go_wp2_with fail
                go_quiet (fail)
                go_wp2_with fail
                go_roundw
                case rel => exact ⟨2, _, by omega, rfl, val_int (dig_at1 hb), rfl⟩
                case measure => simp [intOf]
              · go_wp2_with fail
                go_quiet (fail)
                go_wp2_with fail
                go_roundw
                case rel => exact ⟨3, _, by omega, rfl, val_int (dig_at2 hb), rfl⟩
                case measure => simp [intOf]
              · go_wp2_with fail
                go_quiet (fail)
                go_wp2_with fail
                go_roundw
                case rel => exact ⟨4, _, by omega, rfl, val_int (dig_at3 hb), rfl⟩
                case measure => simp [intOf]
              · go_wp2_with fail
                go_quiet (fail)
                go_wp2_with fail
                go_roundw
                case rel => exact ⟨5, _, by omega, rfl, val_int (dig_at4 hb), rfl⟩
                case measure => simp [intOf]
              · go_wp2_with fail
                go_quiet (fail)
                go_wp2_with fail
                go_roundw
                case rel => exact ⟨6, _, by omega, rfl, val_int (dig_at5 hb), rfl⟩
                case measure => simp [intOf]
              · go_wp2_with fail
                go_quiet (fail)
                go_wp2_with fail
                go_roundw
                case rel => exact ⟨7, _, by omega, rfl, val_int (dig_at6 hb), rfl⟩
                case measure => simp [intOf]
              · go_wp2_with fail
                go_quiet (fail)
                go_wp2_with fail
                go_roundw
                case rel => exact ⟨8, _, by omega, rfl, val_int (dig_at7 hb), rfl⟩
                case measure => simp [intOf]
              · have hs : digs bn 8 = sub a := by rw [digs_turn hb, HFIN.out, ← HZ.out]
                rw [hs]
                clear hs hb HFIN hinv HZ
                have hsl := sub_lt ha2
                have e0 := h0'.cell (show a < 512 by omega)
                have g0 := h0'.frozen a
                have e1 := h0'.cell (show 256 + sub a < 512 by omega)
                have g1 := h0'.frozen (256 + sub a)
                unfold bCell at e0 e1
                have HNEW : Box (∀ j, j < a + 1 → (fun x => if x = 256 + sub a then a else if x = a then sub a else f x) j = sub j ∧ (fun x => if x = 256 + sub a then a else if x = a then sub a else f x) (256 + sub j) = j) := by
                  refine ⟨fun j hj => ?_⟩
                  show (if j = 256 + sub a then a else if j = a then sub a else f j) = sub j ∧ (if 256 + sub j = 256 + sub a then a else if 256 + sub j = a then sub a else f (256 + sub j)) = j
                  rw [if_neg (by omega)]
                  by_cases e : j = a
                  · subst e; rw [if_pos rfl, if_pos rfl]; exact ⟨rfl, rfl⟩
                  · have hja : j < a := by omega
                    rw [if_neg e, if_neg (fun h => e (Sbx.sub_inj (by omega) ha2 (by omega))), if_neg (by omega)]
                    exact HF.out j hja
                have HR : Box (∀ n, (((wr.drewN n).setCell ⟨w.heap.size, a, none⟩ (.int .u8 ((sub a : Nat) : Int))).setCell ⟨w.heap.size, 256 + sub a, none⟩ (.int .u8 (a : Int))).rowIs w.heap.size 55 512 (bCell fun x => if x = 256 + sub a then a else if x = a then sub a else f x)) := by
                  refine ⟨fun n => ?_⟩
                  have r0 : (wr.drewN n).rowIs w.heap.size 55 512 (bCell f) := h0'
                  refine ((r0.set a _).set (256 + sub a) _).congr (fun i _ => ?_)
                  show (if i = 256 + sub a then Value.int .u8 (a : Int) else if i = a then Value.int .u8 ((sub a : Nat) : Int) else Value.int .u8 ((f i : Nat) : Int)) = Value.int .u8 (((if i = 256 + sub a then a else if i = a then sub a else f i) : Nat) : Int)
                  by_cases e1 : i = 256 + sub a
                  · rw [if_pos e1, if_pos e1]
                  · rw [if_neg e1, if_neg e1]
                    by_cases e2 : i = a
                    · rw [if_pos e2, if_pos e2]
                    · rw [if_neg e2, if_neg e2]
                go_wp2_with fail
                go_roundw
                case rel =>
                  refine ⟨a + 1, _, by go_num, by omega, HNEW, HR.out n, ?_, ?_, ?_, ?_⟩
                  · exact ((show (wr.drewN n).rowIs _ 88 255 _ from h1').setOther (show w.heap.size + 1 ≠ w.heap.size by omega) _).setOther (show w.heap.size + 1 ≠ w.heap.size by omega) _
                  · exact ((show (wr.drewN n).rowIs _ 89 256 _ from h2').setOther (show w.heap.size + 2 ≠ w.heap.size by omega) _).setOther (show w.heap.size + 2 ≠ w.heap.size by omega) _
                  · exact ((below_drewN hbel' n).setCell (Nat.le_refl _) _).setCell (Nat.le_refl _) _
                  · simpa [World.setCell] using hsz'
                case measure => simp [intOf]; omega

          · have c2 := h2'.cell ha2
            unfold iCell at c2
            rw [hL] at c2
            have c1 := h1'.cell hq2
            unfold bCell upN at c1
            rw [if_pos hq2] at c1
            have HZ : Box (npow 3 q = inv a) := ⟨hqi⟩
            have hb := npow3_lt q
            revert c1 HZ hb
            generalize npow 3 q = bn
            intro c1 HZ hb
            clear hqi
            have ha0' : 0 < (a : Int) := by omega
            clear hL
            go_wp2_with fail
            go_loopw [8, 9] (fun r i w' => ∃ (k n : Nat), k ≤ 8 ∧ i = .int .i64 (k : Int) ∧ r = .int .u8 ((digs bn k : Nat) : Int) ∧ w' = wr.drewN n) (fun _ i _ => 8 - (intOf i).toNat)
            case atStart => exact ⟨0, 0, by omega, rfl, rfl, rfl⟩
            case round =>
              obtain ⟨k, n, hk, rfl, rfl, rfl⟩ := hrel
              have h8 : k = 0 ∨ k = 1 ∨ k = 2 ∨ k = 3 ∨ k = 4 ∨ k = 5 ∨ k = 6 ∨ k = 7 ∨ k = 8 := by omega
              clear hk
              rcases h8 with rfl | rfl | rfl | rfl | rfl | rfl | rfl | rfl | rfl
              · go_wp2_with fail
                go_quiet (fail)
                go_wp2_with fail
                go_roundw
                case rel => exact ⟨1, _, by omega, rfl, val_int (dig_at0 hb), rfl⟩
                case measure => simp [intOf]
              · go_wp2_with fail
                go_quiet (fail)
                go_wp2_with fail
                go_roundw
                case rel => exact ⟨2, _, by omega, rfl, val_int (dig_at1 hb), rfl⟩
                case measure => simp [intOf]
              · go_wp2_with fail
                go_quiet (fail)
                go_wp2_with fail
                go_roundw
                case rel => exact ⟨3, _, by omega, rfl, val_int (dig_at2 hb), rfl⟩
                case measure => simp [intOf]
              · go_wp2_with fail
                go_quiet (fail)
                go_wp2_with fail
                go_roundw
                case rel => exact ⟨4, _, by omega, rfl, val_int (dig_at3 hb), rfl⟩
                case measure => simp [intOf]
              · go_wp2_with fail
                go_quiet (fail)
                go_wp2_with fail
                go_roundw
                case rel => exact ⟨5, _, by omega, rfl, val_int (dig_at4 hb), rfl⟩
                case measure => simp [intOf]
              · go_wp2_with fail
                go_quiet (fail)
                go_wp2_with fail
                go_roundw
                case rel => exact ⟨6, _, by omega, rfl, val_int (dig_at5 hb), rfl⟩
                case measure => simp [intOf]
              · go_wp2_with fail
                go_quiet (fail)
                go_wp2_with fail
                go_roundw
                case rel => exact ⟨7, _, by omega, rfl, val_int (dig_at6 hb), rfl⟩
                case measure => simp [intOf]
              · go_wp2_with fail
                go_quiet (fail)
                go_wp2_with fail
                go_roundw
                case rel => exact ⟨8, _, by omega, rfl, val_int (dig_at7 hb), rfl⟩
                case measure => simp [intOf]
              · have hs : digs bn 8 = sub a := by rw [digs_turn hb, HFIN.out, ← HZ.out]
                rw [hs]
                clear hs hb HFIN hinv HZ
                have hsl := sub_lt ha2
                have e0 := h0'.cell (show a < 512 by omega)
                have g0 := h0'.frozen a
                have e1 := h0'.cell (show 256 + sub a < 512 by omega)
                have g1 := h0'.frozen (256 + sub a)
                unfold bCell at e0 e1
                have HNEW : Box (∀ j, j < a + 1 → (fun x => if x = 256 + sub a then a else if x = a then sub a else f x) j = sub j ∧ (fun x => if x = 256 + sub a then a else if x = a then sub a else f x) (256 + sub j) = j) := by
                  refine ⟨fun j hj => ?_⟩
                  show (if j = 256 + sub a then a else if j = a then sub a else f j) = sub j ∧ (if 256 + sub j = 256 + sub a then a else if 256 + sub j = a then sub a else f (256 + sub j)) = j
                  rw [if_neg (by omega)]
                  by_cases e : j = a
                  · subst e; rw [if_pos rfl, if_pos rfl]; exact ⟨rfl, rfl⟩
                  · have hja : j < a := by omega
                    rw [if_neg e, if_neg (fun h => e (Sbx.sub_inj (by omega) ha2 (by omega))), if_neg (by omega)]
                    exact HF.out j hja
                have HR : Box (∀ n, (((wr.drewN n).setCell ⟨w.heap.size, a, none⟩ (.int .u8 ((sub a : Nat) : Int))).setCell ⟨w.heap.size, 256 + sub a, none⟩ (.int .u8 (a : Int))).rowIs w.heap.size 55 512 (bCell fun x => if x = 256 + sub a then a else if x = a then sub a else f x)) := by
                  refine ⟨fun n => ?_⟩
                  have r0 : (wr.drewN n).rowIs w.heap.size 55 512 (bCell f) := h0'
                  refine ((r0.set a _).set (256 + sub a) _).congr (fun i _ => ?_)
                  show (if i = 256 + sub a then Value.int .u8 (a : Int) else if i = a then Value.int .u8 ((sub a : Nat) : Int) else Value.int .u8 ((f i : Nat) : Int)) = Value.int .u8 (((if i = 256 + sub a then a else if i = a then sub a else f i) : Nat) : Int)
                  by_cases e1 : i = 256 + sub a
                  · rw [if_pos e1, if_pos e1]
                  · rw [if_neg e1, if_neg e1]
                    by_cases e2 : i = a
                    · rw [if_pos e2, if_pos e2]
                    · rw [if_neg e2, if_neg e2]
                go_wp2_with fail
                go_roundw
                case rel =>
                  refine ⟨a + 1, _, by go_num, by omega, HNEW, HR.out n, ?_, ?_, ?_, ?_⟩
                  · exact ((show (wr.drewN n).rowIs _ 88 255 _ from h1').setOther (show w.heap.size + 1 ≠ w.heap.size by omega) _).setOther (show w.heap.size + 1 ≠ w.heap.size by omega) _
                  · exact ((show (wr.drewN n).rowIs _ 89 256 _ from h2').setOther (show w.heap.size + 2 ≠ w.heap.size by omega) _).setOther (show w.heap.size + 2 ≠ w.heap.size by omega) _
                  · exact ((below_drewN hbel' n).setCell (Nat.le_refl _) _).setCell (Nat.le_refl _) _
                  · simpa [World.setCell] using hsz'
                case measure => simp [intOf]; omega

    · have hk2 : k < 255 := by omega
      have hp := npow3_lt k
      have c1 := h1.cell hk2
      have f1 := h1.frozen k
      have c2 := h2.cell hp
      have f2 := h2.frozen (npow 3 k)
      have c2' : ∀ u, (wr.setCell ⟨w.heap.size + 1, k, none⟩ u).cell? ⟨w.heap.size + 2, npow 3 k, none⟩ = some (iCell g (npow 3 k)) := fun u => (h2.setOther (a := ⟨w.heap.size + 1, k, none⟩) (show w.heap.size + 2 ≠ w.heap.size + 1 by omega) u).cell hp
      unfold bCell at c1
      unfold iCell at c2 c2'
      have HM : Box (mul (npow 3 k) 3 = npow 3 (k + 1)) := ⟨rfl⟩
      clear hk5
      go_wp2_with fail
      refine (rmul_any (npow 3 k) 3 hp (by decide) _).mono ?_
      rw [HM.out]
      rintro e w' ⟨rfl, rfl⟩
      go_wp2_with fail
      go_roundw
      case rel =>
        refine ⟨k + 1, fun x => if x = npow 3 k then k else g x, by go_num, by omega, rfl, ⟨fun j hj => ?_⟩, ?_, ?_, ?_, ?_, ?_⟩
        · by_cases e : j = k
          · subst e; exact if_pos rfl
          · show (if npow 3 j = npow 3 k then k else g (npow 3 j)) = j
            rw [if_neg (fun h => e (npow3_inj (by omega) hk2 h))]; exact HG.out j (by omega)
        · exact (h0.setOther (show w.heap.size ≠ w.heap.size + 1 by omega) _).setOther (show w.heap.size ≠ w.heap.size + 2 by omega) _
        · refine (rowIs_set (x := npow 3 k) (g := upN (k + 1)) h1 (fun j _ => ?_) rfl).setOther (show w.heap.size + 1 ≠ w.heap.size + 2 by omega) _
          unfold bCell upN
          by_cases e : j = k
          · subst e; rw [if_pos rfl, if_pos (by omega)]
          · rw [if_neg e]
            by_cases hj : j < k
            · rw [if_pos hj, if_pos (by omega)]
            · rw [if_neg hj, if_neg (by omega)]
        · refine rowIs_set (x := k) (g := fun x => if x = npow 3 k then k else g x) (h2.setOther (show w.heap.size + 2 ≠ w.heap.size + 1 by omega) _) (fun j _ => ?_) rfl
          unfold iCell
          by_cases e : j = npow 3 k
          · rw [if_pos e, if_pos e]
          · rw [if_neg e, if_neg e]
        · exact (hbel.setCell (show w.heap.size ≤ w.heap.size + 1 by omega) _).setCell (show w.heap.size ≤ w.heap.size + 2 by omega) _
        · simpa [World.setCell] using hsz
      case measure => simp [intOf]; omega
end Go.Proofs.Ytibfihjcjohadaa
