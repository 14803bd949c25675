/-
  The walk of sbox.Tables: what each byte is turned into, and back, as two arrays; nothing that was there is written.
-/
import Derived.Test.YtibfihjcjohadaaRowN
namespace Go.Proofs.Ytibfihjcjohadaa
open Go.RowKit Go.Op
open Fld (tw mul tw_lt xor_lt mul_lt pw npow inv inv_lt)
open Sbx (sub sub_lt back back_lt turn turn_lt lg npow3_inj npow3_lt)
/-- what the last region reads -/
structure ST (w w' : World) : Prop where
  a : w'.rowIs w.heap.size 53 256 (bCell sub)
  b : w'.rowIs (w.heap.size + 1) 53 256 (bCell back)
  bel : Below w.heap.size w w'
theorem mul3 {a : Nat} (ha : a < 256) : mul a 3 = a ^^^ tw a :=
  eq_of_beq (Fld.all256 (p := fun a => mul a 3 == a ^^^ tw a) (by decide +kernel) ha)
theorem pow3_all {a : Nat} (ha : a < 256) : a = 0 ∨ ∃ j, j < 255 ∧ npow 3 j = a := by
  rcases Sbx.lg_all ha with h | ⟨h1, h2, _⟩
  · exact .inl h
  · exact .inr ⟨_, h1, by rw [← Sbx.pw3 h1, h2]⟩
theorem inv_pow3 {k : Nat} (hk : k < 255) : npow 3 ((255 - k) % 255) = inv (npow 3 k) := by
  have h := Sbx.lg_all (npow3_lt k)
  have hl := Sbx.lg_pw hk
  rw [Sbx.pw3 hk] at hl
  rcases h with h | ⟨_, _, h3⟩
  · exfalso
    have h1 : mul (npow 3 k) (npow 3 (255 - k)) = 1 := by rw [← Fld.npow_add (by decide), show k + (255 - k) = 255 by omega, Fld.npow255 (by decide) (by decide)]
    rw [h, Fld.zero_mul (npow3_lt _)] at h1
    omega
  · rw [hl, Sbx.pw3 (Nat.mod_lt _ (by decide))] at h3; exact h3
set_option maxRecDepth 100000 in
set_option maxHeartbeats 8000000 in
theorem tables_any (w : World) :
    Calls Try.prog 93 #[] w fun e w' => e = .returned (.tuple #[.agg (cellsN 256 sub), .agg (cellsN 256 back)]) ∧ Below w.heap.size w w' := by
  have z0 := zero_cells (show Try.zeroCells53 = Array.replicate 256 (.int .u8 0) by kernel_rfl) w 53
  have z1 := zero_cells (show Try.zeroCells53 = Array.replicate 256 (.int .u8 0) by kernel_rfl) (w.alloc (.cells Try.zeroCells53 53)) 53
  have z2 := zero_cells (show Try.zeroCells88 = Array.replicate 255 (.int .u8 0) by kernel_rfl) ((w.alloc (.cells Try.zeroCells53 53)).alloc (.cells Try.zeroCells53 53)) 88
  have zb : Below w.heap.size w (((w.alloc (.cells Try.zeroCells53 53)).alloc (.cells Try.zeroCells53 53)).alloc (.cells Try.zeroCells88 88)) := (((Below.refl _ _).alloc (Nat.le_refl _) _).alloc (by simp) _).alloc (by simp; omega) _
  have y0 := (z0.alloc (.cells Try.zeroCells53 53)).alloc (.cells Try.zeroCells88 88)
  have y1 := z1.alloc (.cells Try.zeroCells88 88)
  have zs : w.heap.size + 3 ≤ (((w.alloc (.cells Try.zeroCells53 53)).alloc (.cells Try.zeroCells53 53)).alloc (.cells Try.zeroCells88 88)).heap.size := by simp
  simp only [World.size_alloc] at y1 z2
  have HT0 : ∃ s0 : Nat, Box (sub 0 = s0) ∧ Box (∀ w, Calls Try.prog 77 #[.int .u8 0] w fun e w' => e = .returned (.int .u8 (s0 : Int)) ∧ Below w.heap.size w w') := ⟨_, ⟨rfl⟩, ⟨fun w => by
    have h := turned_any 0 (by decide) w
    rw [show turn 0 = sub 0 by decide +kernel] at h
    exact h⟩⟩
  obtain ⟨s0, HS0, HT0⟩ := HT0
  clear z0 z1
  go_enter Try.func93, Try.ntmps93
  go_wp2_with fail
  revert z2 zb y0 y1 zs
  generalize ((w.alloc (.cells Try.zeroCells53 53)).alloc (.cells Try.zeroCells53 53)).alloc (.cells Try.zeroCells88 88) = w1
  intro zb z0 zs z1 z2
  go_loopw [3, 4, 9] (fun x u i wr => ∃ (k : Nat), i = .int .i64 (k : Int) ∧ k ≤ 255 ∧ x = .int .u8 ((npow 3 k : Nat) : Int) ∧ wr.rowIs w.heap.size 53 256 (bCell fun _ => 0) ∧ wr.rowIs (w.heap.size + 1) 53 256 (bCell fun _ => 0) ∧ wr.rowIs (w.heap.size + 2) 88 255 (bCell (upN k)) ∧ Below w.heap.size w wr ∧ w.heap.size + 3 ≤ wr.heap.size) (fun _ _ i _ => 255 - (intOf i).toNat)
  case atStart => exact ⟨0, rfl, by omega, rfl, z0, z1, z2, zb, zs⟩
  case round =>
    obtain ⟨k, rfl, hk, rfl, h0, h1, h2, hbel, hsz⟩ := hrel
    clear z0 z1 z2 zb zs w1
    by_cases hk5 : k = 255
    · subst hk5
      have e0 := h0.cell (show 0 < 256 by decide)
      unfold bCell at e0
      have g0 := h0.frozen 0
      go_wp2_with fail
      refine (HT0.out _).mono ?_
      rintro e w1 ⟨rfl, hb1⟩
      have h0 := rowIs_below h0 hb1 h0.lt
      have h1 := rowIs_below h1 hb1 h1.lt
      have h2 := rowIs_below h2 hb1 h2.lt
      have hsz1 := hb1.size
      have hbel := hbel.trans (hb1.mono hbel.size)
      have e0 := h0.cell (show 0 < 256 by decide)
      unfold bCell at e0
      have g0 := h0.frozen 0
      clear hb1
      go_wp2_with (first
          | ((with_reducible show wpList _ _ _ (⟨some 22, Op.load 88 (.tmp 2), _, _, _, _⟩ :: _) _ _); refine wp_load88 rfl (.tmp 2) rfl (w.heap.size + 2) (upN 255) rfl (h2.setOther (show w.heap.size + 2 ≠ w.heap.size by omega) _) ?_))
      go_loopw [23] (fun i wr => ∃ (k : Nat) (f : Nat → Nat), i = .int .i64 (k : Int) ∧ k ≤ 255 ∧ Box (f 0 = sub 0 ∧ ∀ j, j < k → f (npow 3 j) = sub (npow 3 j)) ∧ wr.rowIs w.heap.size 53 256 (bCell f) ∧ wr.rowIs (w.heap.size + 1) 53 256 (bCell fun _ => 0) ∧ wr.rowIs (w.heap.size + 2) 88 255 (bCell (upN 255)) ∧ Below w.heap.size w wr ∧ w.heap.size + 3 ≤ wr.heap.size) (fun i _ => 255 - (intOf i).toNat)
      case atStart =>
        refine ⟨0, fun j => if j = 0 then s0 else 0, rfl, by omega, ⟨by show s0 = _; exact HS0.out.symm, fun j hj => absurd hj (by omega)⟩, rowIs_set (x := s0) (g := fun j => if j = 0 then s0 else 0) h0 (fun j _ => ?_) rfl, h1.setOther (show w.heap.size + 1 ≠ w.heap.size by omega) _, h2.setOther (show w.heap.size + 2 ≠ w.heap.size by omega) _, hbel.setCell (Nat.le_refl _) _, by simp only [World.size_setCell]; omega⟩
        unfold bCell
        by_cases e : j = 0
        · rw [if_pos e, if_pos e]
        · rw [if_neg e, if_neg e]
      case round =>
        obtain ⟨k, f, rfl, hk, HF, h0', h1', h2', hbel', hsz'⟩ := hrel
        clear h0 h1 h2 hbel hsz hsz1 e0 g0 HT0
        by_cases hk5 : k = 255
        · subst hk5
          have hA : wr.rowIs w.heap.size 53 256 (bCell sub) := by
            refine h0'.congr (fun i hi => ?_)
            unfold bCell
            rcases pow3_all hi with rfl | ⟨j, hj, rfl⟩
            · rw [HF.out.1]
            · rw [HF.out.2 j hj]
          clear HF h0' HS0
          go_wp2_with (first
              | ((with_reducible show wpList _ _ _ (⟨some 36, Op.load 53 (.tmp 0), _, _, _, _⟩ :: _) _ _); refine wp_load53 rfl (.tmp 0) rfl (w.heap.size) (sub) rfl (hA) ?_))
          go_loopw [37] (fun i wr => ∃ (k : Nat) (g : Nat → Nat), i = .int .i64 (k : Int) ∧ k ≤ 256 ∧ Box (∀ j, j < k → g (sub j) = j) ∧ wr.rowIs w.heap.size 53 256 (bCell sub) ∧ wr.rowIs (w.heap.size + 1) 53 256 (bCell g) ∧ Below w.heap.size w wr) (fun i _ => 256 - (intOf i).toNat)
          case atStart => exact ⟨0, _, rfl, by omega, ⟨fun j hj => absurd hj (by omega)⟩, hA, h1', hbel'⟩
          case round =>
            obtain ⟨k, g, rfl, hk, HG, a1, a2, hb⟩ := hrel
            clear hA h1' h2' hbel' hsz'
            by_cases hk6 : k = 256
            · subst hk6
              have hB : wr.rowIs (w.heap.size + 1) 53 256 (bCell back) := by
                refine a2.congr (fun i hi => ?_)
                unfold bCell
                have := HG.out (back i) (back_lt hi)
                rw [Sbx.sub_back hi] at this
                rw [this]
              clear HG a2
              go_wp2_with fail
              have hS1 : ST w wr.drew := ⟨a1, hB, hb.drew⟩
              clear a1 hB hb
              refine wp_region_held_drew (S := ST w) (by kernel_rfl) hS1 (fun hS => ?_)
              clear hS1
              refine wpAnyH_take (i := 0) (oi := ⟨some 46, _, _, _, _, _⟩) (v := .agg (cellsN 256 sub)) rfl (by kernel_rfl) (by kernel_rfl) (by kernel_rfl) (fun _ _ _ h => h) (yields53 (by kernel_rfl) (.tmp 0) rfl w.heap.size sub rfl (fun _ h => h.a)) hS ?_
              simp only [Act.put, List.setIfInBounds_toArray, List.set_cons_zero, List.set_cons_succ]
              refine wpAnyH_take (i := 1) (oi := ⟨some 47, _, _, _, _, _⟩) (v := .agg (cellsN 256 back)) rfl (by kernel_rfl) (by kernel_rfl) (by kernel_rfl) (fun _ _ _ h => h) (yields53 (by kernel_rfl) (.tmp 1) rfl (w.heap.size + 1) back rfl (fun _ h => h.b)) hS ?_
              simp only [Act.put, List.setIfInBounds_toArray, List.set_cons_zero, List.set_cons_succ]
              refine wpAnyH_ready (rs := [2]) (by kernel_rfl) (by simp) ?_
              refine AllReadyH.cons (o := ⟨none, _, _, _, _, _⟩) rfl (fun K hK => ?_) AllReadyH.nil
              rw [if_pos (by kernel_rfl)]
              refine wpo_store53 (.tmp 0) (.tmp 46) rfl w.heap.size sub sub rfl rfl hS.a ?_
              refine hK.out _ _ ⟨rowIs_setRow hS.a, rowIs_setRow_far hS.b (by omega), below_setRow hS.bel (Nat.le_refl _) _⟩ (fun hS => ?_)
              clear hK K
              refine wpAnyH_ready (rs := [3]) (by kernel_rfl) (by simp) ?_
              refine AllReadyH.cons (o := ⟨none, _, _, _, _, _⟩) rfl (fun K hK => ?_) AllReadyH.nil
              rw [if_pos (by kernel_rfl)]
              refine wpo_store53 (.tmp 1) (.tmp 47) rfl (w.heap.size + 1) back back rfl rfl hS.b ?_
              refine hK.out _ _ ⟨rowIs_setRow_far hS.a (by omega), rowIs_setRow hS.b, below_setRow hS.bel (by omega) _⟩ (fun hS => ?_)
              clear hK K
              refine wpAnyH_done (by kernel_rfl) ?_ _
              go_wp2_with fail
              exact bodyPost_ret (results_two53 rfl _ _ w.heap.size (w.heap.size + 1) sub back rfl rfl hS.a hS.b) rfl ⟨rfl, hS.bel⟩
            · have hk2 : k < 256 := by omega
              have hi := run_index53 (f := sub) hk2
              have hs := sub_lt hk2
              have c1 := a2.cell hs
              have f1 := a2.frozen (sub k)
              unfold bCell at c1
              clear hk6
              go_wp2_with fail
              go_roundw
              case rel =>
                refine ⟨k + 1, fun y => if y = sub k then k else g y, by go_num, by omega, ⟨fun j hj => ?_⟩, a1.setOther (show w.heap.size ≠ w.heap.size + 1 by omega) _, rowIs_set (x := k) (g := fun y => if y = sub k then k else g y) a2 (fun j _ => ?_) rfl, hb.setCell (show w.heap.size ≤ w.heap.size + 1 by omega) _⟩
                · show (if sub j = sub k then k else g (sub j)) = j
                  by_cases e : j = k
                  · subst e; exact if_pos rfl
                  · rw [if_neg (fun h => e (Sbx.sub_inj (by omega) hk2 h))]; exact HG.out j (by omega)
                · unfold bCell
                  by_cases e : j = sub k
                  · rw [if_pos e, if_pos e]
                  · rw [if_neg e, if_neg e]
              case measure => simp [intOf]; omega
        · have hk2 : k < 255 := by omega
          have hi := run_index88 (f := upN 255) hk2
          rw [show upN 255 k = npow 3 k from if_pos hk2] at hi
          have hp := npow3_lt k
          have hq : ∃ q : Nat, (255 - (k : Int)) % 255 = (q : Int) ∧ q < 255 ∧ npow 3 q = inv (npow 3 k) := ⟨(255 - k) % 255, by omega, Nat.mod_lt _ (by decide), inv_pow3 hk2⟩
          obtain ⟨q, hq, hq2, hqi⟩ := hq
          have c2 := h2'.cell hq2
          unfold bCell upN at c2
          rw [if_pos hq2, hqi] at c2
          have HC : ∃ y s : Nat, inv (npow 3 k) = y ∧ Box (sub (npow 3 k) = s) ∧ Box (∀ w, Calls Try.prog 77 #[.int .u8 (y : Int)] w fun e w' => e = .returned (.int .u8 (s : Int)) ∧ Below w.heap.size w w') := ⟨_, _, rfl, ⟨rfl⟩, ⟨fun w => turned_any _ (inv_lt hp) w⟩⟩
          obtain ⟨y, s, hy, HS, HT⟩ := HC
          rw [hy] at c2
          clear hy hqi hk5
          have HI : Box (∀ j, j < 255 → npow 3 j = npow 3 k → j = k) := ⟨fun j hj h => npow3_inj hj hk2 h⟩
          have HZ : Box (npow 3 k ≠ 0) := ⟨fun h => by
            have h1 : mul (npow 3 k) (npow 3 (255 - k)) = 1 := by rw [← Fld.npow_add (by decide), show k + (255 - k) = 255 by omega, Fld.npow255 (by decide) (by decide)]
            rw [h, Fld.zero_mul (npow3_lt _)] at h1
            omega⟩
          have HFO : Box (f 0 = sub 0 ∧ ∀ j, j < k → f (npow 3 j) = sub (npow 3 j)) := HF
          have HNEW : Box (∀ j, j < k + 1 → (if npow 3 j = npow 3 k then s else f (npow 3 j)) = sub (npow 3 j)) := ⟨fun j hj => by
            by_cases e : j = k
            · subst e; rw [if_pos rfl, HS.out]
            · rw [if_neg (fun h => e (HI.out j (by omega) h))]; exact HFO.out.2 j (by omega)⟩
          clear HF HI HS
          revert hi hp HZ HNEW
          generalize hPk : npow 3 k = p
          intro hi hp HZ HNEW
          clear hPk
          go_wp2_with fail
          refine (HT.out _).mono ?_
          rintro e w1 ⟨rfl, hb1⟩
          have h0 := rowIs_below h0' hb1 h0'.lt
          have h1 := rowIs_below h1' hb1 h1'.lt
          have h2 := rowIs_below h2' hb1 h2'.lt
          have hsz1 := hb1.size
          have hbel := hbel'.trans (hb1.mono hbel'.size)
          have e0 := h0.cell hp
          unfold bCell at e0
          have g0 := h0.frozen p
          clear hb1 h0' h1' h2' hbel' c2
          go_wp2_with fail
          go_roundw
          case rel =>
            refine ⟨k + 1, fun y => if y = p then s else f y, by go_num, by omega, ⟨?_, HNEW.out⟩, rowIs_set (x := s) (g := fun y => if y = p then s else f y) h0 (fun j _ => ?_) rfl, h1.setOther (show w.heap.size + 1 ≠ w.heap.size by omega) _, h2.setOther (show w.heap.size + 2 ≠ w.heap.size by omega) _, hbel.setCell (Nat.le_refl _) _, by simp only [World.size_setCell]; omega⟩
            · show (if 0 = p then s else f 0) = sub 0
              rw [if_neg (fun h => HZ.out h.symm), HFO.out.1]
            · unfold bCell
              by_cases e : j = p
              · rw [if_pos e, if_pos e]
              · rw [if_neg e, if_neg e]
          case measure => simp [intOf]; omega
    · have hk2 : k < 255 := by omega
      have hp := npow3_lt k
      have c1 := h2.cell hk2
      have f1 := h2.frozen k
      unfold bCell at c1
      have HM : Box (npow 3 k ^^^ tw (npow 3 k) = npow 3 (k + 1)) := ⟨(mul3 hp).symm⟩
      have ht := tw_lt hp
      have hx := u8_xor_nat _ _ hp ht
      rw [HM.out] at hx
      clear hk5
      go_wp2_with fail
      refine (twice_any (npow 3 k) hp _).mono ?_
      rintro e w' ⟨rfl, rfl⟩
      go_wp2_with fail
      go_roundw
      case rel =>
        refine ⟨k + 1, by go_num, by omega, rfl, h0.setOther (show w.heap.size ≠ w.heap.size + 2 by omega) _, h1.setOther (show w.heap.size + 1 ≠ w.heap.size + 2 by omega) _, rowIs_set (x := npow 3 k) (g := upN (k + 1)) h2 (fun j _ => ?_) rfl, hbel.setCell (show w.heap.size ≤ w.heap.size + 2 by omega) _, by simpa [World.setCell] using hsz⟩
        unfold bCell upN
        by_cases e : j = k
        · subst e; rw [if_pos rfl, if_pos (by omega)]
        · rw [if_neg e]
          by_cases hj : j < k
          · rw [if_pos hj, if_pos (by omega)]
          · rw [if_neg hj, if_neg (by omega)]
      case measure => simp [intOf]; omega
end Go.Proofs.Ytibfihjcjohadaa
