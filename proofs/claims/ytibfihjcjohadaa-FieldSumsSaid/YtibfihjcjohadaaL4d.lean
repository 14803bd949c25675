/-
  The walk of the law on sums of many bytes: it returns true, whatever the input, and writes nothing that was there.
-/
import Derived.Test.YtibfihjcjohadaaLaw4
import Derived.Test.YtibfihjcjohadaaAlike
namespace Go.Proofs.Ytibfihjcjohadaa
open Go.RowKit Go.Op
open Fld (xor_lt)
theorem xsum_reverse (l : List Nat) : xsum l.reverse = xsum l := by
  induction l with
  | nil => rfl
  | cons x l ih =>
    rw [List.reverse_cons, xsum_append, ih, show x :: l = [x] ++ l from rfl, xsum_append, Nat.xor_comm]
theorem take_reverse_succ (l : List Nat) (k : Nat) (hk : k < l.length) : l.reverse.take (k + 1) = l.reverse.take k ++ [l.getD (l.length - 1 - k) 0] := by
  rw [List.take_add_one]
  congr 1
  rw [List.getElem?_reverse hk, List.getElem?_eq_getElem (by omega)]
  simp [List.getD, List.getElem?_eq_getElem (show l.length - 1 - k < l.length by omega)]
set_option maxRecDepth 100000 in
set_option maxHeartbeats 400000 in
theorem sums_long (A : Option Addr) (n c : Nat) (t : Int) (w : World) (h : 100 < n) :
    Calls Try.prog 5 #[.slice A n c, .int .i64 t] w fun e w' => e = .returned (.bool true) ∧ Below w.heap.size w w' := by
  go_enter Try.func5, Try.ntmps5
  go_wp2_with fail
  refine (awake4 _).mono ?_
  rintro e w' ⟨rfl, hbel⟩
  go_wp2_with fail
  go_ret
  exact ⟨rfl, hbel⟩
set_option maxRecDepth 100000 in
set_option maxHeartbeats 1000000 in
theorem sums_short (A : Option Addr) (n c : Nat) (l : List Nat) (t : Int) (w : World) (h : n ≤ 100) (hl : Bytes w A n l) :
    Calls Try.prog 5 #[.slice A n c, .int .i64 t] w fun e w' => e = .returned (.bool true) ∧ Below w.heap.size w w' := by
  have hll : Hid (l.length = n) := hl.1
  have hlt256 : ∀ k, xsum (l.take k) < 256 := fun k => xsum_lt _ (fun y hy => hl.2.2.1 y (List.mem_of_mem_take hy))
  have HLT := Lib.hid hlt256
  clear hlt256
  go_enter Try.func5, Try.ntmps5
  go_wp2_with fail
  go_loopw [5, 6, 7] (fun s v i wr => ∃ k : Nat, k ≤ n ∧ i = .int .i64 (k : Int) ∧ s = .int .u8 ((xsum (l.take k) : Nat) : Int) ∧ Own wr w.heap.size v (l.reverse.take k) ∧ Below w.heap.size w wr) (fun _ _ i _ => n - (intOf i).toNat)
  case atStart => exact ⟨0, Nat.zero_le _, rfl, rfl, own_nil _ _, Below.refl _ _⟩
  case round =>
    obtain ⟨k, hk, rfl, rfl, hown, hbel⟩ := hrel
    have hlr := hl.below hbel
    by_cases hlt : k < n
    · obtain ⟨ad, x, rfl, _, hx, hx2, hc⟩ := hlr.at_ hlt
      obtain ⟨ad', y, hA, hyd, hy, _, hc2⟩ := hlr.at_ (show n - 1 - k < n by omega)
      cases hA
      have hxs := HLT.out k
      have hxr := u8_xor_nat _ x hxs hx
      have HS : Hid (xsum (l.take (k + 1)) = xsum (l.take k) ^^^ x) := by
        show _ = _
        rw [List.take_add_one, hx2]; exact xsum_snoc _ _
      have HR : Hid (l.reverse.take (k + 1) = l.reverse.take k ++ [y]) := by
        show _ = _
        rw [take_reverse_succ l k (by rw [hll.out]; exact hlt), hll.out, hyd]
      clear hx2 hyd
      have hsz := hbel.size
      go_wp2_with (at_builtin; refine wp_app rfl (.tmp 24) (.tmp 33) rfl w.heap.size _ _ rfl (hown.alloc _) (some ⟨wr.heap.size, 0, none⟩) 1 1 [y] rfl ?h1 ?h2 ?h3 ?h4)
      case h1 => exact bytes_one _ _ y 5 rfl hy
      case h2 => simp; omega
      case h3 => simp; omega
      case h4 =>
        intro v' w1 hown' hgrow
        have hb2 : Below w.heap.size w w1 := (hbel.alloc hsz _).grown hgrow (by simp; omega) (fun g hg => (hown.ge g hg).1)
        clear hgrow hown hc hc2 hbel hlr
        go_wp2_with fail
        go_roundw
        case rel => exact ⟨k + 1, by omega, by go_num, by rw [HS.out], by rw [HR.out]; exact hown', hb2⟩
        case measure => simp [intOf]; omega
    · have e : k = n := by omega
      subst e
      have ht : List.take k l = l := List.take_of_length_le (by rw [hll.out]; omega)
      have ht2 : l.reverse.take k = l.reverse := List.take_of_length_le (by rw [List.length_reverse, hll.out]; omega)
      rw [ht2] at hown
      obtain ⟨A2, c2, hv, hb2⟩ := hown.bytes
      rw [List.length_reverse] at hv hb2
      rw [ht, hv]
      clear ht ht2 hv
      have hsum := fun w h => sum_any A2 l.length c2 l.reverse w h
      rw [xsum_reverse] at hsum
      have HSUM := Lib.hid hsum
      clear hsum
      by_cases h0 : k = 0
      · subst h0
        go_wp2_with fail
        refine (sum_any A 0 c l wr hlr).mono ?_
        rintro e w' ⟨rfl, rfl⟩
        go_wp2_with fail
        refine (HSUM.out wr hb2).mono ?_
        rintro e w' ⟨rfl, rfl⟩
        go_wp2_with fail
        refine (awake4 wr).mono ?_
        rintro e w' ⟨rfl, hbel2⟩
        go_wp2_with fail
        go_ret
        exact ⟨rfl, hbel.trans (hbel2.mono hbel.size)⟩
      · have hm0 := Int.emod_nonneg t (show (k : Int) ≠ 0 by omega)
        have hm1 := Int.emod_lt_of_pos t (show (0 : Int) < (k : Int) by omega)
        have hne : ((k : Int) == 0) = false := by simpa using h0
        obtain ⟨q, hq⟩ := Int.eq_ofNat_of_zero_le hm0
        rw [hq] at hm0 hm1
        have hqk : q < k := by omega
        have hrd := fun w => round_any t (k : Int) (by omega) (by omega) w
        rw [hq] at hrd
        have HRD := Lib.hid hrd
        clear hrd hq
        obtain ⟨ad, x, rfl, _, hx, hx2, hc⟩ := hlr.at_ hqk
        go_wp2_with fail
        refine (sum_any (some ad) k c l wr hlr).mono ?_
        rintro e w' ⟨rfl, rfl⟩
        go_wp2_with fail
        refine (HSUM.out wr hb2).mono ?_
        rintro e w' ⟨rfl, rfl⟩
        have hown0 : Own (wr.alloc (.cells #[] 5)) w.heap.size (.slice (some ⟨wr.heap.size, 0, none⟩) 0 0) [] :=
          ⟨World.ownsRow_lit wr #[] 0 hbel.size (by unfold maxLen; omega) rfl, by simp, by simp⟩
        have hsz := hbel.size
        go_wp2_with (at_builtin; refine wp_app rfl (.tmp 49) (.tmp 50) rfl w.heap.size _ [] rfl hown0 (some ad) k c l rfl ?h1 ?h2 ?h3 ?h4)
        case h1 => exact hlr.alloc _
        case h2 => simp; omega
        case h3 => simp; omega
        case h4 =>
          intro v1 w1 hown1 hg1
          have hb1 : Below w.heap.size w w1 := (hbel.alloc hsz _).grown hg1 (by simp; omega) (fun g hg => (hown0.ge g hg).1)
          have hl1 := hl.below hb1
          obtain ⟨ad', x', hA, hxd, _, _, hc1⟩ := hl1.at_ hqk
          cases hA
          rw [show x' = x from hxd.symm.trans ‹l.getD q 0 = x›] at hc1
          clear hown0 hg1 hxd hown hb2 hbel hlr hc
          have hs1 := hb1.size
          go_wp2_with fail
          refine (HRD.out w1).mono ?_
          rintro e w' ⟨rfl, rfl⟩
          go_wp2_with (at_builtin; refine wp_app rfl (.tmp 51) (.tmp 59) rfl w.heap.size _ _ rfl (hown1.alloc _) (some ⟨w1.heap.size, 0, none⟩) 1 1 [x] rfl ?k1 ?k2 ?k3 ?k4)
          case k1 => exact bytes_one _ _ x 5 rfl hx
          case k2 => rw [hll.out]; omega
          case k3 => simp; omega
          case k4 =>
            intro v2 w2 hown2 hg2
            have hb2 : Below w.heap.size w w2 := (hb1.alloc hs1 _).grown hg2 (by simp; omega) (fun g hg => (hown1.ge g hg).1)
            have hl2 := hl.below hb2
            obtain ⟨ad', x', hA, hxd, _, _, hc2⟩ := hl2.at_ hqk
            cases hA
            rw [show x' = x from hxd.symm.trans ‹l.getD q 0 = x›] at hc2
            obtain ⟨A3, c3, hv, hb3⟩ := hown2.bytes
            have hlen : (l ++ [x]).length = k + 1 := by rw [List.length_append, hll.out]; rfl
            rw [hlen] at hv hb3
            rw [hv]
            have hxs : xsum l < 256 := xsum_lt _ hl.2.2.1
            have hxr := u8_xor_nat (xsum l) x hxs hx
            clear hv hown2 hg2 hown1 hxd hlen hc1 hl1 hb1 hs1
            go_wp2_with fail
            refine (sum_any A3 (k + 1) c3 (l ++ [x]) w2 hb3).mono ?_
            rw [xsum_snoc]
            rintro e w' ⟨rfl, rfl⟩
            go_wp2_with fail
            refine (HRD.out w2).mono ?_
            rintro e w' ⟨rfl, rfl⟩
            go_wp2_with fail
            refine (awake4 w2).mono ?_
            rintro e w' ⟨rfl, hbel2⟩
            go_wp2_with fail
            go_ret
            exact ⟨rfl, hb2.trans (hbel2.mono hb2.size)⟩
theorem fieldSums_walk {w : World} (A : Option Addr) (n c : Nat) (l : List Nat) (_hc : n ≤ c) (hl : Bytes w A n l) (t : Int) (_h0 : -9223372036854775808 ≤ t) (_h1 : t ≤ 9223372036854775807) :
    Calls Try.prog 5 #[.slice A n c, .int .i64 t] w fun e w' => e = .returned (.bool true) ∧ Below w.heap.size w w' := by
  by_cases h : n ≤ 100
  · exact sums_short A n c l t w h hl
  · exact sums_long A n c t w (by omega)
end Go.Proofs.Ytibfihjcjohadaa
