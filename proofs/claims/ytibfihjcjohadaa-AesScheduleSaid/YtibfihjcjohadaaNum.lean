/-
  The walks of tweak.Number and of prioryalike.Block; when two blocks are equal. Condition: bytes in memory read as bytes.
-/
import Derived.Test.YtibfihjcjohadaaTimes
import Derived.Test.YtibfihjcjohadaaAlike
namespace Go.Proofs.Ytibfihjcjohadaa
open Go.RowKit Go.Op
open Twk (byt dbl hlv tm byt_lt dbl_lt hlv_lt tm_lt up down)
theorem run_part (f : Nat → Nat) {k : Nat} (hk : k < 16) (w : World) : (part 5 (bv f) k).run Try.prog w = .ok (.int .u8 ((f k : Nat) : Int)) w := by
  have hb := bv_get (f := f) hk
  unfold part
  simp [isAgg, run_underlying Try.underlying5, hb]
theorem run_all (f g : Nat → Nat) (w : World) (B : Nat → Option Bool × Unit → Sem (ForInStep (Option Bool × Unit))) :
    ∀ l : List Nat, (∀ i ∈ l, ∀ s, (B i s).run Try.prog w = .ok (if (f i == g i) = true then .yield (none, ()) else .done (some false, ())) w) →
      (forIn l (none, ()) B).run Try.prog w = .ok (if (l.all fun i => f i == g i) = true then (none, ()) else (some false, ())) w := by
  intro l
  induction l with
  | nil => intro _; simp
  | cons i l ih =>
    intro h
    rw [List.forIn_cons, Sem.run_bind, h i (by simp)]
    by_cases e : (f i == g i) = true
    · rw [if_pos e, Result.andThen_ok]
      simp only [List.all_cons, e, Bool.true_and]
      exact ih (fun j hj => h j (by simp [hj]))
    · rw [if_neg e, Result.andThen_ok]
      simp [e]
theorem run_eq16 (d : Nat) (f g : Nat → Nat) (w : World) : (Op.equalIn (d + 2) 36 (.agg (bv f)) (.agg (bv g))).run Try.prog w = .ok ((List.range 16).all fun i => f i == g i) w := by
  obtain ⟨i5, hi, hz0, hz1, hz2⟩ := info_parts try_info5
  unfold Op.equalIn
  simp only [Sem.run_bind, run_underlying Try.underlying36, Result.andThen_ok, sizeOf, typeInfo, run_program, hi, hz1, Sem.run_pure]
  rw [Std.Legacy.Range.forIn_eq_forIn_range']
  rw [run_all f g w _ _ ?_]
  · rw [show List.range' 0 (Std.Legacy.Range.size [:16]) 1 = List.range 16 from rfl]
    by_cases e : ((List.range 16).all fun i => f i == g i) = true
    · rw [if_pos e, e]; simp
    · have e' : ((List.range 16).all fun i => f i == g i) = false := by simpa using e
      rw [if_neg e, e']; simp
  · intro i hi s
    have h16 : i < 16 := by
      have := List.mem_range'_1.mp hi
      simp [Std.Legacy.Range.size] at this; omega
    have hb : ((((f i : Nat) : Int)) == ((g i : Nat) : Int)) = (f i == g i) := eq_lit _ _
    simp only [Nat.mul_one, Sem.run_bind, run_part f h16, run_part g h16, Result.andThen_ok, run_equalIn_int _ d 5 .u8 .u8 _ _ Try.underlying5, hb]
    cases f i == g i <;> simp
theorem all_self (f : Nat → Nat) : ((List.range 16).all fun i => f i == f i) = true := by simp
theorem run_same (f : Nat → Nat) (w : World) : (Op.equalIn 10000 36 (.agg (bv f)) (.agg (bv f))).run Try.prog w = .ok true w := by
  rw [run_eq16 9998 f f w, all_self]
theorem guard36 : Try.prog.eqGuardType Try.prog.depth 36 = false := by kernel_rfl
/-- a block's number, out of its bytes -/
def numF (f : Nat → Nat) : Nat → Nat
  | 0 => 0
  | k + 1 => numF f k + f k * 256 ^ k
theorem numF_lt {f : Nat → Nat} (hf : ∀ i, f i < 256) (k : Nat) : numF f k < 256 ^ k := by
  induction k with
  | zero => simp [numF]
  | succ k ih =>
    have h1 : f k * 256 ^ k ≤ 255 * 256 ^ k := Nat.mul_le_mul_right _ (by have := hf k; omega)
    rw [numF, Nat.pow_succ]
    omega
theorem byt_numF {f : Nat → Nat} (hf : ∀ i, f i < 256) (k i : Nat) (hi : i < k) : byt (numF f k) i = f i := by
  induction k with
  | zero => omega
  | succ k ih =>
    rw [numF]
    unfold byt
    by_cases h : i = k
    · subst h
      rw [Nat.add_mul_div_right _ _ (Nat.pow_pos (by decide)), Nat.div_eq_of_lt (numF_lt hf i), Nat.zero_add, Nat.mod_eq_of_lt (hf i)]
    · have e : f k * 256 ^ k = 256 ^ i * (256 * (f k * 256 ^ (k - 1 - i))) := by
        have : (256 : Nat) ^ k = 256 ^ i * (256 * 256 ^ (k - 1 - i)) := by
          rw [← Nat.pow_succ', ← Nat.pow_add]; congr 1; omega
        rw [this]; ac_rfl
      rw [e, Nat.add_mul_div_left _ _ (Nat.pow_pos (by decide)), Nat.add_mul_mod_self_left]
      exact ih (by omega)
theorem byt_ext {a b : Nat} (ha : a < 2 ^ 128) (hb : b < 2 ^ 128) (h : ∀ i, i < 16 → byt a i = byt b i) : a = b := by
  have key : ∀ k, k ≤ 16 → a % 256 ^ k = b % 256 ^ k := by
    intro k
    induction k with
    | zero => intro _; simp [Nat.mod_one]
    | succ k ih =>
      intro hk
      have h1 := h k (by omega)
      unfold byt at h1
      rw [Nat.pow_succ, Nat.mod_mul, Nat.mod_mul, ih (by omega), h1]
  have := key 16 (Nat.le_refl _)
  rwa [show (256 : Nat) ^ 16 = 2 ^ 128 from by decide, Nat.mod_eq_of_lt ha, Nat.mod_eq_of_lt hb] at this
theorem blk_numF {f : Nat → Nat} (hf : ∀ i, f i < 256) : blk (numF f 16) = bv f := bv_congr (fun i hi => byt_numF hf 16 i hi)
theorem numF_lt16 {f : Nat → Nat} (hf : ∀ i, f i < 256) : numF f 16 < 2 ^ 128 := by
  have := numF_lt hf 16
  rwa [show (256 : Nat) ^ 16 = 2 ^ 128 from by decide] at this

theorem Arr.set_val {w : World} {g k x : Nat} {f : Nat → Nat} {u : Value} (h : Arr w g f) (hu : u = .int .u8 (x : Int)) : Arr (w.setCell ⟨g, k, none⟩ u) g (upd f k x) := by subst hu; exact h.set
set_option maxRecDepth 100000 in
set_option maxHeartbeats 1000000 in
theorem number_nat (N : Nat) (hN : N < 9223372036854775808) (w : World) :
    Calls Try.prog 45 #[.int .i64 (N : Int)] w fun e w' => e = .returned (.agg (blk N)) ∧ Below w.heap.size w w' := by
  have HNN := Lib.hid hN
  clear hN
  go_enter Try.func45, Try.ntmps45
  go_wp2_with fail
  go_loopw [0, 3] (fun n i wr => ∃ (k m : Nat) (h : Nat → Nat), i = .int .i64 (k : Int) ∧ n = .int .i64 (m : Int) ∧ k ≤ 8 ∧ m ≤ 9223372036854775807 ∧ Hid (m = N / 256 ^ k ∧ (∀ j, j < k → h j = byt N j) ∧ ∀ j, k ≤ j → h j = 0) ∧ Arr wr w.heap.size h ∧ Below w.heap.size w wr) (fun n _ _ => (intOf n).toNat)
  case atStart => exact ⟨0, N, _, rfl, rfl, by omega, by have := HNN.out; omega, Lib.hid ⟨by simp, fun j hj => absurd hj (by omega), fun _ _ => rfl⟩, Arr.zero _ _ rfl, (Below.refl _ _).alloc (Nat.le_refl _) _⟩
  case round =>
    obtain ⟨k, m, h, rfl, rfl, hk, hm, H, ha, hbel⟩ := hrel
    by_cases h0 : m = 0
    · subst h0
      have he : Arr wr w.heap.size (byt N) := by
        obtain ⟨h1, h2, h3⟩ := H.out
        refine ha.congr (fun j hj => ?_)
        by_cases hjk : j < k
        · exact h2 j hjk
        · rw [h3 j (by omega)]
          unfold byt
          have hd : N / 256 ^ j = 0 := by
            rw [show 256 ^ j = 256 ^ k * 256 ^ (j - k) by rw [← Nat.pow_add]; congr 1; omega, ← Nat.div_div_eq_div_mul, ← h1, Nat.zero_div]
          rw [hd]
      clear ha H h
      go_wp2_with (first
        | ((with_reducible show wpList _ _ _ _ _ _); refine wp_load_arr rfl (.tmp 2) rfl w.heap.size (byt N) rfl he ?_)
        | ((with_reducible show wpList _ _ _ _ _ _); refine wp_store_arr rfl (.tmp 2) (.tmp 14) rfl w.heap.size (byt N) (byt N) rfl rfl he ?_))
      exact bodyPost_ret (results_arr rfl _ _ w.heap.size (byt N) rfl he.setRow) rfl ⟨rfl, below_setRow hbel (by omega) _⟩
    · have hk8 : k < 8 := by
        rcases Nat.lt_or_ge k 8 with h | h
        · exact h
        · have hN := HNN.out
          have h1 := H.out.1
          have : k = 8 := by omega
          rw [this, Nat.div_eq_of_lt (by omega)] at h1
          omega
      have hcell := ha.cell (show k < 16 by omega)
      have hfree := ha.free k
      have hpos : 0 < (m : Int) := by omega
      go_wp2_with fail
      go_roundw
      case rel =>
        refine ⟨k + 1, m / 256, upd h k (m % 256), by go_num, val_int (by omega), by omega, by omega, Lib.hid ?_, Arr.set_val (x := m % 256) ha (by rw [Int.natCast_emod]; rfl), hbel.setCell (by simp) _⟩
        obtain ⟨h1, h2, h3⟩ := H.out
        refine ⟨by rw [h1, Nat.div_div_eq_div_mul, Nat.pow_succ], fun j hj => ?_, fun j hj => ?_⟩
        · unfold upd
          split
          · rename_i e; rw [e, h1]; rfl
          · exact h2 j (by omega)
        · unfold upd
          rw [if_neg (by omega)]; exact h3 j (by omega)
      case measure => simp [intOf]; omega
set_option maxRecDepth 100000 in
set_option maxHeartbeats 400000 in
theorem number_neg (n : Int) (hn : n < 0) (w : World) :
    Calls Try.prog 45 #[.int .i64 n] w fun e w' => e = .returned (.agg (blk 0)) ∧ Below w.heap.size w w' := by
  go_enter Try.func45, Try.ntmps45
  go_wp2_with fail
  go_loopw [0, 3] (fun m i wr => m = .int .i64 n ∧ i = .int .i64 0 ∧ Arr wr w.heap.size (fun _ => 0) ∧ Below w.heap.size w wr) (fun _ _ _ => 0)
  case atStart => exact ⟨rfl, rfl, Arr.zero _ _ rfl, (Below.refl _ _).alloc (Nat.le_refl _) _⟩
  case round =>
    obtain ⟨rfl, rfl, he0, hbel⟩ := hrel
    have he : Arr wr w.heap.size (byt 0) := he0.congr (fun i _ => by simp [byt])
    clear he0
    go_wp2_with (first
      | ((with_reducible show wpList _ _ _ _ _ _); refine wp_load_arr rfl (.tmp 2) rfl w.heap.size (byt 0) rfl he ?_)
      | ((with_reducible show wpList _ _ _ _ _ _); refine wp_store_arr rfl (.tmp 2) (.tmp 14) rfl w.heap.size (byt 0) (byt 0) rfl rfl he ?_))
    exact bodyPost_ret (results_arr rfl _ _ w.heap.size (byt 0) rfl he.setRow) rfl ⟨rfl, below_setRow hbel (by omega) _⟩
theorem number_any (n : Int) (hn : n ≤ 9223372036854775807) (w : World) :
    Calls Try.prog 45 #[.int .i64 n] w fun e w' => e = .returned (.agg (blk n.toNat)) ∧ Below w.heap.size w w' := by
  by_cases h : n < 0
  · rw [show n.toNat = 0 by omega]; exact number_neg n h w
  · obtain ⟨N, rfl⟩ := Int.eq_ofNat_of_zero_le (show 0 ≤ n by omega)
    exact number_nat N (by omega) w
/-- the bytes of a list, as far as they go, as a block -/
def ofL (l : List Nat) (i : Nat) : Nat := l.getD i 0
theorem ofL_lt {l : List Nat} (h : ∀ x ∈ l, x < 256) (i : Nat) : ofL l i < 256 := by
  unfold ofL
  by_cases hi : i < l.length
  · simp [List.getD, List.getElem?_eq_getElem hi]; exact h _ (List.getElem_mem hi)
  · simp [List.getD, List.getElem?_eq_none (show l.length ≤ i by omega)]
set_option maxRecDepth 100000 in
set_option maxHeartbeats 1000000 in
theorem block_walk (A : Option Addr) (n c : Nat) (l : List Nat) (w : World) (hl : Bytes w A n l) :
    Calls Try.prog 38 #[.slice A n c] w fun e w' => e = .returned (.agg (bv (ofL l))) ∧ Below w.heap.size w w' := by
  have hlen := hl.len
  go_enter Try.func38, Try.ntmps38
  go_wp2_with fail
  go_loopw [4] (fun i wr => ∃ (k : Nat) (h : Nat → Nat), i = .int .i64 (k : Int) ∧ k ≤ 16 ∧ k ≤ n ∧ Hid (∀ j, j < 16 → h j = if j < k then ofL l j else 0) ∧ Arr wr w.heap.size (fun _ => 0) ∧ Arr wr (w.heap.size + 1) h ∧ Below w.heap.size w wr) (fun i _ => 16 - (intOf i).toNat)
  case atStart => exact ⟨0, _, rfl, by omega, by omega, Lib.hid (fun j hj => rfl), (Arr.zero _ _ rfl).alloc _, Arr.zero _ _ (by simp), ((Below.refl _ _).alloc (Nat.le_refl _) _).alloc (by simp) _⟩
  case round =>
    obtain ⟨k, h, rfl, hk, hkn, H, hz, ha, hbel⟩ := hrel
    by_cases hlt : k < 16 ∧ k < n
    · obtain ⟨h16, hn⟩ := hlt
      obtain ⟨ad, x, rfl, hxd, hx, _, hc⟩ := (hl.below hbel).at_ hn
      have HX := Lib.hid hxd
      clear hxd
      have hcell := ha.cell h16
      have hfree := ha.free k
      go_wp2_with fail
      go_roundw
      case rel =>
        refine ⟨k + 1, upd h k x, by go_num, by omega, by omega, Lib.hid (fun j hj => ?_), hz.far (by simp) _, ha.set, hbel.setCell (by simp) _⟩
        unfold upd
        by_cases e : j = k
        · subst e; rw [if_pos rfl, if_pos (by omega)]; exact HX.out.symm
        · rw [if_neg e, H.out j hj]
          by_cases hjk : j < k
          · rw [if_pos hjk, if_pos (by omega)]
          · rw [if_neg hjk, if_neg (by omega)]
      case measure => simp [intOf]; omega
    · have he : Arr wr (w.heap.size + 1) (ofL l) := by
        refine ha.congr (fun j hj => ?_)
        rw [H.out j hj]
        by_cases hjk : j < k
        · rw [if_pos hjk]
        · rw [if_neg hjk]
          unfold ofL
          simp [List.getD, List.getElem?_eq_none (show l.length ≤ j by have := hl.1; omega)]
      clear ha H h
      have hor : k = 16 ∨ (k < 16 ∧ k = n) := by omega
      clear hlt
      rcases hor with hk16 | ⟨hk16, hkn⟩
      all_goals
        first
          | subst hk16
          | (have hge : n ≤ k := by omega
             clear hkn)
        go_wp2_with (first
          | ((with_reducible show wpList _ _ _ _ _ _); refine wp_load_arr rfl (.tmp 3) rfl (w.heap.size + 1) (ofL l) rfl he ?_)
          | ((with_reducible show wpList _ _ _ _ _ _); refine wp_store_arr rfl (.tmp 2) (.tmp 21) rfl w.heap.size (fun _ => 0) (ofL l) rfl rfl hz ?_))
        exact bodyPost_ret (results_arr rfl _ _ w.heap.size (ofL l) rfl hz.setRow) rfl ⟨rfl, below_setRow hbel (by omega) _⟩
end Go.Proofs.Ytibfihjcjohadaa
