/-
  The walks of Encrypt and Decrypt of no cipher: a block stays what it is.
-/
import Derived.Test.YtibfihjcjohadaaAesD
namespace Go.Proofs.Ytibfihjcjohadaa
open Go.RowKit Go.Op
set_option maxRecDepth 100000 in
theorem encrypt_nil (f : Nat → Nat) (w : World) :
    Calls Try.prog 61 #[.pointer none, .agg (bv f)] w fun e w' => e = .returned (.agg (bv f)) ∧ Below w.heap.size w w' := by
  have ha0 : Arr ((w.alloc (.cells (bv f) 36)).alloc (.cells #[.int .u8 0, .int .u8 0, .int .u8 0, .int .u8 0, .int .u8 0, .int .u8 0, .int .u8 0, .int .u8 0, .int .u8 0, .int .u8 0, .int .u8 0, .int .u8 0, .int .u8 0, .int .u8 0, .int .u8 0, .int .u8 0] 36)) w.heap.size f := (Arr.new _ _ _ rfl).alloc _
  have hz0 : Arr ((w.alloc (.cells (bv f) 36)).alloc (.cells #[.int .u8 0, .int .u8 0, .int .u8 0, .int .u8 0, .int .u8 0, .int .u8 0, .int .u8 0, .int .u8 0, .int .u8 0, .int .u8 0, .int .u8 0, .int .u8 0, .int .u8 0, .int .u8 0, .int .u8 0, .int .u8 0] 36)) (w.heap.size + 1) (fun _ => 0) := Arr.zero _ _ (by simp)
  have hb0 : Below w.heap.size w ((w.alloc (.cells (bv f) 36)).alloc (.cells #[.int .u8 0, .int .u8 0, .int .u8 0, .int .u8 0, .int .u8 0, .int .u8 0, .int .u8 0, .int .u8 0, .int .u8 0, .int .u8 0, .int .u8 0, .int .u8 0, .int .u8 0, .int .u8 0, .int .u8 0, .int .u8 0] 36)) := ((Below.refl _ _).alloc (Nat.le_refl _) _).alloc (by simp) _
  go_enter Try.func61, Try.ntmps61
  go_wp2_with fail
  revert ha0 hz0 hb0
  generalize (w.alloc (.cells (bv f) 36)).alloc (.cells #[.int .u8 0, .int .u8 0, .int .u8 0, .int .u8 0, .int .u8 0, .int .u8 0, .int .u8 0, .int .u8 0, .int .u8 0, .int .u8 0, .int .u8 0, .int .u8 0, .int .u8 0, .int .u8 0, .int .u8 0, .int .u8 0] 36) = w1
  intro ha0 hz0 hb0
  refine (rounds_nil w1).mono ?_
  rintro e w' ⟨rfl, rfl⟩
  go_wp2_with (first
    | ((with_reducible show wpList _ _ _ (⟨some 13, Op.load 36 (.tmp 3), _, _, _, _⟩ :: _) _ _); refine wp_load_arr rfl (.tmp 3) rfl (w.heap.size) (f) rfl (ha0) ?_)
    | ((with_reducible show wpList _ _ _ (⟨_, Op.store 36 (.tmp 4) (.tmp 13), _, _, _, _⟩ :: _) _ _); refine wp_store_arr rfl (.tmp 4) (.tmp 13) rfl (w.heap.size + 1) (fun _ => 0) (f) rfl rfl (hz0) ?_))
  exact bodyPost_ret (results_arr rfl _ _ (w.heap.size + 1) f rfl hz0.setRow) rfl ⟨rfl, below_setRow hb0 (by omega) _⟩
set_option maxRecDepth 100000 in
theorem decrypt_nil (f : Nat → Nat) (w : World) :
    Calls Try.prog 60 #[.pointer none, .agg (bv f)] w fun e w' => e = .returned (.agg (bv f)) ∧ Below w.heap.size w w' := by
  have ha0 : Arr ((w.alloc (.cells (bv f) 36)).alloc (.cells #[.int .u8 0, .int .u8 0, .int .u8 0, .int .u8 0, .int .u8 0, .int .u8 0, .int .u8 0, .int .u8 0, .int .u8 0, .int .u8 0, .int .u8 0, .int .u8 0, .int .u8 0, .int .u8 0, .int .u8 0, .int .u8 0] 36)) w.heap.size f := (Arr.new _ _ _ rfl).alloc _
  have hz0 : Arr ((w.alloc (.cells (bv f) 36)).alloc (.cells #[.int .u8 0, .int .u8 0, .int .u8 0, .int .u8 0, .int .u8 0, .int .u8 0, .int .u8 0, .int .u8 0, .int .u8 0, .int .u8 0, .int .u8 0, .int .u8 0, .int .u8 0, .int .u8 0, .int .u8 0, .int .u8 0] 36)) (w.heap.size + 1) (fun _ => 0) := Arr.zero _ _ (by simp)
  have hb0 : Below w.heap.size w ((w.alloc (.cells (bv f) 36)).alloc (.cells #[.int .u8 0, .int .u8 0, .int .u8 0, .int .u8 0, .int .u8 0, .int .u8 0, .int .u8 0, .int .u8 0, .int .u8 0, .int .u8 0, .int .u8 0, .int .u8 0, .int .u8 0, .int .u8 0, .int .u8 0, .int .u8 0] 36)) := ((Below.refl _ _).alloc (Nat.le_refl _) _).alloc (by simp) _
  go_enter Try.func60, Try.ntmps60
  go_wp2_with fail
  revert ha0 hz0 hb0
  generalize (w.alloc (.cells (bv f) 36)).alloc (.cells #[.int .u8 0, .int .u8 0, .int .u8 0, .int .u8 0, .int .u8 0, .int .u8 0, .int .u8 0, .int .u8 0, .int .u8 0, .int .u8 0, .int .u8 0, .int .u8 0, .int .u8 0, .int .u8 0, .int .u8 0, .int .u8 0] 36) = w1
  intro ha0 hz0 hb0
  refine (rounds_nil w1).mono ?_
  rintro e w' ⟨rfl, rfl⟩
  go_wp2_with (first
    | ((with_reducible show wpList _ _ _ (⟨some 13, Op.load 36 (.tmp 3), _, _, _, _⟩ :: _) _ _); refine wp_load_arr rfl (.tmp 3) rfl (w.heap.size) (f) rfl (ha0) ?_)
    | ((with_reducible show wpList _ _ _ (⟨_, Op.store 36 (.tmp 4) (.tmp 13), _, _, _, _⟩ :: _) _ _); refine wp_store_arr rfl (.tmp 4) (.tmp 13) rfl (w.heap.size + 1) (fun _ => 0) (f) rfl rfl (hz0) ?_))
  exact bodyPost_ret (results_arr rfl _ _ (w.heap.size + 1) f rfl hz0.setRow) rfl ⟨rfl, below_setRow hb0 (by omega) _⟩
end Go.Proofs.Ytibfihjcjohadaa
