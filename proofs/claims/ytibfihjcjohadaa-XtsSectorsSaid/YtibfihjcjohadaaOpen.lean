/-
  How the arguments of a law read: bytes, words, whole numbers, rows of bytes. No condition.
-/
import Derived.Test.YtibfihjcjohadaaProg
import Derived.Test.YtibfihjcjohadaaMB
import Derived.ProofKit
import Derived.OpenShut
import Derived.Deep.Matrix
namespace Go.Proofs.Ytibfihjcjohadaa
open Go.ChangeShapes Go.WideShapes Go.ChangeAt Go.RowKit

theorem u8_of_wf {a : Int} (h : (Lit.int .u8 a).wf = true) : ∃ n : Nat, a = (n : Int) ∧ n < 256 := by
  have := bounds_u8 h
  exact ⟨a.toNat, by omega, by omega⟩
theorem u32_of_wf {a : Int} (h : (Lit.int .u32 a).wf = true) : ∃ n : Nat, a = (n : Int) ∧ n < 4294967296 := by
  have := bounds_u32 h
  exact ⟨a.toNat, by omega, by omega⟩
theorem i64_of_wf {a : Int} (h : (Lit.int .i64 a).wf = true) : -9223372036854775808 ≤ a ∧ a ≤ 9223372036854775807 := by
  have := bounds_i64 h
  omega

theorem bytes_of_trod {H : Type} {enc : TypeId × Value → H} {W : World} {a : Option Addr} {len cap : Nat} {d : DataW H} {p : List MemPlace} {s : Nat → Bool} {k : Bool} {B : Nat}
    (h : DataW.Trod enc Try.prog W B s k 29 (.slice a len cap) d p) : ∃ l, len ≤ cap ∧ Bytes W a len l := by
  obtain ⟨fuel, hf⟩ := h
  rcases open_ints Try.underlying29 Try.underlying5 (by kernel_rfl) hf with ⟨hcs, _⟩ | ⟨x, l, c, zs, hcs, _, hl, hm, hz, _, hcell, hwz⟩
  · simp [Value.cells] at hcs
    obtain ⟨rfl, rfl, rfl⟩ := hcs
    exact ⟨[], Nat.le_refl _, bytes_nil _⟩
  · simp [Value.cells] at hcs
    obtain ⟨rfl, rfl, rfl⟩ := hcs
    have hlz : len ≤ zs.length := by rw [hz]; split <;> omega
    refine ⟨(zs.take len).map Int.toNat, hl, by simp; omega, by omega, ?_, fun _ => ⟨x, rfl, fun j hj => ?_⟩⟩
    · intro y hy
      obtain ⟨z, hz', rfl⟩ := List.mem_map.mp hy
      have := bounds_u8 (hwz z (List.mem_of_mem_take hz'))
      omega
    · have hjz : j < zs.length := by omega
      have hc := hcell j hjz
      have hb := bounds_u8 (hwz zs[j] (List.getElem_mem hjz))
      rw [hc]
      congr 2
      simp [List.getD, List.getElem?_map, hj, List.getElem?_eq_getElem hjz]
      omega
end Go.Proofs.Ytibfihjcjohadaa
