/-
  Plain mathematics: the words of two known keys and what a known block is encrypted to. Closed facts, by steps.
-/
import Derived.Test.YtibfihjcjohadaaPAes
namespace Go.Proofs.Ytibfihjcjohadaa.Aes
open Fld Sbx
theorem sched_take {n : Nat} {l F : List Nat} (h0 : F.take n = l) (K : Nat) (hF : F.length = n + K) (h : ((List.range K).all fun k => nextW n (F.take (n + k)) == F.getD (n + k) 0) = true) :
    ∀ k, k ≤ K → sched n l k = F.take (n + k)
  | 0, _ => h0.symm
  | k + 1, hk => by
    have e := eq_of_beq (List.all_eq_true.mp h k (List.mem_range.mpr (by omega)))
    rw [sched, sched_take h0 K hF h k (by omega), e, show n + (k + 1) = (n + k) + 1 by omega, List.take_add_one, List.getD_eq_getElem?_getD]
    rw [List.getElem?_eq_getElem (by omega)]
    rfl
theorem encR_steps {W f : Nat → Nat} {N : Nat} (S : List (List Nat)) (h0 : ((List.range 16).all fun i => addF W 0 f i == (S.getD 0 []).getD i 0) = true)
    (h : ((List.range N).all fun r => (List.range 16).all fun i => addF W (r + 1) (fwd N (r + 1) (fun i => (S.getD r []).getD i 0)) i == (S.getD (r + 1) []).getD i 0) = true) :
    ∀ r, r ≤ N → ∀ i, i < 16 → encR W N f r i = (S.getD r []).getD i 0
  | 0, _, i, hi => eq_of_beq (all16 h0 hi)
  | r + 1, hr, i, hi => by
    have e := eq_of_beq (all16 (List.all_eq_true.mp h r (List.mem_range.mpr (by omega))) hi)
    rw [← e]
    exact addF_congr (fun _ hj => fwd_congr (encR_steps S h0 h r (by omega)) hj) hi
/-- the known block -/
def blk (i : Nat) : Nat := if i < 16 then 17 * i else 0
def kw16 : List Nat := [66051, 67438087, 134810123, 202182159, 3601495293, 3534713594, 3668343025, 3601561342, 3063074571, 1681767921, 3197879552, 1748022270, 3070194766, 3535980991, 1817775295, 74039105, 1207433148, 2503294467, 4184617660, 4244999677, 1017816040, 2845810155, 1358147415, 2918589098, 1580797821, 4154888854, 2807381441, 178462571, 351891482, 3814711948, 1141563213, 1319747622, 1195607861, 2753324473, 3759586036, 2931784402, 1419326161, 4035270504, 278130076, 3190593358, 319888767, 3818146327, 4077365131, 1294676165]
def ks16 : List (List Nat) := [[0, 16, 32, 48, 64, 80, 96, 112, 128, 144, 160, 176, 192, 208, 224, 240], [137, 216, 16, 232, 133, 90, 206, 104, 45, 24, 67, 216, 203, 18, 143, 228], [73, 21, 89, 143, 85, 229, 215, 160, 218, 202, 148, 250, 31, 10, 99, 247], [250, 99, 106, 40, 37, 179, 57, 201, 64, 102, 138, 49, 87, 36, 77, 23], [36, 114, 64, 35, 105, 102, 179, 250, 110, 210, 117, 50, 136, 66, 91, 108], [200, 22, 119, 188, 155, 122, 201, 59, 37, 2, 121, 146, 176, 38, 25, 150], [198, 47, 225, 9, 247, 94, 237, 195, 204, 121, 57, 93, 132, 249, 207, 93], [209, 135, 108, 15, 121, 196, 48, 10, 180, 85, 148, 173, 214, 111, 244, 31], [253, 227, 186, 210, 5, 229, 208, 215, 53, 71, 150, 78, 241, 254, 55, 241], [189, 110, 124, 61, 242, 181, 119, 158, 11, 97, 33, 110, 139, 16, 182, 137], [105, 196, 224, 216, 106, 123, 4, 48, 216, 205, 183, 128, 112, 180, 197, 90]]
theorem words16 : words (List.range 16) = kw16 := by
  unfold words
  rw [show (List.range 16).length / 4 = 4 from by decide, show 4 * (4 + 7) - 4 = 40 from rfl, sched_take (F := kw16) (by decide +kernel) 40 (by decide +kernel) (by decide +kernel) 40 (Nat.le_refl _)]
  decide +kernel
theorem enc16 (i : Nat) (hi : i < 16) : encR (fun i => kw16.getD i 0) 10 blk 10 i = (ks16.getD 10 []).getD i 0 :=
  encR_steps ks16 (by decide +kernel) (by decide +kernel) 10 (Nat.le_refl _) i hi
def kw32 : List Nat := [66051, 67438087, 134810123, 202182159, 269554195, 336926231, 404298267, 471670303, 2775827103, 2708915352, 2843725459, 2775761052, 374450381, 38059738, 442344641, 104905438, 2928140272, 267459432, 2794378747, 66852199, 1843523912, 1873104786, 1979247443, 1941459341, 3327558271, 3383204119, 1864977644, 1825921419, 1038236277, 1380414951, 666869428, 1409797945, 199004255, 3262843208, 2907850148, 3246857263, 1173726816, 397595527, 806178099, 1678410250, 2094003996, 3199532628, 333888496, 3529615327, 4028300030, 3886557561, 3617940554, 3014649408, 625081969, 2616524837, 2282994645, 1517427722, 1314547353, 2851229664, 2119642026, 3455634922, 620526028, 3205069289, 924500540, 1835589174]
def ks32 : List (List Nat) := [[0, 16, 32, 48, 64, 80, 96, 112, 128, 144, 160, 176, 192, 208, 224, 240], [79, 99, 118, 6, 67, 224, 170, 133, 239, 167, 33, 50, 1, 164, 231, 5], [24, 89, 251, 194, 138, 28, 0, 160, 120, 237, 138, 173, 196, 47, 97, 9], [151, 92, 102, 193, 203, 159, 63, 168, 169, 58, 40, 223, 142, 225, 15, 99], [28, 5, 242, 113, 164, 23, 224, 79, 249, 33, 197, 193, 4, 112, 21, 84], [195, 87, 170, 225, 27, 69, 183, 176, 162, 199, 189, 40, 168, 220, 153, 250], [127, 7, 65, 67, 203, 78, 36, 62, 193, 12, 129, 93, 131, 117, 213, 76], [214, 83, 164, 105, 108, 160, 188, 15, 90, 202, 171, 93, 185, 108, 94, 125], [90, 168, 88, 57, 95, 210, 141, 125, 5, 225, 163, 136, 104, 243, 185, 197], [74, 130, 72, 81, 197, 126, 126, 71, 100, 61, 229, 12, 42, 243, 232, 201], [193, 73, 7, 246, 202, 59, 58, 160, 112, 233, 170, 49, 59, 82, 181, 236], [95, 156, 106, 191, 186, 198, 52, 170, 80, 64, 159, 167, 102, 103, 118, 83], [81, 102, 4, 149, 67, 83, 149, 3, 20, 251, 134, 228, 1, 146, 37, 33], [98, 123, 206, 185, 153, 157, 90, 170, 201, 69, 236, 244, 35, 245, 109, 165], [142, 162, 183, 202, 81, 103, 69, 191, 234, 252, 73, 144, 75, 73, 96, 137]]
theorem words32 : words (List.range 32) = kw32 := by
  unfold words
  rw [show (List.range 32).length / 4 = 8 from by decide, show 4 * (8 + 7) - 8 = 52 from rfl, sched_take (F := kw32) (by decide +kernel) 52 (by decide +kernel) (by decide +kernel) 52 (Nat.le_refl _)]
  decide +kernel
theorem enc32 (i : Nat) (hi : i < 16) : encR (fun i => kw32.getD i 0) 14 blk 14 i = (ks32.getD 14 []).getD i 0 :=
  encR_steps ks32 (by decide +kernel) (by decide +kernel) 14 (Nat.le_refl _) i hi
end Go.Proofs.Ytibfihjcjohadaa.Aes
