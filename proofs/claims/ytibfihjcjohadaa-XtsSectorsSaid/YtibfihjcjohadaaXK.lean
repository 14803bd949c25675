/-
  Plain mathematics: the ends of IEEE 1619's first two vectors; and a row of noughts that is made. Closed facts, by steps.
-/
import Derived.Test.YtibfihjcjohadaaXI
import Derived.Test.YtibfihjcjohadaaPKat2
import Derived.Laws.OwnMore
namespace Go.Proofs.Ytibfihjcjohadaa
open Go.RowKit Go.Op
open Aes (words words_len)
open Twk (byt dbl up byt_lt)
theorem katN (l p e : List Nat) (x v : Nat) (hx : ((List.range 16).all fun i => byt x i == p.getD i 0) = true) (he : ∀ i, i < 16 → encK l (fun i => p.getD i 0) i = e.getD i 0) (hv : v < 2 ^ 128)
    (hve : ((List.range 16).all fun i => byt v i == e.getD i 0) = true) : encN l x = v := by
  refine byt_ext (encN_lt _ _) hv fun i hi => ?_
  rw [encN, byt_numF (encK_lt (byt_lt x)) 16 i hi, eq_of_beq (Aes.all16 hve hi), ← he i hi]
  exact bv_inj (encK_congr fun j hj => eq_of_beq (Aes.all16 hx hj)) i hi
theorem encKZ (f : Nat → Nat) : encK Aes.kbZ f = Aes.encR (fun i => Aes.kwZ.getD i 0) 10 f 10 := by unfold encK; rw [Aes.wordsZ]; rfl
theorem encKC (f : Nat → Nat) : encK Aes.kbC f = Aes.encR (fun i => Aes.kwC.getD i 0) 10 f 10 := by unfold encK; rw [Aes.wordsC]; rfl
theorem encKD (f : Nat → Nat) : encK Aes.kbD f = Aes.encR (fun i => Aes.kwD.getD i 0) 10 f 10 := by unfold encK; rw [Aes.wordsD]; rfl
theorem katZT : encN Aes.kbZ 0 = 61368827288258104251737371505591052646 := katN _ Aes.pbZT Aes.ebZT _ _ (by decide +kernel) (fun i hi => by rw [encKZ]; exact Aes.encZT i hi) (by decide) (by decide +kernel)
theorem katZ0 : encN Aes.kbZ 61368827288258104251737371505591052646 = 250631705478751664928468182656761042423 := katN _ Aes.pbZ0 Aes.ebZ0 _ _ (by decide +kernel) (fun i hi => by rw [encKZ]; exact Aes.encZ0 i hi) (by decide) (by decide +kernel)
theorem katZ1 : encN Aes.kbZ 122737654576516208503474743011182105292 = 152554037021370616309212608030772138241 := katN _ Aes.pbZ1 Aes.ebZ1 _ _ (by decide +kernel) (fun i hi => by rw [encKZ]; exact Aes.encZ1 i hi) (by decide) (by decide +kernel)
theorem katDT : encN Aes.kbD 219902325555 = 221720595410134830620552995095508123711 := katN _ Aes.pbDT Aes.ebDT _ _ (by decide +kernel) (fun i hi => by rw [encKD]; exact Aes.encDT i hi) (by decide) (by decide +kernel)
theorem katC0 : encN Aes.kbC 301119815031802895995211471504006956155 = 60221454807629470904437593594753438971 := katN _ Aes.pbC0 Aes.ebC0 _ _ (by decide +kernel) (fun i hi => by rw [encKC]; exact Aes.encC0 i hi) (by decide) (by decide +kernel)
theorem katC1 : encN Aes.kbC 13125780982357013536823948435742999741 = 251304437894825599140239405766292281346 := katN _ Aes.pbC1 Aes.ebC1 _ _ (by decide +kernel) (fun i hi => by rw [encKC]; exact Aes.encC1 i hi) (by decide) (by decide +kernel)
theorem twN_zero (l : List Nat) (u : Nat) : twN l u 0 = encN l u := rfl
theorem twN_one (l : List Nat) (u : Nat) : twN l u 1 = dbl (encN l u) := rfl
theorem xtL_two (b : Bool) (k1 k2 : List Nat) (u : Nat) (d : List Nat) : xtL b k1 k2 u d 2 = listB (byt (xtB b k1 k2 u d 0)) ++ listB (byt (xtB b k1 k2 u d 1)) := by simp [xtL]
theorem xtB_forth (k1 k2 : List Nat) (u : Nat) (d : List Nat) (i : Nat) : xtB false k1 k2 u d i = encN k1 (datN d i ^^^ twN k2 u i) ^^^ twN k2 u i := by simp [xtB]
def zero32 : List Nat := List.replicate 32 0
def four32 : List Nat := List.replicate 32 68
def end1 : List Nat := [145, 124, 246, 158, 189, 104, 178, 236, 155, 159, 233, 163, 234, 221, 166, 146, 205, 67, 210, 245, 149, 152, 237, 133, 140, 2, 194, 101, 47, 191, 146, 46]
def end2 : List Nat := [196, 84, 24, 94, 106, 22, 147, 110, 57, 51, 64, 56, 172, 239, 131, 139, 251, 24, 111, 255, 116, 128, 173, 196, 40, 147, 130, 236, 214, 211, 148, 240]
theorem vec1_d (i : Nat) (hi : i < 2) : datN zero32 i = 0 := by
  match i, hi with
  | 0, _ => decide +kernel
  | 1, _ => decide +kernel
theorem vec1_t0 : twN Aes.kbZ 0 0 = 61368827288258104251737371505591052646 := by rw [twN_zero, katZT]
theorem vec1_q1 : dbl 61368827288258104251737371505591052646 = 122737654576516208503474743011182105292 := by decide +kernel
theorem vec1_t1 : twN Aes.kbZ 0 1 = 122737654576516208503474743011182105292 := by rw [twN_one, katZT, vec1_q1]
theorem vec1_x0 : (0 ^^^ 61368827288258104251737371505591052646 : Nat) = 61368827288258104251737371505591052646 := by decide +kernel
theorem vec1_y0 : (250631705478751664928468182656761042423 ^^^ 61368827288258104251737371505591052646 : Nat) = 194933709665755424236731954824245312657 := by decide +kernel
theorem vec1_b0 : xtB false Aes.kbZ Aes.kbZ 0 zero32 0 = 194933709665755424236731954824245312657 := by rw [xtB_forth, vec1_d 0 (by decide), vec1_t0, vec1_x0, katZ0, vec1_y0]
theorem vec1_l0 : listB (byt 194933709665755424236731954824245312657) = [145, 124, 246, 158, 189, 104, 178, 236, 155, 159, 233, 163, 234, 221, 166, 146] := by decide +kernel
theorem vec1_x1 : (0 ^^^ 122737654576516208503474743011182105292 : Nat) = 122737654576516208503474743011182105292 := by decide +kernel
theorem vec1_y1 : (152554037021370616309212608030772138241 ^^^ 122737654576516208503474743011182105292 : Nat) = 61906440842902680264704181464613405645 := by decide +kernel
theorem vec1_b1 : xtB false Aes.kbZ Aes.kbZ 0 zero32 1 = 61906440842902680264704181464613405645 := by rw [xtB_forth, vec1_d 1 (by decide), vec1_t1, vec1_x1, katZ1, vec1_y1]
theorem vec1_l1 : listB (byt 61906440842902680264704181464613405645) = [205, 67, 210, 245, 149, 152, 237, 133, 140, 2, 194, 101, 47, 191, 146, 46] := by decide +kernel
theorem vec1 : xtL false Aes.kbZ Aes.kbZ 0 zero32 2 = end1 := by rw [xtL_two, vec1_b0, vec1_b1, vec1_l0, vec1_l1]; rfl
theorem vec2_d (i : Nat) (hi : i < 2) : datN four32 i = 90741964512250256923566561981804856388 := by
  match i, hi with
  | 0, _ => decide +kernel
  | 1, _ => decide +kernel
theorem vec2_t0 : twN Aes.kbD 219902325555 0 = 221720595410134830620552995095508123711 := by rw [twN_zero, katDT]
theorem vec2_q1 : dbl 221720595410134830620552995095508123711 = 103158823899331197777731382759248036089 := by decide +kernel
theorem vec2_t1 : twN Aes.kbD 219902325555 1 = 103158823899331197777731382759248036089 := by rw [twN_one, katDT, vec2_q1]
theorem vec2_x0 : (90741964512250256923566561981804856388 ^^^ 221720595410134830620552995095508123711 : Nat) = 301119815031802895995211471504006956155 := by decide +kernel
theorem vec2_y0 : (60221454807629470904437593594753438971 ^^^ 221720595410134830620552995095508123711 : Nat) = 185447743443119367658237501361681355972 := by decide +kernel
theorem vec2_b0 : xtB false Aes.kbC Aes.kbD 219902325555 four32 0 = 185447743443119367658237501361681355972 := by rw [xtB_forth, vec2_d 0 (by decide), vec2_t0, vec2_x0, katC0, vec2_y0]
theorem vec2_l0 : listB (byt 185447743443119367658237501361681355972) = [196, 84, 24, 94, 106, 22, 147, 110, 57, 51, 64, 56, 172, 239, 131, 139] := by decide +kernel
theorem vec2_x1 : (90741964512250256923566561981804856388 ^^^ 103158823899331197777731382759248036089 : Nat) = 13125780982357013536823948435742999741 := by decide +kernel
theorem vec2_y1 : (251304437894825599140239405766292281346 ^^^ 103158823899331197777731382759248036089 : Nat) = 319787475539892430155266113452817455355 := by decide +kernel
theorem vec2_b1 : xtB false Aes.kbC Aes.kbD 219902325555 four32 1 = 319787475539892430155266113452817455355 := by rw [xtB_forth, vec2_d 1 (by decide), vec2_t1, vec2_x1, katC1, vec2_y1]
theorem vec2_l1 : listB (byt 319787475539892430155266113452817455355) = [251, 24, 111, 255, 116, 128, 173, 196, 40, 147, 130, 236, 214, 211, 148, 240] := by decide +kernel
theorem vec2 : xtL false Aes.kbC Aes.kbD 219902325555 four32 2 = end2 := by rw [xtL_two, vec2_b0, vec2_b1, vec2_l0, vec2_l1]; rfl
theorem made_zero (n : Nat) : (madeCells (Value.int .u8 0).cells (n * 1)).toList = (List.replicate n 0).map cellOf := by
  unfold madeCells
  rw [Array.toList_map, Array.toList_range, Nat.mul_one, List.map_replicate]
  refine List.eq_replicate_iff.mpr ⟨by simp, fun x hx => ?_⟩
  obtain ⟨y, _, rfl⟩ := List.mem_map.mp hx
  have e : (Value.int IntKind.u8 0).cells = #[.int .u8 0] := rfl
  rw [e]
  show (#[Value.int .u8 0])[y % 1]! = _
  rw [Nat.mod_one]; rfl
/-- a row of n noughts is made -/
theorem run_mk (w : World) (n : Nat) (hn : n ≤ 16777216) : ∃ w', (Instr.makeSlice 29 (.int .i64 (n : Int)) (.int .i64 (n : Int))).run Try.prog w = .ok (.slice (some ⟨w.heap.size, 0, none⟩) n n) w' ∧
    Own w' w.heap.size (.slice (some ⟨w.heap.size, 0, none⟩) n n) (List.replicate n 0) ∧ Below w.heap.size w w' ∧ w.heap.size + 1 ≤ w'.heap.size := by
  obtain ⟨i, hi, hz0, hz1, hz2⟩ := info_parts try_info5
  obtain ⟨w', hr, ho, hg⟩ := run_makeSlice_full (P := Try.prog) w w.heap.size 29 5 i (.int .u8 0) 1 Try.underlying29 hi hz0 hz1 .i64 .i64 n (by omega) (by rw [hz2]; omega) (by unfold maxLen; omega) (Nat.le_refl _)
  rw [made_zero] at ho
  have hO : Own w' w.heap.size (.slice (some ⟨w.heap.size, 0, none⟩) n n) (List.replicate n 0) := ⟨by rw [List.length_replicate]; exact ho, by rw [List.length_replicate]; omega, fun x hx => by rw [List.eq_of_mem_replicate hx]; decide⟩
  refine ⟨w', hr, hO, grown_below (Below.refl _ _) (v := .slice none 0 0) hg (Nat.le_refl _) (fun k hk => by cases hk), (hO.ge w.heap.size rfl).2⟩
theorem exec_mk {o : Oper} {a : Act} (l c : Operand) (ho : o.op = .makeSlice 29 l c) (n : Nat) (N : Int) (hN : N = (n : Int)) (hl : a.eval l = .int .i64 N) (hc : a.eval c = .int .i64 N) (hn : n ≤ 16777216) (w : World) : ∃ w',
    (execOp a.eval o).run Try.prog w = .ok (.value (.slice (some ⟨w.heap.size, 0, none⟩) n n)) w' ∧ Own w' w.heap.size (.slice (some ⟨w.heap.size, 0, none⟩) n n) (List.replicate n 0) ∧ Below w.heap.size w w' ∧ w.heap.size + 1 ≤ w'.heap.size := by
  subst hN
  obtain ⟨w', hr, h⟩ := run_mk w n hn
  refine ⟨w', ?_, h⟩
  unfold execOp
  simp only [ho, hl, hc]
  simp [hr]
theorem wpo_str {o : Oper} {a : Act} {w : World} {K : Act → World → Prop} {Q : Exit → Act → World → Prop} (x : Operand) (ho : o.op = .convert 29 9 x)
    (A : Option Addr) (n c : Nat) (l : List Nat) (hx : a.eval x = .slice A n c) (hb : Bytes w A n l) (h : K (a.put o.dst (.string (strL l))) w) : o.wp Try.prog a w K Q := by
  unfold Oper.wp
  rw [exec_str x ho hx hb]
  exact h
theorem Own.le {w : World} {base base' : Nat} {v : Value} {l : List Nat} (h : Own w base v l) (hb : base' ≤ base) : Own w base' v l := ⟨Joins.ownsRow_le h.1 hb, h.2⟩
theorem Own.cap {w : World} {base n c : Nat} {A : Option Addr} {l : List Nat} (h : Own w base (.slice A n c) l) : n ≤ c := by
  rcases h.1.2 with ⟨e, _⟩ | ⟨g, cap, cur, e, _, _, h2, _⟩
  · injection e with _ e1 e2; omega
  · injection e with _ e1 e2; have := h.len; omega
/-- a row of bytes of the call's own that is told, and no refusal -/
def RetRow (l : List Nat) (n : Nat) (w : World) (e : Ending) (w' : World) : Prop := ∃ A c, e = .returned (.tuple #[.slice A n c, .int .i64 0]) ∧ Own w' w.heap.size (.slice A n c) l ∧ n ≤ c ∧ Below w.heap.size w w'
theorem ThrQ.ret {back : Bool} {k1 k2 : List Nat} {u : Nat} {d : List Nat} {n m : Nat} {w : World} {e : Ending} {w' : World} (h : ThrQ back k1 k2 u d n w e w') (hm : m = 16 * n) : RetRow (xtL back k1 k2 u d n) m w e w' := by
  obtain ⟨v, h1, h2, h3⟩ := h
  obtain ⟨A, c, hv⟩ := h2.form
  rw [xtL_len, ← hm] at hv
  subst hv
  exact ⟨A, c, h1, h2, h2.cap, h3⟩
/-- data forth and back again -/
theorem datN_xtL (b : Bool) (k1 k2 : List Nat) (u : Nat) (d : List Nat) {n i : Nat} (hi : i < n) : datN (xtL b k1 k2 u d n) i = xtB b k1 k2 u d i :=
  byt_ext (datN_lt (xtL_lt b k1 k2 u d n) i) (xtB_lt b k1 k2 u d i) fun j hj => by
    rw [datN, byt_numF (datF_lt (xtL_lt b k1 k2 u d n) i) 16 j hj]
    exact xtL_get b k1 k2 u d n i j hi hj
theorem encN_decN (l : List Nat) {x : Nat} (hx : x < 2 ^ 128) : encN l (decN l x) = x := by
  refine byt_ext (encN_lt _ _) hx fun i hi => ?_
  have e : bv (byt (encN l (decN l x))) = bv (byt x) := by
    rw [← bv_encN]
    have h : bv (encK l (byt (decN l x))) = bv (encK l (decK l (byt x))) := encK_congr fun j hj => bv_inj (bv_decN l x).symm j hj
    rw [h, enc_decK (byt_lt x)]
  exact bv_inj e i hi
theorem xtB_back (b : Bool) (k1 k2 : List Nat) (u : Nat) (d : List Nat) {n i : Nat} (hd : ∀ x ∈ d, x < 256) (hi : i < n) : xtB (!b) k1 k2 u (xtL b k1 k2 u d n) i = datN d i := by
  have h0 : datN d i ^^^ twN k2 u i < 2 ^ 128 := Twk.xor_lt128 (datN_lt hd i) (twN_lt _ _ _)
  cases b
  · show xtB true k1 k2 u _ i = _
    unfold xtB
    rw [if_pos rfl, datN_xtL false k1 k2 u d hi]
    unfold xtB
    rw [if_neg (by decide), Nat.xor_assoc, Nat.xor_self, Nat.xor_zero, decN_encN _ h0, Nat.xor_assoc, Nat.xor_self, Nat.xor_zero]
  · show xtB false k1 k2 u _ i = _
    unfold xtB
    rw [if_neg (by decide), datN_xtL true k1 k2 u d hi]
    unfold xtB
    rw [if_pos rfl, Nat.xor_assoc, Nat.xor_self, Nat.xor_zero, encN_decN _ h0, Nat.xor_assoc, Nat.xor_self, Nat.xor_zero]
theorem ext16 {l m : List Nat} {n : Nat} (hl : l.length = 16 * n) (hm : m.length = 16 * n) (h : ∀ i j, i < n → j < 16 → l.getD (16 * i + j) 0 = m.getD (16 * i + j) 0) : l = m := by
  refine List.ext_getElem (by rw [hl, hm]) fun k h1 h2 => ?_
  have e := h (k / 16) (k % 16) (by omega) (by omega)
  rw [show 16 * (k / 16) + k % 16 = k by omega] at e
  rwa [List.getD_eq_getElem?_getD, List.getD_eq_getElem?_getD, List.getElem?_eq_getElem h1, List.getElem?_eq_getElem h2] at e
theorem xt_back (b : Bool) (k1 k2 : List Nat) (u : Nat) (d : List Nat) (n : Nat) (hd : ∀ x ∈ d, x < 256) (hn : d.length = 16 * n) : xtL (!b) k1 k2 u (xtL b k1 k2 u d n) n = d := by
  refine ext16 (by rw [xtL_len]) hn fun i j hi hj => ?_
  rw [xtL_get _ _ _ _ _ n i j hi hj, xtB_back b k1 k2 u d hd hi, datN, byt_numF (datF_lt hd i) 16 j hj]
  rfl
theorem wpo_mk {o : Oper} {a : Act} {w : World} {K : Act → World → Prop} {Q : Exit → Act → World → Prop} (l c : Operand) (ho : o.op = .makeSlice 29 l c) (n : Nat) (N : Int) (hN : N = (n : Int)) (hl : a.eval l = .int .i64 N) (hc : a.eval c = .int .i64 N) (hn : n ≤ 16777216)
    (h : ∀ w', Own w' w.heap.size (.slice (some ⟨w.heap.size, 0, none⟩) n n) (List.replicate n 0) → Below w.heap.size w w' → w.heap.size + 1 ≤ w'.heap.size → K (a.put o.dst (.slice (some ⟨w.heap.size, 0, none⟩) n n)) w') : o.wp Try.prog a w K Q := by
  obtain ⟨w', hr, h1, h2, h3⟩ := exec_mk l c ho n N hN hl hc hn w
  unfold Oper.wp
  rw [hr]
  exact h w' h1 h2 h3
theorem wpList_mk {ops : Array Oper} {rest : List Oper} {o : Oper} {a : Act} {w : World} {Q : Exit → Act → World → Prop} (hgd : o.guard = none) (l c : Operand) (ho : o.op = .makeSlice 29 l c) (n : Nat) (N : Int) (hN : N = (n : Int)) (hl : a.eval l = .int .i64 N) (hc : a.eval c = .int .i64 N) (hn : n ≤ 16777216)
    (h : ∀ w', Own w' w.heap.size (.slice (some ⟨w.heap.size, 0, none⟩) n n) (List.replicate n 0) → Below w.heap.size w w' → w.heap.size + 1 ≤ w'.heap.size → wpList Try.prog ops Q rest (a.put o.dst (.slice (some ⟨w.heap.size, 0, none⟩) n n)) w') : wpList Try.prog ops Q (o :: rest) a w :=
  wpList_plain hgd fun _ hK => wpo_mk l c ho n N hN hl hc hn fun w' h1 h2 h3 => hK _ _ (h w' h1 h2 h3)
end Go.Proofs.Ytibfihjcjohadaa
