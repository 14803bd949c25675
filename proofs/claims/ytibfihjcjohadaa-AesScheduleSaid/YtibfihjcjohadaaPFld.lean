/-
  Plain mathematics: bytes as polynomials: sums, products, powers, inverses. No condition; imports nothing.
-/
namespace Go.Proofs.Ytibfihjcjohadaa.Fld
/-- x times a byte -/
def tw (a : Nat) : Nat := if a < 128 then 2 * a else (2 * a - 256) ^^^ 27
/-- the loop of a product -/
def mulL : Nat → Nat → Nat → Nat → Nat
  | 0, _, _, o => o
  | k + 1, a, b, o => if b = 0 then o else mulL k (tw a) (b / 2) (if b % 2 = 0 then o else o ^^^ a)
def mul (a b : Nat) : Nat := mulL 8 a b 0

theorem xor_lt {a b : Nat} (ha : a < 256) (hb : b < 256) : a ^^^ b < 256 := Nat.xor_lt_two_pow (n := 8) ha hb
theorem tw_lt {a : Nat} (h : a < 256) : tw a < 256 := by
  unfold tw; split
  · omega
  · exact xor_lt (by omega) (by omega)

theorem all256 {p : Nat → Bool} (h : (List.range 256).all p = true) {a : Nat} (ha : a < 256) : p a = true :=
  List.all_eq_true.mp h a (List.mem_range.mpr ha)
theorem tw_form {a : Nat} (h : a < 256) : tw a = (2 * a) ^^^ ((a / 128) * 283) := by
  have := all256 (p := fun a => tw a == ((2 * a) ^^^ ((a / 128) * 283))) (by decide +kernel) h
  exact eq_of_beq this
theorem div_xor (a b k : Nat) : (a ^^^ b) / 2 ^ k = a / 2 ^ k ^^^ b / 2 ^ k := by
  simp only [← Nat.shiftRight_eq_div_pow, Nat.shiftRight_xor_distrib]
theorem two_xor (a b : Nat) : 2 * (a ^^^ b) = (2 * a) ^^^ (2 * b) := by
  have := Nat.shiftLeft_xor_distrib (a := a) (b := b) (i := 1)
  simp only [Nat.shiftLeft_eq, Nat.pow_one, Nat.mul_comm _ 2] at this
  exact this
theorem tw_xor {a b : Nat} (ha : a < 256) (hb : b < 256) : tw (a ^^^ b) = tw a ^^^ tw b := by
  rw [tw_form ha, tw_form hb, tw_form (xor_lt ha hb), two_xor, show (128 : Nat) = 2 ^ 7 from rfl, div_xor]
  have h1 : a / 2 ^ 7 = 0 ∨ a / 2 ^ 7 = 1 := by omega
  have h2 : b / 2 ^ 7 = 0 ∨ b / 2 ^ 7 = 1 := by omega
  have e : (1 : Nat) ^^^ 1 = 0 := rfl
  have e1 : (0 : Nat) ^^^ 1 = 1 := rfl
  have e2 : (1 : Nat) ^^^ 0 = 1 := rfl
  rcases h1 with h1 | h1 <;> rcases h2 with h2 | h2 <;> rw [h1, h2]
  · simp
  · rw [e1]; simp [Nat.xor_assoc]
  · rw [e2]; simp only [Nat.one_mul, Nat.zero_mul, Nat.xor_zero]; ac_rfl
  · rw [e]; simp only [Nat.one_mul, Nat.zero_mul, Nat.xor_zero]
    have : 2 * a ^^^ 283 ^^^ (2 * b ^^^ 283) = 2 * a ^^^ 2 * b ^^^ (283 ^^^ 283) := by ac_rfl
    rw [this]; simp

/-- the loop without its early end -/
def mulE : Nat → Nat → Nat → Nat
  | 0, _, _ => 0
  | k + 1, a, b => (if b % 2 = 0 then 0 else a) ^^^ mulE k (tw a) (b / 2)
theorem mulE_zero (k : Nat) : ∀ a, mulE k a 0 = 0 := by
  induction k with
  | zero => intro a; rfl
  | succ k ih => intro a; simp [mulE, ih]
theorem mulL_eq (k : Nat) : ∀ a b o, mulL k a b o = o ^^^ mulE k a b := by
  induction k with
  | zero => intro a b o; simp [mulL, mulE]
  | succ k ih =>
    intro a b o
    unfold mulL
    by_cases hb : b = 0
    · rw [if_pos hb, hb, mulE_zero]; simp
    · rw [if_neg hb, ih, mulE]
      by_cases h2 : b % 2 = 0
      · simp [h2]
      · simp [h2, Nat.xor_assoc]
theorem mul_eq (a b : Nat) : mul a b = mulE 8 a b := by unfold mul; rw [mulL_eq]; simp
theorem mulE_lt (k : Nat) : ∀ a b, a < 256 → mulE k a b < 256 := by
  induction k with
  | zero => intro a b _; simp [mulE]
  | succ k ih =>
    intro a b ha
    unfold mulE
    refine xor_lt ?_ (ih _ _ (tw_lt ha))
    split <;> omega
theorem mul_lt {a b : Nat} (ha : a < 256) : mul a b < 256 := by rw [mul_eq]; exact mulE_lt 8 a b ha
theorem mulE_xor_left (k : Nat) : ∀ a c b, a < 256 → c < 256 → mulE k (a ^^^ c) b = mulE k a b ^^^ mulE k c b := by
  induction k with
  | zero => intro a c b _ _; simp [mulE]
  | succ k ih =>
    intro a c b ha hc
    unfold mulE
    rw [tw_xor ha hc, ih _ _ _ (tw_lt ha) (tw_lt hc)]
    by_cases h2 : b % 2 = 0
    · simp [h2]
    · simp only [h2, if_false]; ac_rfl
theorem mod_xor (b c : Nat) : (b ^^^ c) % 2 = b % 2 ^^^ c % 2 := by
  have := Nat.xor_mod_two_pow (a := b) (b := c) (n := 1)
  simpa using this
theorem mulE_xor_right (k : Nat) : ∀ a b c, mulE k a (b ^^^ c) = mulE k a b ^^^ mulE k a c := by
  induction k with
  | zero => intro a b c; simp [mulE]
  | succ k ih =>
    intro a b c
    unfold mulE
    have hd : (b ^^^ c) / 2 = b / 2 ^^^ c / 2 := by simpa using div_xor b c 1
    rw [hd, ih, mod_xor]
    have h1 : b % 2 = 0 ∨ b % 2 = 1 := by omega
    have h2 : c % 2 = 0 ∨ c % 2 = 1 := by omega
    rcases h1 with h1 | h1 <;> rcases h2 with h2 | h2 <;> rw [h1, h2]
    · simp
    · rw [show (0 : Nat) ^^^ 1 = 1 from rfl]; simp; ac_rfl
    · rw [show (1 : Nat) ^^^ 0 = 1 from rfl]; simp; ac_rfl
    · rw [show (1 : Nat) ^^^ 1 = 0 from rfl]; simp
      have : a ^^^ mulE k (tw a) (b / 2) ^^^ (a ^^^ mulE k (tw a) (c / 2)) = (a ^^^ a) ^^^ (mulE k (tw a) (b / 2) ^^^ mulE k (tw a) (c / 2)) := by ac_rfl
      rw [this]; simp
theorem mul_xor_left {a c : Nat} (b : Nat) (ha : a < 256) (hc : c < 256) : mul (a ^^^ c) b = mul a b ^^^ mul c b := by
  rw [mul_eq, mul_eq, mul_eq, mulE_xor_left 8 a c b ha hc]
theorem mul_xor_right (a b c : Nat) : mul a (b ^^^ c) = mul a b ^^^ mul a c := by
  rw [mul_eq, mul_eq, mul_eq, mulE_xor_right]
theorem mul_zero (a : Nat) : mul a 0 = 0 := rfl
theorem zero_mul {b : Nat} (hb : b < 256) : mul 0 b = 0 :=
  eq_of_beq (all256 (p := fun b => mul 0 b == 0) (by decide +kernel) hb)

/-- what is closed under sums and holds of the eight digits holds of all bytes -/
theorem byDigits {p : Nat → Prop} (h0 : p 0) (hx : ∀ a b, a < 256 → b < 256 → p a → p b → p (a ^^^ b)) (h1 : ∀ i, i < 8 → p (2 ^ i)) {a : Nat} (ha : a < 256) : p a := by
  induction a using Nat.strongRecOn with
  | ind a ih =>
    have h := all256 (p := fun a => a == 0 || (a == (2 ^ Nat.log2 a) ^^^ (a - 2 ^ Nat.log2 a)) && decide (Nat.log2 a < 8) && decide (a - 2 ^ Nat.log2 a < a) && decide (2 ^ Nat.log2 a < 256)) (by decide +kernel) ha
    simp only [Bool.or_eq_true, Bool.and_eq_true, decide_eq_true_eq, beq_iff_eq] at h
    rcases h with rfl | ⟨⟨⟨h, h8⟩, hl⟩, hb⟩
    · exact h0
    · rw [h]
      exact hx _ _ hb (by omega) (h1 _ h8) (ih _ hl (by omega))

theorem all8 {p : Nat → Bool} (h : (List.range 8).all p = true) {a : Nat} (ha : a < 8) : p a = true :=
  List.all_eq_true.mp h a (List.mem_range.mpr ha)
theorem pow8 {i : Nat} (hi : i < 8) : 2 ^ i < 256 := by
  have : 2 ^ i < 2 ^ 8 := Nat.pow_lt_pow_right (by decide) hi
  simpa using this
theorem mul_comm {a b : Nat} (ha : a < 256) (hb : b < 256) : mul a b = mul b a := by
  refine byDigits (p := fun a => mul a b = mul b a) (zero_mul hb) (fun x y hx hy h1 h2 => ?_) (fun i hi => ?_) ha
  · rw [mul_xor_left b hx hy, mul_xor_right, h1, h2]
  · refine byDigits (p := fun b => mul (2 ^ i) b = mul b (2 ^ i)) (zero_mul (pow8 hi)).symm (fun x y hx hy h1 h2 => ?_) (fun j hj => ?_) hb
    · rw [mul_xor_left _ hx hy, mul_xor_right, h1, h2]
    · exact eq_of_beq (all8 (p := fun j => mul (2 ^ i) (2 ^ j) == mul (2 ^ j) (2 ^ i)) (all8 (p := fun i => (List.range 8).all fun j => mul (2 ^ i) (2 ^ j) == mul (2 ^ j) (2 ^ i)) (by decide +kernel) hi) hj)
theorem mul_assoc {a b c : Nat} (ha : a < 256) (hb : b < 256) (hc : c < 256) : mul (mul a b) c = mul a (mul b c) := by
  refine byDigits (p := fun a => mul (mul a b) c = mul a (mul b c)) ?_ (fun x y hx hy h1 h2 => ?_) (fun i hi => ?_) ha
  · rw [zero_mul hb, zero_mul hc, zero_mul (mul_lt hb)]
  · rw [mul_xor_left b hx hy, mul_xor_left c (mul_lt hx) (mul_lt hy), mul_xor_left _ hx hy, h1, h2]
  have hi' := pow8 hi
  refine byDigits (p := fun b => mul (mul (2 ^ i) b) c = mul (2 ^ i) (mul b c)) ?_ (fun x y hx hy h1 h2 => ?_) (fun j hj => ?_) hb
  · rw [mul_zero, zero_mul hc, mul_zero]
  · rw [mul_xor_right, mul_xor_left c (mul_lt hi') (mul_lt hi'), mul_xor_left c hx hy, mul_xor_right, h1, h2]
  refine byDigits (p := fun c => mul (mul (2 ^ i) (2 ^ j)) c = mul (2 ^ i) (mul (2 ^ j) c)) ?_ (fun x y hx hy h1 h2 => ?_) (fun k hk => ?_) hc
  · rw [mul_zero, mul_zero, mul_zero]
  · rw [mul_xor_right, mul_xor_right, mul_xor_right, h1, h2]
  exact eq_of_beq (all8 (p := fun k => mul (mul (2 ^ i) (2 ^ j)) (2 ^ k) == mul (2 ^ i) (mul (2 ^ j) (2 ^ k)))
    (all8 (p := fun j => (List.range 8).all fun k => mul (mul (2 ^ i) (2 ^ j)) (2 ^ k) == mul (2 ^ i) (mul (2 ^ j) (2 ^ k)))
    (all8 (p := fun i => (List.range 8).all fun j => (List.range 8).all fun k => mul (mul (2 ^ i) (2 ^ j)) (2 ^ k) == mul (2 ^ i) (mul (2 ^ j) (2 ^ k))) (by decide +kernel) hi) hj) hk)
theorem mul_one {a : Nat} : mul a 1 = a := by simp [mul, mulL]
theorem one_mul {a : Nat} (ha : a < 256) : mul 1 a = a := by rw [mul_comm (by decide) ha, mul_one]
theorem two_mul {a : Nat} (ha : a < 256) : mul 2 a = tw a := by
  rw [mul_comm (by decide) ha]; simp [mul, mulL]

/-- so many times a byte -/
def npow (a : Nat) : Nat → Nat
  | 0 => 1
  | n + 1 => mul (npow a n) a
theorem npow_lt {a : Nat} (_ha : a < 256) : ∀ n, npow a n < 256 := by
  intro n; induction n with
  | zero => show 1 < 256; decide
  | succ n ih => exact mul_lt ih
theorem npow_add {a : Nat} (ha : a < 256) (n m : Nat) : npow a (n + m) = mul (npow a n) (npow a m) := by
  induction m with
  | zero => exact mul_one.symm
  | succ m ih => rw [← Nat.add_assoc, npow, npow, ih, mul_assoc (npow_lt ha n) (npow_lt ha m) ha]
theorem npow_mul {a : Nat} (ha : a < 256) (n m : Nat) : npow a (n * m) = npow (npow a n) m := by
  induction m with
  | zero => rfl
  | succ m ih => rw [Nat.mul_succ, npow_add ha, npow, ih]
theorem mul_swap {a b c d : Nat} (ha : a < 256) (hb : b < 256) (hc : c < 256) (hd : d < 256) : mul (mul a b) (mul c d) = mul (mul a c) (mul b d) := by
  rw [mul_assoc ha hb (mul_lt hc), ← mul_assoc hb hc hd, mul_comm hb hc, mul_assoc hc hb hd, ← mul_assoc ha hc (mul_lt hb)]
theorem mul_npow {a b : Nat} (ha : a < 256) (hb : b < 256) (n : Nat) : npow (mul a b) n = mul (npow a n) (npow b n) := by
  induction n with
  | zero => exact mul_one.symm
  | succ n ih => rw [npow, npow, npow, ih, mul_swap (npow_lt ha n) (npow_lt hb n) ha hb]
theorem npow_one {a : Nat} (ha : a < 256) : npow a 1 = a := one_mul ha
theorem npow_two {a : Nat} (ha : a < 256) : npow a 2 = mul a a := by
  show mul (npow a 1) a = _
  rw [npow_one ha]
/-- the loop of a power -/
def powL : Nat → Nat → Nat → Nat → Nat
  | 0, _, _, o => o
  | k + 1, a, n, o => if n = 0 then o else powL k (mul a a) (n / 2) (if n % 2 = 0 then o else mul o a)
theorem powL_eq (k : Nat) : ∀ a n o, a < 256 → o < 256 → n < 2 ^ k → powL k a n o = mul o (npow a n) := by
  induction k with
  | zero => intro a n o ha ho hn; have : n = 0 := by simpa using hn
            subst this; exact mul_one.symm
  | succ k ih =>
    intro a n o ha ho hn
    unfold powL
    by_cases h0 : n = 0
    · rw [if_pos h0, h0]; exact mul_one.symm
    · rw [if_neg h0]
      have hh : n / 2 < 2 ^ k := by rw [Nat.pow_succ] at hn; omega
      have e2 : npow a (2 * (n / 2)) = npow (mul a a) (n / 2) := by
        rw [npow_mul ha, npow_two ha]
      by_cases h2 : n % 2 = 0
      · rw [if_pos h2, ih _ _ _ (mul_lt ha) ho hh, ← e2, show 2 * (n / 2) = n by omega]
      · rw [if_neg h2, ih _ _ _ (mul_lt ha) (mul_lt ho) hh, ← e2, mul_assoc ho ha (npow_lt ha _)]
        have : n = 1 + 2 * (n / 2) := by omega
        have e : npow a n = npow a (1 + 2 * (n / 2)) := by rw [← this]
        rw [e, npow_add ha 1, npow_one ha]
/-- a power by squares -/
def pw (a n : Nat) : Nat := powL 8 a n 1
theorem pw_eq {a n : Nat} (ha : a < 256) (hn : n < 256) : pw a n = npow a n := by
  unfold pw; rw [powL_eq 8 a n 1 ha (by decide) hn, one_mul (npow_lt ha n)]
def inv (a : Nat) : Nat := pw a 254
theorem inv_lt {a : Nat} (ha : a < 256) : inv a < 256 := by unfold inv; rw [pw_eq ha (by decide)]; exact npow_lt ha _
theorem npow255 {a : Nat} (ha : a < 256) (h0 : a ≠ 0) : npow a 255 = 1 := by
  have := all256 (p := fun a => a == 0 || pw a 255 == 1) (by decide +kernel) ha
  simp [h0] at this
  rw [← pw_eq ha (by decide)]; exact this
theorem mul_inv {a : Nat} (ha : a < 256) (h0 : a ≠ 0) : mul a (inv a) = 1 := by
  rw [← npow255 ha h0]; unfold inv; rw [pw_eq ha (by decide), mul_comm ha (npow_lt ha _)]; rfl
theorem inv_inv {a : Nat} (ha : a < 256) : inv (inv a) = a :=
  eq_of_beq (all256 (p := fun a => inv (inv a) == a) (by decide +kernel) ha)
theorem inv_mul {a b : Nat} (ha : a < 256) (hb : b < 256) : inv (mul a b) = mul (inv a) (inv b) := by
  unfold inv; rw [pw_eq ha (by decide), pw_eq hb (by decide), pw_eq (mul_lt ha) (by decide), mul_npow ha hb]
theorem mul_eq_zero {a b : Nat} (ha : a < 256) (hb : b < 256) : mul a b = 0 ↔ a = 0 ∨ b = 0 := by
  constructor
  · intro h
    by_cases h0 : a = 0
    · exact .inl h0
    · right
      have e : mul (inv a) (mul a b) = b := by rw [← mul_assoc (inv_lt ha) ha hb, mul_comm (inv_lt ha) ha, mul_inv ha h0, one_mul hb]
      rw [← e, h, mul_zero]
  · rintro (rfl | rfl)
    · exact zero_mul hb
    · exact mul_zero a
theorem npow_mod {a : Nat} (ha : a < 256) (h0 : a ≠ 0) (n : Nat) : npow a (n % 255) = npow a n := by
  have : n = 255 * (n / 255) + n % 255 := by omega
  rw [show npow a n = npow a (255 * (n / 255) + n % 255) by rw [← this], npow_add ha, npow_mul ha, npow255 ha h0]
  have : ∀ k, npow 1 k = 1 := by intro k; induction k with
    | zero => rfl
    | succ k ih => rw [npow, ih]; rfl
  rw [this, one_mul (npow_lt ha _)]
theorem zero_npow (n : Nat) (h : n ≠ 0) : npow 0 n = 0 := by
  cases n with
  | zero => exact absurd rfl h
  | succ n => exact mul_zero _
end Go.Proofs.Ytibfihjcjohadaa.Fld
