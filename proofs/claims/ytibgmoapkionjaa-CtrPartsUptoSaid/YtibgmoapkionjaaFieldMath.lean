/- Plain mathematics of the field with 256 elements: products, inverses, powers. No program in sight. -/
namespace Fld

/-- Twice a byte in the field. -/
def xt (a : Nat) : Nat := (2 * a) ^^^ (283 * (a / 128))

/-- The product, as the program's loop makes it: k rounds from the sum p. -/
def gmF : Nat → Nat → Nat → Nat → Nat
  | 0, p, _, _ => p
  | k + 1, p, a, b => gmF k (p ^^^ (a * (b % 2))) (xt a) (b / 2)

def gm (a b : Nat) : Nat := gmF 8 0 a b

/-- The reference's product: the first loop, after k rounds. -/
def rmA : Nat → Nat → Nat → Nat
  | 0, _, _ => 0
  | k + 1, a, b => rmA k a b ^^^ (a * 2 ^ k) * (b / 2 ^ k % 2)

/-- The reference's product: the second loop, after j rounds. -/
def rmB : Nat → Nat → Nat
  | 0, p => p
  | j + 1, p => rmB j p ^^^ (283 * 2 ^ (6 - j)) * (rmB j p / 2 ^ (14 - j) % 2)

def rm (a b : Nat) : Nat := rmB 7 (rmA 8 a b) % 256

theorem xor_lt (a b : Nat) (h : a < 256) (h' : b < 256) : a ^^^ b < 256 := Nat.xor_lt_two_pow (n := 8) h h'

theorem xt_lt (a : Nat) (h : a < 256) : xt a < 256 := by
  have : ∀ a, a < 256 → xt a < 256 := by decide +kernel
  exact this a h

theorem mul_xor_pow (a b k : Nat) : (a ^^^ b) * 2 ^ k = a * 2 ^ k ^^^ b * 2 ^ k := by
  have := Nat.shiftLeft_xor_distrib (a := a) (b := b) (i := k)
  simpa [Nat.shiftLeft_eq] using this

theorem two_mul_xor (a b : Nat) : 2 * (a ^^^ b) = 2 * a ^^^ 2 * b := by
  have := mul_xor_pow a b 1
  simpa [Nat.mul_comm] using this

theorem mod_two_cases (a : Nat) : a % 2 = 0 ∨ a % 2 = 1 := by omega

theorem xor_mod_two (a b : Nat) : (a ^^^ b) % 2 = (a % 2) ^^^ (b % 2) := Nat.xor_mod_two_pow (n := 1)

theorem xor4 (a b c d : Nat) : (a ^^^ b) ^^^ (c ^^^ d) = (a ^^^ c) ^^^ (b ^^^ d) := by
  simp only [Nat.xor_assoc]
  rw [← Nat.xor_assoc b c d, Nat.xor_comm b c, Nat.xor_assoc]

/-- A number times a bit is linear in the bit. -/
theorem mul_bit_xor (c x y : Nat) (hx : x < 2) (hy : y < 2) : c * (x ^^^ y) = c * x ^^^ c * y := by
  have hx : x = 0 ∨ x = 1 := by omega
  have hy : y = 0 ∨ y = 1 := by omega
  rcases hx with rfl | rfl <;> rcases hy with rfl | rfl <;> simp

theorem xt_xor (a b : Nat) (ha : a < 256) (hb : b < 256) : xt (a ^^^ b) = xt a ^^^ xt b := by
  have h : (a ^^^ b) / 128 = a / 128 ^^^ b / 128 := Nat.xor_div_two_pow (n := 7)
  unfold xt
  rw [two_mul_xor, h, mul_bit_xor _ _ _ (by omega) (by omega), xor4]

theorem gmF_lt (k p a b : Nat) (hp : p < 256) (ha : a < 256) : gmF k p a b < 256 := by
  induction k generalizing p a b with
  | zero => exact hp
  | succ k ih =>
    unfold gmF
    apply ih
    · apply xor_lt _ _ hp
      rcases mod_two_cases b with h | h <;> rw [h] <;> omega
    · exact xt_lt a ha

theorem gm_lt (a b : Nat) (ha : a < 256) : gm a b < 256 := gmF_lt 8 0 a b (by omega) ha

theorem gmF_zero (k p a : Nat) : gmF k p a 0 = p := by
  induction k generalizing p a with
  | zero => rfl
  | succ k ih => unfold gmF; simp [ih]

/-- The product is linear in the first factor (together with the sum). -/
theorem gmF_left (k p p' a a' b : Nat) (ha : a < 256) (ha' : a' < 256) : gmF k (p ^^^ p') (a ^^^ a') b = gmF k p a b ^^^ gmF k p' a' b := by
  induction k generalizing p p' a a' b with
  | zero => rfl
  | succ k ih =>
    unfold gmF
    rw [← ih _ _ _ _ _ (xt_lt a ha) (xt_lt a' ha'), xt_xor a a' ha ha']
    congr 1
    rcases mod_two_cases b with h | h <;> rw [h] <;> simp [xor4]

theorem gmF_right (k p p' a b b' : Nat) (ha : a < 256) : gmF k (p ^^^ p') a (b ^^^ b') = gmF k p a b ^^^ gmF k p' a b' := by
  induction k generalizing p p' a b b' with
  | zero => rfl
  | succ k ih =>
    unfold gmF
    rw [← ih _ _ _ _ _ (xt_lt a ha), Nat.xor_div_two, xor_mod_two, mul_bit_xor _ _ _ (by omega) (by omega), xor4]

theorem gm_left (a a' b : Nat) (ha : a < 256) (ha' : a' < 256) : gm (a ^^^ a') b = gm a b ^^^ gm a' b := by
  have := gmF_left 8 0 0 a a' b ha ha'
  simpa [gm] using this
theorem gm_right (a b b' : Nat) (ha : a < 256) : gm a (b ^^^ b') = gm a b ^^^ gm a b' := by
  have := gmF_right 8 0 0 a b b' ha
  simpa [gm] using this

theorem rmA_left (k a a' b : Nat) : rmA k (a ^^^ a') b = rmA k a b ^^^ rmA k a' b := by
  induction k with
  | zero => simp [rmA]
  | succ k ih =>
    unfold rmA
    rw [ih, mul_xor_pow]
    rcases mod_two_cases (b / 2 ^ k) with h | h <;> rw [h] <;> simp [xor4]

theorem rmA_right (k a b b' : Nat) : rmA k a (b ^^^ b') = rmA k a b ^^^ rmA k a b' := by
  induction k with
  | zero => simp [rmA]
  | succ k ih =>
    unfold rmA
    rw [ih, Nat.xor_div_two_pow, xor_mod_two, mul_bit_xor _ _ _ (by omega) (by omega), xor4]

theorem rmB_xor (j p q : Nat) : rmB j (p ^^^ q) = rmB j p ^^^ rmB j q := by
  induction j with
  | zero => rfl
  | succ j ih =>
    unfold rmB
    rw [ih, Nat.xor_div_two_pow, xor_mod_two, mul_bit_xor _ _ _ (by omega) (by omega), xor4]

theorem rm_left (a a' b : Nat) : rm (a ^^^ a') b = rm a b ^^^ rm a' b := by
  unfold rm
  rw [rmA_left, rmB_xor]
  exact Nat.xor_mod_two_pow (n := 8)
theorem rm_right (a b b' : Nat) : rm a (b ^^^ b') = rm a b ^^^ rm a b' := by
  unfold rm
  rw [rmA_right, rmB_xor]
  exact Nat.xor_mod_two_pow (n := 8)

/-- Two linear functions that agree on the powers of two agree on all bytes. -/
theorem lin_ext (f g : Nat → Nat) (hf : ∀ a b, a < 256 → b < 256 → f (a ^^^ b) = f a ^^^ f b) (hg : ∀ a b, a < 256 → b < 256 → g (a ^^^ b) = g a ^^^ g b)
    (h : ∀ i, i < 8 → f (2 ^ i) = g (2 ^ i)) (a : Nat) (ha : a < 256) : f a = g a := by
  have hlo : ∀ k, k < 8 → ∀ a, a < 256 → 2 ^ k ≤ a → a < 2 ^ (k + 1) → a ^^^ 2 ^ k < 2 ^ k := by decide +kernel
  have key : ∀ k, k ≤ 8 → ∀ a, a < 2 ^ k → f a = g a := by
    intro k
    induction k with
    | zero =>
      intro _ a ha
      have : a = 0 := by omega
      subst this
      have h1 := hf 0 0 (by omega) (by omega)
      have h2 := hg 0 0 (by omega) (by omega)
      simp at h1 h2
      rw [h1, h2]
    | succ k ih =>
      intro hk a ha
      by_cases hl : a < 2 ^ k
      · exact ih (by omega) a hl
      · have h8 : 2 ^ (k + 1) ≤ 2 ^ 8 := Nat.pow_le_pow_right (by omega) hk
        have ha8 : a < 256 := by omega
        have hx := hlo k (by omega) a ha8 (by omega) ha
        have h7 : 2 ^ k ≤ 2 ^ 7 := Nat.pow_le_pow_right (by omega) (by omega)
        have e : a = (a ^^^ 2 ^ k) ^^^ 2 ^ k := by rw [Nat.xor_assoc, Nat.xor_self, Nat.xor_zero]
        rw [e, hf _ _ (by omega) (by omega), hg _ _ (by omega) (by omega), ih (by omega) _ hx, h k (by omega)]
  exact key 8 (by omega) a ha

theorem rm_eq (a b : Nat) (ha : a < 256) (hb : b < 256) : rm a b = gm a b := by
  have h : ∀ i, i < 8 → ∀ j, j < 8 → rm (2 ^ i) (2 ^ j) = gm (2 ^ i) (2 ^ j) := by decide +kernel
  refine lin_ext (fun b => rm a b) (fun b => gm a b) (fun x y _ _ => rm_right a x y) (fun x y _ _ => gm_right a x y ha) (fun j hj => ?_) b hb
  exact lin_ext (fun a => rm a (2 ^ j)) (fun a => gm a (2 ^ j)) (fun x y _ _ => rm_left x y _) (fun x y hx hy => gm_left x y _ hx hy) (fun i hi => h i hi j hj) a ha

theorem pow_lt (i : Nat) (hi : i < 8) : 2 ^ i < 256 := Nat.lt_of_le_of_lt (Nat.pow_le_pow_right (by omega) (show i ≤ 7 by omega)) (by decide)

theorem gm_comm (a b : Nat) (ha : a < 256) (hb : b < 256) : gm a b = gm b a := by
  have h : ∀ i, i < 8 → ∀ j, j < 8 → gm (2 ^ i) (2 ^ j) = gm (2 ^ j) (2 ^ i) := by decide +kernel
  refine lin_ext (fun b => gm a b) (fun b => gm b a) (fun x y _ _ => gm_right a x y ha) (fun x y hx hy => gm_left x y a hx hy) (fun j hj => ?_) b hb
  exact lin_ext (fun a => gm a (2 ^ j)) (fun a => gm (2 ^ j) a) (fun x y hx hy => gm_left x y _ hx hy) (fun x y _ _ => gm_right _ x y (pow_lt j hj)) (fun i hi => h i hi j hj) a ha

theorem gm_assoc (a b c : Nat) (ha : a < 256) (hb : b < 256) (hc : c < 256) : gm (gm a b) c = gm a (gm b c) := by
  have h : ∀ i, i < 8 → ∀ j, j < 8 → ∀ k, k < 8 → gm (gm (2 ^ i) (2 ^ j)) (2 ^ k) = gm (2 ^ i) (gm (2 ^ j) (2 ^ k)) := by decide +kernel
  refine lin_ext (fun a => gm (gm a b) c) (fun a => gm a (gm b c)) (fun x y hx hy => ?_) (fun x y hx hy => gm_left x y _ hx hy) (fun i hi => ?_) a ha
  · simp only [gm_left x y b hx hy]
    exact gm_left _ _ _ (gm_lt _ _ hx) (gm_lt _ _ hy)
  refine lin_ext (fun b => gm (gm (2 ^ i) b) c) (fun b => gm (2 ^ i) (gm b c)) (fun x y hx hy => ?_) (fun x y hx hy => ?_) (fun j hj => ?_) b hb
  · simp only [gm_right _ x y (pow_lt i hi)]
    exact gm_left _ _ _ (gm_lt _ _ (pow_lt i hi)) (gm_lt _ _ (pow_lt i hi))
  · simp only [gm_left x y c hx hy]
    exact gm_right _ _ _ (pow_lt i hi)
  refine lin_ext (fun c => gm (gm (2 ^ i) (2 ^ j)) c) (fun c => gm (2 ^ i) (gm (2 ^ j) c)) (fun x y _ _ => gm_right _ x y (gm_lt _ _ (pow_lt i hi))) (fun x y _ _ => ?_) (fun k hk => h i hi j hj k hk) c hc
  simp only [gm_right _ x y (pow_lt j hj)]
  exact gm_right _ _ _ (pow_lt i hi)

theorem gm_one (a : Nat) (ha : a < 256) : gm a 1 = a := by
  have : ∀ a, a < 256 → gm a 1 = a := by decide +kernel
  exact this a ha
theorem one_gm (a : Nat) (ha : a < 256) : gm 1 a = a := by
  have : ∀ a, a < 256 → gm 1 a = a := by decide +kernel
  exact this a ha
theorem gm_zero (a : Nat) : gm a 0 = 0 := gmF_zero 8 0 a

theorem rmA_lt (k a b : Nat) (hk : k ≤ 8) (ha : a < 256) : rmA k a b < 65536 := by
  induction k with
  | zero => simp [rmA]
  | succ k ih =>
    have ih := ih (by omega)
    have h2 : 2 ^ k ≤ 2 ^ 7 := Nat.pow_le_pow_right (by omega) (by omega)
    have h3 : a * 2 ^ k < 65536 := by
      have := Nat.mul_le_mul (Nat.le_of_lt_succ ha) h2
      omega
    unfold rmA
    apply Nat.xor_lt_two_pow (n := 16) ih
    rcases mod_two_cases (b / 2 ^ k) with h | h <;> rw [h] <;> omega

theorem rmB_lt (j p : Nat) (hj : j ≤ 7) (hp : p < 65536) : rmB j p < 65536 := by
  induction j with
  | zero => exact hp
  | succ j ih =>
    have ih := ih (by omega)
    have h2 : 2 ^ (6 - j) ≤ 2 ^ 6 := Nat.pow_le_pow_right (by omega) (by omega)
    have h3 : 283 * 2 ^ (6 - j) < 65536 := by omega
    unfold rmB
    apply Nat.xor_lt_two_pow (n := 16) ih
    rcases mod_two_cases (rmB j p / 2 ^ (14 - j)) with h | h <;> rw [h] <;> omega


/-- The inverse: the power 254. -/
def inv2 (a b c d e f g : Nat) : Nat := gm a (gm b (gm c (gm d (gm e (gm f g)))))
def invS (a : Nat) : Nat :=
  let a1 := gm a a
  let a2 := gm a1 a1
  let a3 := gm a2 a2
  let a4 := gm a3 a3
  let a5 := gm a4 a4
  let a6 := gm a5 a5
  let a7 := gm a6 a6
  inv2 a1 a2 a3 a4 a5 a6 a7
def inv (a : Nat) : Nat := invS a

/-- The bit i of the second half of a substitution: the sum of the bits, after n of the last four. -/
def abit (b i : Nat) : Nat → Nat
  | 0 => 99 / 2 ^ i % 2 + b / 2 ^ i % 2
  | n + 1 => abit b i n + b / 2 ^ ((i + (n + 4)) % 8) % 2
/-- The second half of a substitution, the first i bits. -/
def affP (b : Nat) : Nat → Nat
  | 0 => 0
  | i + 1 => affP b i + abit b i 4 % 2 * 2 ^ i
def aff (b : Nat) : Nat := affP b 8
def sb (a : Nat) : Nat := aff (inv a)
def rot8 (a k : Nat) : Nat := (a * 2 ^ k % 256) ||| (a / 2 ^ (8 - k))
def back (a : Nat) : Nat := rot8 a 1 ^^^ rot8 a 3 ^^^ rot8 a 6 ^^^ 5
/-- The program's inverse. -/
def usb (a : Nat) : Nat := inv (back a)

theorem inv_lt (a : Nat) (h : a < 256) : inv a < 256 := by
  have : ∀ a, a < 256 → inv a < 256 := by decide +kernel
  exact this a h
theorem sb_lt (a : Nat) (h : a < 256) : sb a < 256 := by
  have : ∀ a, a < 256 → sb a < 256 := by decide +kernel
  exact this a h
theorem back_lt (a : Nat) (h : a < 256) : back a < 256 := by
  have : ∀ a, a < 256 → back a < 256 := by decide +kernel
  exact this a h
theorem usb_lt (a : Nat) (h : a < 256) : usb a < 256 := inv_lt _ (back_lt _ h)
theorem back_sb (a : Nat) (h : a < 256) : back (sb a) = inv a := by
  have : ∀ a, a < 256 → back (sb a) = inv a := by decide +kernel
  exact this a h
theorem usb_sb (a : Nat) (h : a < 256) : usb (sb a) = a := by
  have : ∀ a, a < 256 → usb (sb a) = a := by decide +kernel
  exact this a h
theorem sb_usb (a : Nat) (h : a < 256) : sb (usb a) = a := by
  have : ∀ a, a < 256 → sb (usb a) = a := by decide +kernel
  exact this a h
theorem inv_inv (a : Nat) (h : a < 256) : inv (inv a) = a := by
  have : ∀ a, a < 256 → inv (inv a) = a := by decide +kernel
  exact this a h
theorem gm_inv (a : Nat) (h : a < 256) (h0 : a ≠ 0) : gm a (inv a) = 1 := by
  have : ∀ a, a < 256 → a ≠ 0 → gm a (inv a) = 1 := by decide +kernel
  exact this a h h0
theorem zero_gm (b : Nat) : gm 0 b = 0 := by
  have h : ∀ k b, gmF k 0 0 b = 0 := by
    intro k
    induction k with
    | zero => intro b; rfl
    | succ k ih =>
      intro b
      unfold gmF
      have : xt 0 = 0 := by decide
      rw [this]
      simpa using ih (b / 2)
  exact h 8 b

/-- The inverse is the only byte whose product with a is 1. -/
theorem inv_only (a b : Nat) (ha : a < 256) (hb : b < 256) (h : gm a b = 1) : b = inv a := by
  have h0 : a ≠ 0 := by
    rintro rfl
    rw [zero_gm] at h
    omega
  have hi := inv_lt a ha
  have e : gm (gm (inv a) a) b = gm (inv a) (gm a b) := gm_assoc _ _ _ hi ha hb
  rw [gm_comm _ _ hi ha, gm_inv a ha h0, h, one_gm b hb, gm_one _ hi] at e
  exact e

theorem gm_ne_zero (a b : Nat) (ha : a < 256) (hb : b < 256) (h0 : a ≠ 0) (h1 : b ≠ 0) : gm a b ≠ 0 := by
  intro h
  have hi := inv_lt a ha
  have e : gm (gm (inv a) a) b = gm (inv a) (gm a b) := gm_assoc _ _ _ hi ha hb
  rw [gm_comm _ _ hi ha, gm_inv a ha h0, h, one_gm b hb, gm_zero] at e
  exact h1 e

theorem gm4 (a b c d : Nat) (ha : a < 256) (hb : b < 256) (hc : c < 256) (hd : d < 256) : gm (gm a b) (gm c d) = gm (gm a c) (gm b d) := by
  rw [gm_assoc a b _ ha hb (gm_lt _ _ hc), ← gm_assoc b c d hb hc hd, gm_comm b c hb hc, gm_assoc c b d hc hb hd, ← gm_assoc a c _ ha hc (gm_lt _ _ hb)]

theorem inv_gm (a b : Nat) (ha : a < 256) (hb : b < 256) : inv (gm a b) = gm (inv a) (inv b) := by
  by_cases h0 : a = 0
  · subst h0
    have e : inv 0 = 0 := by decide +kernel
    rw [zero_gm, e, zero_gm]
  by_cases h1 : b = 0
  · subst h1
    have e : inv 0 = 0 := by decide +kernel
    rw [gm_zero, e, gm_zero]
  symm
  apply inv_only _ _ (gm_lt _ _ ha) (gm_lt _ _ (inv_lt _ ha))
  rw [gm4 _ _ _ _ ha hb (inv_lt _ ha) (inv_lt _ hb), gm_inv a ha h0, gm_inv b hb h1]
  exact one_gm 1 (by omega)

/-- The product of a and all numbers of a list. -/
def gml (a : Nat) (l : List Nat) : Nat := l.foldl gm a
theorem gml_lt (a : Nat) (l : List Nat) (ha : a < 256) : gml a l < 256 := by
  unfold gml
  induction l generalizing a with
  | nil => exact ha
  | cons b l ih => exact ih _ (gm_lt a b ha)
theorem gml_snoc (a : Nat) (l : List Nat) (k : Nat) (h : k < l.length) : gml a (l.take (k + 1)) = gm (gml a (l.take k)) (l.getD k 0) := by
  unfold gml
  rw [List.take_succ_eq_append_getElem h, List.foldl_append]
  simp [List.getD, h]

/-- The power by squares, as the program's loop makes it. -/
def pwF : Nat → Nat → Nat → Nat → Nat
  | 0, p, _, _ => p
  | k + 1, p, a, n => pwF k (if n % 2 = 1 then gm p a else p) (gm a a) (n / 2)
/-- The power by repeated products. -/
def pw (a : Nat) : Nat → Nat
  | 0 => 1
  | n + 1 => gm (pw a n) a
theorem pw_lt (a n : Nat) (ha : a < 256) : pw a n < 256 := by
  induction n with
  | zero => exact (by decide : (1 : Nat) < 256)
  | succ n ih => exact gm_lt _ _ ih
theorem pw_add (a n m : Nat) (ha : a < 256) : pw a (n + m) = gm (pw a n) (pw a m) := by
  induction m with
  | zero => exact (gm_one _ (pw_lt a n ha)).symm
  | succ m ih =>
    show gm (pw a (n + m)) a = gm (pw a n) (gm (pw a m) a)
    rw [ih, gm_assoc _ _ _ (pw_lt _ _ ha) (pw_lt _ _ ha) ha]
theorem pw_sq (a n : Nat) (ha : a < 256) : pw (gm a a) n = pw a (2 * n) := by
  induction n with
  | zero => rfl
  | succ n ih =>
    show gm (pw (gm a a) n) (gm a a) = gm (gm (pw a (2 * n)) a) a
    rw [ih, gm_assoc _ _ _ (pw_lt _ _ ha) ha ha]
theorem pwF_eq (k p a n : Nat) (hp : p < 256) (ha : a < 256) (hn : n < 2 ^ k) : pwF k p a n = gm p (pw a n) := by
  induction k generalizing p a n with
  | zero =>
    obtain rfl : n = 0 := by omega
    exact (gm_one p hp).symm
  | succ k ih =>
    unfold pwF
    rw [ih _ _ _ (by split; exact gm_lt _ _ hp; exact hp) (gm_lt _ _ ha) (by omega), pw_sq a _ ha]
    rcases mod_two_cases n with h | h
    · rw [if_neg (by omega), show 2 * (n / 2) = n by omega]
    · rw [if_pos h, gm_assoc _ _ _ hp ha (pw_lt _ _ ha), gm_comm a _ ha (pw_lt _ _ ha)]
      show gm p (pw a (2 * (n / 2) + 1)) = _
      rw [show 2 * (n / 2) + 1 = n by omega]
theorem pwF_zero (k p a : Nat) : pwF k p a 0 = p := by
  induction k generalizing p a with
  | zero => rfl
  | succ k ih => unfold pwF; simp [ih]

attribute [irreducible] gm rm inv sb back usb pw gml aff
end Fld
