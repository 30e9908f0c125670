/- The plain reckoning behind Prime, digits, product, greater and Root: Lean functions that follow the reference's loops, and what they reckon; no program. -/
import Derived.Test.YtgalddnblciciaaDoorShaMathB
namespace Rt
/-- The reference's test of one number. -/
def isP (n : Nat) : Bool := (List.range (n + 1)).all fun d => decide (d < 2) || decide (n < d * d) || !(n % d == 0)
theorem isP_iff (n : Nat) : isP n = true ↔ ∀ d, 2 ≤ d → d * d ≤ n → n % d ≠ 0 := by
  unfold isP
  simp only [List.all_eq_true, List.mem_range, Bool.or_eq_true, decide_eq_true_eq, Bool.not_eq_true', beq_eq_false_iff_ne]
  constructor
  · intro h d h2 hd
    have : d ≤ d * d := by cases d with | zero => omega | succ k => exact Nat.le_mul_of_pos_left _ (by omega)
    rcases h d (by omega) with (h | h) | h
    · omega
    · omega
    · exact h
  · intro h d _
    by_cases h2 : d < 2
    · exact .inl (.inl h2)
    by_cases hd : n < d * d
    · exact .inl (.inr hd)
    · exact .inr (h d (by omega) (by omega))
/-- The loop of Prime from n on. -/
def primeF : Nat → Nat → Nat → Option Nat
  | 0, _, _ => none
  | f + 1, n, i => if isP n then (if i = 0 then some n else primeF f (n + 1) (i - 1)) else primeF f (n + 1) i
def dig : Nat → Nat → List Nat
  | 0, _ => []
  | f + 1, x => if x = 0 then [] else (x % 65536) :: dig f (x / 65536)
/-- The carry of product, from j on. -/
def carry : Nat → List Nat → Nat → Option (List Nat)
  | 0, _, _ => none
  | f + 1, o, j => if 65536 ≤ o.getD j 0 then (if j + 1 < o.length then carry f ((o.set (j + 1) ((o.getD (j + 1) 0 + o.getD j 0 / 65536) % 18446744073709551616)).set j (o.getD j 0 % 65536)) (j + 1) else none) else some o
/-- The inner loop of product: what is left of b. -/
def prodK (x : Nat) : List Nat → List Nat → Nat → Option (List Nat)
  | [], o, _ => some o
  | y :: t, o, m => match carry (o.length - m) (o.set m ((o.getD m 0 + (x * y) % 18446744073709551616) % 18446744073709551616)) m with
    | none => none
    | some o' => prodK x t o' (m + 1)
def prodI (b : List Nat) : List Nat → List Nat → Nat → Option (List Nat)
  | [], o, _ => some o
  | x :: t, o, i => match prodK x b o i with
    | none => none
    | some o' => prodI b t o' (i + 1)
def prod (a b : List Nat) : Option (List Nat) := prodI b a (List.replicate (a.length + b.length + 1) 0) 0
/-- The loop of greater, below i. -/
def grt (a b : List Nat) : Nat → Bool
  | 0 => false
  | i + 1 => if a.getD i 0 = b.getD i 0 then grt a b i else decide (b.getD i 0 < a.getD i 0)
def greater (a b : List Nat) : Bool := grt a b (max a.length b.length)
def power (d : List Nat) : Nat → List Nat → Option (List Nat)
  | 0, p => some p
  | k + 1, p => match prod p d with
    | none => none
    | some p' => power d k p'
/-- The loop of Root, from a bit on downwards. -/
def rootF (limit : List Nat) (deg : Nat) : Nat → Nat → Option Nat
  | 0, x => some x
  | b + 1, x => match power (dig 4 ((x + 2 ^ b) % 18446744073709551616)) (deg - 1) (dig 4 ((x + 2 ^ b) % 18446744073709551616)) with
    | none => none
    | some p => rootF limit deg b (if greater p limit then x else (x + 2 ^ b) % 18446744073709551616)
def root (n deg : Nat) : Option Nat := (rootF (List.replicate (2 * deg) 0 ++ dig 4 n) deg 37 0).map (· % 4294967296)

/-! ### what they reckon -/
/-- The number with these digits. -/
def val : List Nat → Nat
  | [] => 0
  | x :: t => x + 65536 * val t
def Dg (l : List Nat) : Prop := ∀ x, x ∈ l → x < 65536
theorem Dg.getD {l : List Nat} (h : Dg l) (i : Nat) : l.getD i 0 < 65536 := by
  by_cases hi : i < l.length
  · have e : l.getD i 0 = l[i] := by simp [List.getD, hi]
    rw [e]; exact h _ (List.getElem_mem hi)
  · simp [List.getD, List.getElem?_eq_none (Nat.not_lt.1 hi)]
theorem val_dig : ∀ (f x : Nat), x < 65536 ^ f → val (dig f x) = x
  | 0, x, h => by simp at h; subst h; rfl
  | f + 1, x, h => by
    unfold dig
    split
    · rename_i h0; subst h0; rfl
    · have := val_dig f (x / 65536) (by rw [Nat.pow_succ] at h; exact Nat.div_lt_of_lt_mul (by rwa [Nat.mul_comm] at h))
      show x % 65536 + 65536 * val _ = x
      rw [this]
      omega
theorem dg_dig : ∀ (f x : Nat), Dg (dig f x)
  | 0, _ => fun _ h => by cases h
  | f + 1, x => by
    unfold dig
    split
    · exact fun _ h => by cases h
    · intro y hy
      rcases List.mem_cons.1 hy with rfl | hy
      · exact Nat.mod_lt _ (by omega)
      · exact dg_dig f _ y hy
theorem dig_len : ∀ (f x : Nat), (dig f x).length ≤ f
  | 0, _ => Nat.le_refl _
  | f + 1, x => by
    unfold dig
    split
    · simp
    · have := dig_len f (x / 65536); simp; omega
theorem val_lt : ∀ {l : List Nat}, Dg l → val l < 65536 ^ l.length
  | [], _ => by simp [val]
  | x :: t, h => by
    have h1 := val_lt (l := t) fun y hy => h y (List.mem_cons_of_mem _ hy)
    have h2 := h x (by simp)
    show x + 65536 * val t < 65536 ^ (t.length + 1)
    rw [Nat.pow_succ]
    omega
theorem val_set : ∀ (l : List Nat) (i x : Nat), i < l.length → val (l.set i x) + l.getD i 0 * 65536 ^ i = val l + x * 65536 ^ i
  | [], i, x, h => by simp at h
  | y :: t, 0, x, _ => by
    show x + 65536 * val t + y * 1 = y + 65536 * val t + x * 1
    omega
  | y :: t, i + 1, x, h => by
    have := val_set t i x (by simpa using h)
    show y + 65536 * val (t.set i x) + t.getD i 0 * 65536 ^ (i + 1) = y + 65536 * val t + x * 65536 ^ (i + 1)
    rw [Nat.pow_succ]
    generalize 65536 ^ i = P at *
    have e1 : t.getD i 0 * (P * 65536) = 65536 * (t.getD i 0 * P) := by ac_rfl
    have e2 : x * (P * 65536) = 65536 * (x * P) := by ac_rfl
    omega
theorem val_ge (l : List Nat) (i : Nat) (h : i < l.length) : l.getD i 0 * 65536 ^ i ≤ val l := by
  have := val_set l i 0 h
  omega
theorem pow_lt_of {a b : Nat} (h : 65536 ^ a < 65536 ^ b) : a < b := by
  rcases Nat.lt_or_ge a b with h' | h'
  · exact h'
  · exact absurd (Nat.pow_le_pow_right (show 0 < 65536 by omega) h') (by omega)
theorem carry_ok : ∀ (f : Nat) (o : List Nat) (j : Nat), j < o.length → o.length ≤ f + j → (∀ i, i ≠ j → o.getD i 0 < 65536) → o.getD j 0 < 65536 * 65536 → val o < 65536 ^ (o.length - 1) →
    ∃ r, carry f o j = some r ∧ val r = val o ∧ Dg r ∧ r.length = o.length
  | 0, o, j, hj, hf, _, _, _ => by omega
  | f + 1, o, j, hj, hf, ho, hc, hv => by
    unfold carry
    by_cases h1 : 65536 ≤ o.getD j 0
    · rw [if_pos h1]
      have h2 := val_ge o j hj
      have h3 : 65536 ^ (j + 1) ≤ o.getD j 0 * 65536 ^ j := by
        rw [Nat.pow_succ, Nat.mul_comm]
        exact Nat.mul_le_mul_right _ h1
      have h4 := pow_lt_of (Nat.lt_of_le_of_lt (Nat.le_trans h3 h2) hv)
      have hj1 : j + 1 < o.length := by omega
      rw [if_pos hj1]
      have hn := ho (j + 1) (by omega)
      have hq : o.getD j 0 / 65536 < 65536 := Nat.div_lt_of_lt_mul hc
      rw [Nat.mod_eq_of_lt (by omega)]
      have e1 := val_set o (j + 1) (o.getD (j + 1) 0 + o.getD j 0 / 65536) hj1
      have e2 := val_set (o.set (j + 1) (o.getD (j + 1) 0 + o.getD j 0 / 65536)) j (o.getD j 0 % 65536) (by simpa using hj)
      have g1 : ∀ x, (o.set (j + 1) x).getD j 0 = o.getD j 0 := fun x => by simp [List.getD, List.getElem?_set]
      rw [g1] at e2
      have hval : val ((o.set (j + 1) (o.getD (j + 1) 0 + o.getD j 0 / 65536)).set j (o.getD j 0 % 65536)) = val o := by
        rw [Nat.pow_succ] at e1
        generalize 65536 ^ j = P at e1 e2
        have d := Nat.div_add_mod (o.getD j 0) 65536
        generalize o.getD j 0 / 65536 = q at *
        generalize o.getD j 0 % 65536 = s at *
        have d' : o.getD j 0 * P = 65536 * (q * P) + s * P := by rw [← d, Nat.add_mul]; congr 1; ac_rfl
        have d2 : (o.getD (j + 1) 0 + q) * (P * 65536) = o.getD (j + 1) 0 * (P * 65536) + 65536 * (q * P) := by rw [Nat.add_mul]; congr 1; ac_rfl
        omega
      have hlen : ((o.set (j + 1) (o.getD (j + 1) 0 + o.getD j 0 / 65536)).set j (o.getD j 0 % 65536)).length = o.length := by simp
      obtain ⟨r, hr, hrv, hrd, hrl⟩ := carry_ok f ((o.set (j + 1) (o.getD (j + 1) 0 + o.getD j 0 / 65536)).set j (o.getD j 0 % 65536)) (j + 1) (by rw [hlen]; exact hj1) (by rw [hlen]; omega)
        (fun i hi => by
          by_cases hij : i = j
          · subst hij
            have : ((o.set (i + 1) (o.getD (i + 1) 0 + o.getD i 0 / 65536)).set i (o.getD i 0 % 65536)).getD i 0 = o.getD i 0 % 65536 := by simp [List.getD, List.getElem?_set, hj]
            rw [this]; exact Nat.mod_lt _ (by omega)
          · have : ((o.set (j + 1) (o.getD (j + 1) 0 + o.getD j 0 / 65536)).set j (o.getD j 0 % 65536)).getD i 0 = o.getD i 0 := by
              simp only [List.getD]
              rw [List.getElem?_set_ne (by omega), List.getElem?_set_ne (by omega)]
            rw [this]; exact ho i hij)
        (by
          have : ((o.set (j + 1) (o.getD (j + 1) 0 + o.getD j 0 / 65536)).set j (o.getD j 0 % 65536)).getD (j + 1) 0 = o.getD (j + 1) 0 + o.getD j 0 / 65536 := by
            simp only [List.getD]
            rw [List.getElem?_set_ne (by omega), List.getElem?_set_self hj1]; rfl
          rw [this]; omega)
        (by rw [hlen, hval]; exact hv)
      exact ⟨r, hr, hrv.trans hval, hrd, hrl.trans hlen⟩
    · rw [if_neg h1]
      refine ⟨o, rfl, rfl, fun x hx => ?_, rfl⟩
      obtain ⟨i, hi, rfl⟩ := List.getElem_of_mem hx
      have e : o.getD i 0 = o[i] := by simp [List.getD, hi]
      rw [← e]
      by_cases hij : i = j
      · subst hij; omega
      · exact ho i hij
theorem mul_lt {x y : Nat} (hx : x < 65536) (hy : y < 65536) : x * y ≤ 65535 * 65535 := Nat.mul_le_mul (by omega) (by omega)
theorem prodK_ok (x : Nat) (hx : x < 65536) : ∀ (t o : List Nat) (m : Nat), Dg t → Dg o → m + t.length < o.length → val o + x * val t * 65536 ^ m < 65536 ^ (o.length - 1) →
    ∃ r, prodK x t o m = some r ∧ val r = val o + x * val t * 65536 ^ m ∧ Dg r ∧ r.length = o.length
  | [], o, m, _, ho, _, _ => ⟨o, rfl, by simp [val], ho, rfl⟩
  | y :: t, o, m, ht, ho, hm, hv => by
    have hy := ht y (by simp)
    have hm' : m < o.length := by simp at hm; omega
    unfold prodK
    have hxy := mul_lt hx hy
    have hom := ho.getD m
    rw [Nat.mod_eq_of_lt (show x * y < 18446744073709551616 by omega), Nat.mod_eq_of_lt (show o.getD m 0 + x * y < 18446744073709551616 by omega)]
    have e1 := val_set o m (o.getD m 0 + x * y) hm'
    have e2 : val (o.set m (o.getD m 0 + x * y)) = val o + x * y * 65536 ^ m := by rw [Nat.add_mul] at e1; omega
    have e3 : x * val (y :: t) * 65536 ^ m = x * y * 65536 ^ m + x * val t * 65536 ^ (m + 1) := by
      show x * (y + 65536 * val t) * 65536 ^ m = _
      rw [Nat.mul_add, Nat.add_mul, Nat.pow_succ]; congr 1; ac_rfl
    rw [e3] at hv
    obtain ⟨r, hr, hrv, hrd, hrl⟩ := carry_ok (o.length - m) (o.set m (o.getD m 0 + x * y)) m (by simpa using hm') (by simp; omega)
      (fun i hi => by
        have : (o.set m (o.getD m 0 + x * y)).getD i 0 = o.getD i 0 := by simp only [List.getD]; rw [List.getElem?_set_ne (by omega)]
        rw [this]; exact ho.getD i)
      (by
        have : (o.set m (o.getD m 0 + x * y)).getD m 0 = o.getD m 0 + x * y := by simp only [List.getD]; rw [List.getElem?_set_self hm']; rfl
        rw [this]; omega)
      (by rw [e2, List.length_set]; omega)
    rw [hr]
    have hrl' : r.length = o.length := by rw [hrl, List.length_set]
    obtain ⟨r2, h2, h2v, h2d, h2l⟩ := prodK_ok x hx t r (m + 1) (fun z hz => ht z (List.mem_cons_of_mem _ hz)) hrd (by rw [hrl']; simp at hm; omega) (by rw [hrl', hrv, e2]; omega)
    exact ⟨r2, h2, by rw [h2v, hrv, e2, e3]; omega, h2d, h2l.trans hrl'⟩
theorem prodI_ok (b : List Nat) (hb : Dg b) : ∀ (t o : List Nat) (i : Nat), Dg t → Dg o → i + t.length + b.length ≤ o.length - 1 → 1 ≤ o.length → val o + val t * val b * 65536 ^ i < 65536 ^ (o.length - 1) →
    ∃ r, prodI b t o i = some r ∧ val r = val o + val t * val b * 65536 ^ i ∧ Dg r ∧ r.length = o.length
  | [], o, i, _, ho, _, _, _ => ⟨o, rfl, by simp [val], ho, rfl⟩
  | x :: t, o, i, ht, ho, hi, h1, hv => by
    have hx := ht x (by simp)
    unfold prodI
    have e3 : val (x :: t) * val b * 65536 ^ i = x * val b * 65536 ^ i + val t * val b * 65536 ^ (i + 1) := by
      show (x + 65536 * val t) * val b * 65536 ^ i = _
      rw [Nat.add_mul, Nat.add_mul, Nat.pow_succ]; congr 1; ac_rfl
    rw [e3] at hv
    obtain ⟨r, hr, hrv, hrd, hrl⟩ := prodK_ok x hx b o i hb ho (by simp at hi; omega) (by omega)
    rw [hr]
    obtain ⟨r2, h2, h2v, h2d, h2l⟩ := prodI_ok b hb t r (i + 1) (fun z hz => ht z (List.mem_cons_of_mem _ hz)) hrd (by rw [hrl]; simp at hi; omega) (by rw [hrl]; exact h1) (by rw [hrl, hrv]; omega)
    exact ⟨r2, h2, by rw [h2v, hrv, e3]; omega, h2d, h2l.trans hrl⟩
theorem val_zeros : ∀ n, val (List.replicate n 0) = 0
  | 0 => rfl
  | n + 1 => by show 0 + 65536 * val (List.replicate n 0) = 0; rw [val_zeros n]
theorem dg_zeros (n : Nat) : Dg (List.replicate n 0) := fun x hx => by rw [List.eq_of_mem_replicate hx]; omega
theorem prod_ok {a b : List Nat} (ha : Dg a) (hb : Dg b) : ∃ r, prod a b = some r ∧ val r = val a * val b ∧ Dg r ∧ r.length = a.length + b.length + 1 := by
  have h1 : val a * val b < 65536 ^ (a.length + b.length) := by
    rw [Nat.pow_add]
    exact Nat.mul_lt_mul'' (val_lt ha) (val_lt hb)
  obtain ⟨r, hr, hv, hd, hl⟩ := prodI_ok b hb a (List.replicate (a.length + b.length + 1) 0) 0 ha (dg_zeros _) (by simp) (by simp) (by rw [val_zeros]; simpa using h1)
  refine ⟨r, hr, ?_, hd, by rw [hl, List.length_replicate]⟩
  rw [hv, val_zeros]; simp
theorem power_ok {d : List Nat} (hd : Dg d) : ∀ (k : Nat) (p : List Nat), Dg p → ∃ r, power d k p = some r ∧ val r = val p * val d ^ k ∧ Dg r
  | 0, p, hp => ⟨p, rfl, by simp, hp⟩
  | k + 1, p, hp => by
    obtain ⟨r, hr, hv, hrd, _⟩ := prod_ok hp hd
    unfold power
    rw [hr]
    obtain ⟨r2, h2, h2v, h2d⟩ := power_ok hd k r hrd
    exact ⟨r2, h2, by rw [h2v, hv, Nat.pow_succ]; ac_rfl, h2d⟩
/-- The number of the digits below n. -/
def low (l : List Nat) : Nat → Nat
  | 0 => 0
  | n + 1 => low l n + l.getD n 0 * 65536 ^ n
theorem low_lt {l : List Nat} (h : Dg l) : ∀ n, low l n < 65536 ^ n
  | 0 => by simp [low]
  | n + 1 => by
    have h1 := low_lt h n
    have h2 := Nat.mul_le_mul_right (65536 ^ n) (show l.getD n 0 ≤ 65535 from by have := h.getD n; omega)
    show low l n + _ < 65536 ^ (n + 1)
    rw [Nat.pow_succ]
    omega
theorem low_cons (x : Nat) (t : List Nat) : ∀ n, low (x :: t) (n + 1) = x + 65536 * low t n
  | 0 => by show 0 + x * 1 = x + 65536 * 0; omega
  | n + 1 => by
    show low (x :: t) (n + 1) + t.getD n 0 * 65536 ^ (n + 1) = x + 65536 * (low t n + t.getD n 0 * 65536 ^ n)
    rw [low_cons x t n, Nat.pow_succ]
    have : t.getD n 0 * (65536 ^ n * 65536) = 65536 * (t.getD n 0 * 65536 ^ n) := by ac_rfl
    omega
theorem low_nil : ∀ n, low [] n = 0
  | 0 => rfl
  | n + 1 => by show low [] n + 0 * _ = 0; rw [low_nil n]; simp
theorem low_val : ∀ (l : List Nat) (n : Nat), l.length ≤ n → low l n = val l
  | [], n, _ => low_nil n
  | x :: t, 0, h => by simp at h
  | x :: t, n + 1, h => by rw [low_cons, low_val t n (by simpa using h)]; rfl
theorem grt_ok {a b : List Nat} (ha : Dg a) (hb : Dg b) : ∀ n, grt a b n = decide (low b n < low a n)
  | 0 => rfl
  | n + 1 => by
    unfold grt
    have h1 := low_lt ha n
    have h2 := low_lt hb n
    show _ = decide (low b n + b.getD n 0 * 65536 ^ n < low a n + a.getD n 0 * 65536 ^ n)
    by_cases he : a.getD n 0 = b.getD n 0
    · rw [if_pos he, grt_ok ha hb n, he]
      exact decide_eq_decide.2 (by omega)
    · rw [if_neg he]
      refine decide_eq_decide.2 ?_
      generalize 65536 ^ n = P at *
      rcases Nat.lt_or_gt_of_ne he with h | h
      · have := Nat.mul_le_mul_right P (show a.getD n 0 + 1 ≤ b.getD n 0 from h)
        rw [Nat.add_mul] at this
        omega
      · have := Nat.mul_le_mul_right P (show b.getD n 0 + 1 ≤ a.getD n 0 from h)
        rw [Nat.add_mul] at this
        omega
theorem greater_ok {a b : List Nat} (ha : Dg a) (hb : Dg b) : greater a b = decide (val b < val a) := by
  unfold greater
  rw [grt_ok ha hb, low_val _ _ (Nat.le_max_left _ _), low_val _ _ (Nat.le_max_right _ _)]
/-- The root in numbers. -/
def rootN (M deg : Nat) : Nat → Nat → Nat
  | 0, x => x
  | b + 1, x => rootN M deg b (if M < (x + 2 ^ b) ^ deg then x else x + 2 ^ b)
theorem rootF_ok (limit : List Nat) (hl : Dg limit) (deg : Nat) (hd : 1 ≤ deg) : ∀ (b x : Nat), x + 2 ^ b ≤ 2 ^ 60 → rootF limit deg b x = some (rootN (val limit) deg b x)
  | 0, _, _ => rfl
  | b + 1, x, h => by
    unfold rootF rootN
    have hp : 2 ^ (b + 1) = 2 ^ b * 2 := Nat.pow_succ ..
    have h60 : 2 ^ 60 = 1152921504606846976 := by decide
    have hs : x + 2 ^ b < 18446744073709551616 := by omega
    rw [Nat.mod_eq_of_lt hs]
    obtain ⟨r, hr, hv, hrd⟩ := power_ok (dg_dig 4 (x + 2 ^ b)) (deg - 1) (dig 4 (x + 2 ^ b)) (dg_dig 4 _)
    rw [hr]
    have e : val r = (x + 2 ^ b) ^ deg := by
      rw [hv, val_dig 4 _ (by omega)]
      have : deg = (deg - 1) + 1 := by omega
      conv => rhs; rw [this]
      rw [Nat.pow_succ]; ac_rfl
    dsimp only
    rw [greater_ok hrd hl, e]
    have e2 : (if decide (val limit < (x + 2 ^ b) ^ deg) = true then x else x + 2 ^ b) = if val limit < (x + 2 ^ b) ^ deg then x else x + 2 ^ b := by
      by_cases h : val limit < (x + 2 ^ b) ^ deg <;> simp [h]
    rw [e2]
    refine rootF_ok limit hl deg hd b _ ?_
    split <;> omega
theorem val_shift : ∀ (k : Nat) (l : List Nat), val (List.replicate k 0 ++ l) = 65536 ^ k * val l
  | 0, l => by simp
  | k + 1, l => by
    show 0 + 65536 * val (List.replicate k 0 ++ l) = _
    rw [val_shift k l, Nat.pow_succ]
    have : 65536 ^ k * 65536 * val l = 65536 * (65536 ^ k * val l) := by ac_rfl
    omega
theorem root_ok (n deg : Nat) (hn : n < 18446744073709551616) (hd : 1 ≤ deg) : root n deg = some (rootN (65536 ^ (2 * deg) * n) deg 37 0 % 4294967296) := by
  unfold root
  have hD : Dg (List.replicate (2 * deg) 0 ++ dig 4 n) := fun x hx => by
    rcases List.mem_append.1 hx with hx | hx
    · exact dg_zeros _ x hx
    · exact dg_dig 4 n x hx
  rw [rootF_ok _ hD deg hd 37 0 (by decide), val_shift, val_dig 4 n (by omega)]
  rfl
def primes : List Nat := [2, 3, 5, 7, 11, 13, 17, 19, 23, 29, 31, 37, 41, 43, 47, 53, 59, 61, 67, 71, 73, 79, 83, 89, 97, 101, 103, 107, 109, 113, 127, 131, 137, 139, 149, 151, 157, 163, 167, 173, 179, 181, 191, 193, 197, 199, 211, 223, 227, 229, 233, 239, 241, 251, 257, 263, 269, 271, 277, 281, 283, 293, 307, 311]
def starts : List Nat := [0x6a09e667, 0xbb67ae85, 0x3c6ef372, 0xa54ff53a, 0x510e527f, 0x9b05688c, 0x1f83d9ab, 0x5be0cd19]
theorem prime_all : ∀ i : Fin 64, primeF 310 2 i.1 = some (primes.getD i.1 0) := by decide +kernel
theorem prime_small : ∀ i : Fin 64, primes.getD i.1 0 < 312 := by decide +kernel
theorem rootN3_all : ∀ i : Fin 64, rootN (65536 ^ 6 * primes.getD i.1 0) 3 37 0 % 4294967296 = Sha.tableL.getD i.1 0 := by decide +kernel
theorem rootN2_all : ∀ i : Fin 8, rootN (65536 ^ 4 * primes.getD i.1 0) 2 37 0 % 4294967296 = starts.getD i.1 0 := by decide +kernel
theorem root3_all (i : Fin 64) : root (primes.getD i.1 0) 3 = some (Sha.tableL.getD i.1 0) := by
  rw [root_ok _ 3 (by have := prime_small i; omega) (by omega)]
  exact congrArg some (rootN3_all i)
theorem root2_all (i : Fin 8) : root (primes.getD i.1 0) 2 = some (starts.getD i.1 0) := by
  rw [root_ok _ 2 (Nat.lt_trans (prime_small ⟨i.1, by omega⟩) (by omega)) (by omega)]
  exact congrArg some (rootN2_all i)
end Rt
