/- Plain mathematics of the digest: words of 32 bits as natural numbers. No program in sight. -/
namespace Sha
/-- A word rotated to the right. -/
def rotr (w n : Nat) : Nat := (w * 2 ^ (32 - n)) % 4294967296 ||| w / 2 ^ n
def s0 (x : Nat) : Nat := rotr x 7 ^^^ rotr x 18 ^^^ x / 8
def s1 (y : Nat) : Nat := rotr y 17 ^^^ rotr y 19 ^^^ y / 1024
theorem or32 (a b : Nat) (ha : a < 4294967296) (hb : b < 4294967296) : a ||| b < 4294967296 := Nat.or_lt_two_pow (n := 32) ha hb
theorem xor32 (a b : Nat) (ha : a < 4294967296) (hb : b < 4294967296) : a ^^^ b < 4294967296 := Nat.xor_lt_two_pow (n := 32) ha hb
theorem and32 (a b : Nat) (hb : b < 4294967296) : a &&& b < 4294967296 := Nat.and_lt_two_pow (n := 32) a hb
theorem rotr_lt (w n : Nat) (h : w < 4294967296) : rotr w n < 4294967296 :=
  or32 _ _ (Nat.mod_lt _ (by omega)) (Nat.lt_of_le_of_lt (Nat.div_le_self _ _) h)
theorem s0_lt (x : Nat) (h : x < 4294967296) : s0 x < 4294967296 := xor32 _ _ (xor32 _ _ (rotr_lt _ _ h) (rotr_lt _ _ h)) (by omega)
theorem s1_lt (x : Nat) (h : x < 4294967296) : s1 x < 4294967296 := xor32 _ _ (xor32 _ _ (rotr_lt _ _ h) (rotr_lt _ _ h)) (by omega)

/-- The word i of a block, its first k bytes. -/
def pw (b : Nat → Nat) (i : Nat) : Nat → Nat
  | 0 => 0
  | k + 1 => pw b i k * 256 + b (4 * i + k)
/-- The next word of a schedule of which there are m + 16. -/
def nextw (l : List Nat) (m : Nat) : Nat := (l.getD m 0 + s0 (l.getD (m + 1) 0) + l.getD (m + 9) 0 + s1 (l.getD (m + 14) 0)) % 4294967296
def first (b : Nat → Nat) (i : Nat) : List Nat := (List.range i).map fun j => pw b j 4
/-- m further words behind the first sixteen. -/
def ext (b : Nat → Nat) : Nat → List Nat
  | 0 => first b 16
  | m + 1 => ext b m ++ [nextw (ext b m) m]
def words (b : Nat → Nat) : List Nat := ext b 48

structure St where
  a : Nat
  b : Nat
  c : Nat
  d : Nat
  e : Nat
  f : Nat
  g : Nat
  h : Nat
def big0 (a : Nat) : Nat := rotr a 2 ^^^ rotr a 13 ^^^ rotr a 22
def big1 (e : Nat) : Nat := rotr e 6 ^^^ rotr e 11 ^^^ rotr e 25
def ch (e f g : Nat) : Nat := (e &&& f) ^^^ ((4294967295 ^^^ e) &&& g)
def maj (a b c : Nat) : Nat := (a &&& b) ^^^ (a &&& c) ^^^ (b &&& c)
def t1 (s : St) (k w : Nat) : Nat := (s.h + big1 s.e + ch s.e s.f s.g + k + w) % 4294967296
def t2 (s : St) : Nat := (big0 s.a + maj s.a s.b s.c) % 4294967296
def round (s : St) (k w : Nat) : St :=
  ⟨(t1 s k w + t2 s) % 4294967296, s.a, s.b, s.c, (s.d + t1 s k w) % 4294967296, s.e, s.f, s.g⟩
/-- The state after i rounds. -/
def rounds (K W : List Nat) (s : St) : Nat → St
  | 0 => s
  | i + 1 => round (rounds K W s i) (K.getD i 0) (W.getD i 0)

theorem pw_lt (b : Nat → Nat) (hb : ∀ i, b i < 256) (i k : Nat) : pw b i k < 256 ^ k := by
  induction k with
  | zero => simp [pw]
  | succ k ih =>
    unfold pw
    rw [Nat.pow_succ]
    have := hb (4 * i + k)
    omega
theorem first_length (b : Nat → Nat) (i : Nat) : (first b i).length = i := by simp [first]
theorem first_succ (b : Nat → Nat) (i : Nat) : first b (i + 1) = first b i ++ [pw b i 4] := by
  unfold first
  rw [List.range_succ, List.map_append]
  rfl
theorem ext_length (b : Nat → Nat) (m : Nat) : (ext b m).length = 16 + m := by
  induction m with
  | zero => simp [ext, first_length]
  | succ m ih => unfold ext; rw [List.length_append, ih]; simp; omega
theorem getD_app_zero (l : List Nat) (j : Nat) : (l ++ [0]).getD j 0 = l.getD j 0 := by
  by_cases h : j < l.length
  · simp [List.getD, List.getElem?_append_left h]
  · rw [List.getD, List.getD, List.getElem?_append_right (by omega), List.getElem?_eq_none (l := l) (by omega)]
    rcases Nat.eq_zero_or_pos (j - l.length) with h0 | h0
    · rw [h0]; rfl
    · rw [List.getElem?_eq_none (by simp; omega)]
theorem getD_last (l : List Nat) (x : Nat) : (l ++ [x]).getD l.length 0 = x := by simp [List.getD]
theorem getD_set_last (l : List Nat) (x y j : Nat) : (if j = l.length then y else (l ++ [x]).getD j 0) = (l ++ [y]).getD j 0 := by
  split
  · rename_i h; rw [h, getD_last]
  · rename_i h
    by_cases hl : j < l.length
    · simp [List.getD, List.getElem?_append_left hl]
    · rw [List.getD, List.getD, List.getElem?_eq_none (l := l ++ [x]) (by simp; omega), List.getElem?_eq_none (l := l ++ [y]) (by simp; omega)]
theorem getD_set_new (l : List Nat) (y j : Nat) : (if j = l.length then y else l.getD j 0) = (l ++ [y]).getD j 0 := by
  rw [← getD_set_last l 0 y j, getD_app_zero]
theorem first_lt (b : Nat → Nat) (hb : ∀ i, b i < 256) (i : Nat) : ∀ x, x ∈ first b i → x < 4294967296 := by
  intro x hx
  obtain ⟨j, _, rfl⟩ := List.mem_map.1 hx
  exact pw_lt b hb j 4
theorem ext_lt (b : Nat → Nat) (hb : ∀ i, b i < 256) (m : Nat) : ∀ x, x ∈ ext b m → x < 4294967296 := by
  induction m with
  | zero => exact first_lt b hb 16
  | succ m ih =>
    intro x hx
    unfold ext at hx
    rcases List.mem_append.1 hx with h | h
    · exact ih x h
    · rw [List.mem_singleton] at h; rw [h]; exact Nat.mod_lt _ (by omega)
theorem getD_lt (l : List Nat) (h : ∀ x, x ∈ l → x < 4294967296) (j : Nat) : l.getD j 0 < 4294967296 := by
  by_cases hl : j < l.length
  · have e : l.getD j 0 = l[j] := by simp [List.getD, hl]
    rw [e]; exact h _ (List.getElem_mem hl)
  · have e : l.getD j 0 = 0 := by simp [List.getD, List.getElem?_eq_none (Nat.le_of_not_lt hl)]
    rw [e]; omega
end Sha
