/- Plain mathematics of numbers and strings in bytes. No program in sight. -/
namespace Wir

/-- The number that bytes make, the highest one first. -/
def be (l : List Nat) : Nat := l.foldl (fun x c => x * 256 + c) 0
theorem be_snoc (l : List Nat) (k : Nat) (h : k < l.length) : be (l.take (k + 1)) = be (l.take k) * 256 + l.getD k 0 := by
  unfold be
  rw [List.take_succ_eq_append_getElem h, List.foldl_append]
  simp [List.getD, h]
theorem be_lt (l : List Nat) (hl : ∀ x, x ∈ l → x < 256) (k : Nat) (h : k ≤ l.length) : be (l.take k) < 256 ^ k := by
  induction k with
  | zero => simp [be]
  | succ k ih =>
    rw [be_snoc l k (by omega), Nat.pow_succ]
    have := ih (by omega)
    have hx : l.getD k 0 < 256 := by
      have e : l.getD k 0 = l[k] := by simp [List.getD, show k < l.length by omega]
      rw [e]; exact hl _ (List.getElem_mem _)
    omega
/-- A number in k bytes. -/
def enc : Nat → Nat → List Nat
  | 0, _ => []
  | k + 1, x => enc k (x / 256) ++ [x % 256]
theorem enc_length (k x : Nat) : (enc k x).length = k := by
  induction k generalizing x with
  | zero => rfl
  | succ k ih => unfold enc; simp [ih]
theorem enc_all (k x : Nat) : ∀ y, y ∈ enc k x → y < 256 := by
  induction k generalizing x with
  | zero => intro y hy; simp [enc] at hy
  | succ k ih =>
    intro y hy
    unfold enc at hy
    rcases List.mem_append.1 hy with h | h
    · exact ih _ y h
    · rw [List.mem_singleton] at h; omega
theorem be_enc (k x : Nat) (h : x < 256 ^ k) : be (enc k x) = x := by
  induction k generalizing x with
  | zero => simp at h; subst h; rfl
  | succ k ih =>
    unfold enc be
    rw [List.foldl_append]
    have h2 : x / 256 < 256 ^ k := by rw [Nat.pow_succ] at h; omega
    have := ih (x / 256) h2
    unfold be at this
    rw [this]
    simp
    omega

/-- A reader: what is left, and whether a read has failed. -/
structure R where
  l : List Nat
  bad : Bool
def failed : R := ⟨[], true⟩
/-- The next n bytes. -/
def next (r : R) (n : Nat) : R × Option (List Nat) := if r.bad = true ∨ r.l.length < n then (failed, none) else (⟨r.l.drop n, false⟩, some (r.l.take n))
def number (r : R) (k : Int) : R × Option Nat := if k < 1 ∨ 8 < k then (failed, none) else ((next r k.toNat).1, (next r k.toNat).2.map be)
def take (r : R) (n : Int) : R × List Nat := if n < 0 then (failed, []) else ((next r n.toNat).1, (next r n.toNat).2.getD [])
def string (r : R) (k : Int) : R × List Nat := match number r k with
  | (r', none) => (r', [])
  | (r', some n) => ((next r' n).1, (next r' n).2.getD [])

theorem enc_cons (j x : Nat) : enc (j + 1) x = (x / 256 ^ j % 256) :: enc j x := by
  induction j generalizing x with
  | zero => simp [enc]
  | succ j ih =>
    show enc (j + 1) (x / 256) ++ [x % 256] = _
    rw [ih (x / 256)]
    show (x / 256 / 256 ^ j % 256) :: (enc j (x / 256) ++ [x % 256]) = (x / 256 ^ (j + 1) % 256) :: enc (j + 1) x
    rw [Nat.div_div_eq_div_mul, Nat.pow_succ, Nat.mul_comm 256]
    rfl
theorem enc_step (k j x : Nat) (h : j < k) : (List.replicate (k - j) 0 ++ enc j x).set (k - j - 1) (x / 256 ^ j % 256) = List.replicate (k - (j + 1)) 0 ++ enc (j + 1) x := by
  obtain ⟨m, hm⟩ : ∃ m, k - j = m + 1 := ⟨k - j - 1, by omega⟩
  rw [enc_cons, hm, show k - (j + 1) = m by omega, Nat.add_sub_cancel, List.replicate_succ', List.append_assoc]
  rw [List.set_append_right _ _ (by simp)]
  simp
/-- A number written in k bytes, if it fits. -/
def putNumber (k : Int) (x : Nat) : Option (List Nat) := if k < 1 ∨ 8 < k then none else if x < 256 ^ k.toNat then some (enc k.toNat x) else none
/-- A string behind its length in k bytes, if that fits. -/
def putString (k : Int) (l : List Nat) : Option (List Nat) := (putNumber k l.length).map (· ++ l)
/-- The bytes of all parts in order. -/
def join (ll : List (List Nat)) : List Nat := ll.flatten
theorem join_snoc (ll : List (List Nat)) (k : Nat) (h : k < ll.length) : join (ll.take (k + 1)) = join (ll.take k) ++ ll.getD k [] := by
  unfold join
  rw [List.take_succ_eq_append_getElem h, List.flatten_append]
  simp [List.getD, h]
theorem join_le (ll : List (List Nat)) (k : Nat) : (join (ll.take k)).length ≤ (join ll).length := by
  unfold join
  have := congrArg (fun l => (List.flatten l).length) (List.take_append_drop k ll)
  simp only [List.flatten_append, List.length_append] at this
  omega
theorem get_le (ll : List (List Nat)) (k : Nat) (h : k < ll.length) : (join (ll.take k)).length + (ll.getD k []).length ≤ (join ll).length := by
  have := join_le ll (k + 1)
  rw [join_snoc ll k h, List.length_append] at this
  exact this
theorem pow_shift (x k : Nat) : x / 2 ^ (8 * k) = x / 256 ^ k := by
  rw [show (256 : Nat) = 2 ^ 8 by rfl, ← Nat.pow_mul]
end Wir
