/- Layer 11 in plain Lean: the bytes of a name, and reading them. No function of the program. -/
import Derived.Test.YthfbcpbjnfdnkaaNameMath
import Derived.Test.YthfbcpbjnfdnkaaWireMathB
import Derived.Test.YthfbcpbjnfdnkaaRefD
namespace Go.Proofs.Ythfbcpbjnfdnkaa
namespace Nam
open _root_.Nam
def toN (l : W) : List Nat := l.map UInt8.toNat
def fromN (l : List Nat) : W := l.map UInt8.ofNat
theorem from_to (l : W) : fromN (toN l) = l := by
  unfold fromN toN
  rw [List.map_map]
  have : (UInt8.ofNat ∘ UInt8.toNat) = id := funext fun x => by simp
  rw [this, List.map_id]
theorem to_from (l : List Nat) (h : ∀ x, x ∈ l → x < 256) : toN (fromN l) = l := by
  unfold fromN toN
  rw [List.map_map]
  conv => rhs; rw [← List.map_id l]
  apply List.map_congr_left
  intro x hx
  have := h x hx
  simp; omega
theorem toN_length (l : W) : (toN l).length = l.length := by simp [toN]
theorem fromN_length (l : List Nat) : (fromN l).length = l.length := by simp [fromN]
theorem toN_all (l : W) : ∀ x, x ∈ toN l → x < 256 := fun x hx => by
  obtain ⟨c, _, rfl⟩ := List.mem_map.1 hx
  exact c.toNat_lt
theorem toN_inj {l m : W} (h : toN l = toN m) : l = m := by rw [← from_to l, h, from_to]
/-- A string behind its length. -/
def sized (l : W) : List Nat := l.length :: toN l
def bytes (n : N) : List Nat := sized n.realm ++ n.parts.length :: (n.parts.map sized).flatten
/-- The reference's loop over the parts. -/
def loopR : Nat → Wir.R → List W → Wir.R × List W
  | 0, r, ps => (r, ps)
  | k + 1, r, ps => loopR k (Wir.string r 1).1 (ps ++ [fromN (Wir.string r 1).2])
def refRead (r : Wir.R) : Wir.R × Option N :=
  ((loopR (min (Wir.num (Wir.string r 1).1 1).2 9) (Wir.num (Wir.string r 1).1 1).1 []).1,
    if (loopR (min (Wir.num (Wir.string r 1).1 1).2 9) (Wir.num (Wir.string r 1).1 1).1 []).1.bad = true ∨ valid ⟨fromN (Wir.string r 1).2, (loopR (min (Wir.num (Wir.string r 1).1 1).2 9) (Wir.num (Wir.string r 1).1 1).1 []).2⟩ = false then none
    else some ⟨fromN (Wir.string r 1).2, (loopR (min (Wir.num (Wir.string r 1).1 1).2 9) (Wir.num (Wir.string r 1).1 1).1 []).2⟩)
theorem loopR_ext : ∀ (k : Nat) (r : Wir.R) (ps : List W), ∃ qs, (loopR k r ps).2 = ps ++ qs ∧ qs.length = k
  | 0, _, _ => ⟨[], by simp [loopR], rfl⟩
  | k + 1, r, ps => by
    obtain ⟨qs, h, hl⟩ := loopR_ext k (Wir.string r 1).1 (ps ++ [fromN (Wir.string r 1).2])
    exact ⟨fromN (Wir.string r 1).2 :: qs, by show (loopR k _ _).2 = _; rw [h]; simp, by simp [hl]⟩
theorem loopR_snoc : ∀ (k : Nat) (r : Wir.R) (ps : List W), loopR (k + 1) r ps = ((Wir.string (loopR k r ps).1 1).1, (loopR k r ps).2 ++ [fromN (Wir.string (loopR k r ps).1 1).2])
  | 0, _, _ => rfl
  | k + 1, r, ps => by
    show loopR (k + 1) (Wir.string r 1).1 (ps ++ [fromN (Wir.string r 1).2]) = _
    rw [loopR_snoc k]; rfl
/-- A part that is no word makes the name none. -/
theorem loopR_word {k j : Nat} {r : Wir.R} (hj : j < k) (h : word (fromN (Wir.string (loopR j r []).1 1).2) = false) : (loopR k r []).2.all word = false := by
  induction k with
  | zero => exact absurd hj (Nat.not_lt_zero _)
  | succ k ih =>
    rw [loopR_snoc]
    simp only [List.all_append, List.all_cons, List.all_nil, Bool.and_true]
    by_cases e : j = k
    · subst e; rw [h, Bool.and_false]
    · rw [ih (by omega), Bool.false_and]
theorem refRead_realm {r : Wir.R} (h : word (fromN (Wir.string r 1).2) = false) : (refRead r).2 = none := by
  unfold refRead
  exact if_pos (.inr (by unfold valid; simp [h]))
theorem refRead_number {r : Wir.R} (h : (Wir.num (Wir.string r 1).1 1).2 < 1 ∨ 8 < (Wir.num (Wir.string r 1).1 1).2) : (refRead r).2 = none := by
  unfold refRead
  refine if_pos (.inr ?_)
  obtain ⟨qs, h1, h2⟩ := loopR_ext (min (Wir.num (Wir.string r 1).1 1).2 9) (Wir.num (Wir.string r 1).1 1).1 []
  rw [List.nil_append] at h1
  rw [h1]
  unfold valid
  rcases h with h | h
  · have : ¬ 1 ≤ qs.length := by omega
    simp [this]
  · have : ¬ qs.length ≤ 8 := by omega
    simp [this]
theorem refRead_part {r : Wir.R} {k j : Nat} (hk : (Wir.num (Wir.string r 1).1 1).2 = k) (hk8 : k ≤ 8) (hj : j < k) (h : word (fromN (Wir.string (loopR j (Wir.num (Wir.string r 1).1 1).1 []).1 1).2) = false) : (refRead r).2 = none := by
  unfold refRead
  refine if_pos (.inr ?_)
  rw [hk, show min k 9 = k by omega]
  unfold valid
  dsimp only
  rw [loopR_word hj h, Bool.and_false]
theorem refRead_end {r : Wir.R} {k : Nat} (hw : word (fromN (Wir.string r 1).2) = true) (hk : (Wir.num (Wir.string r 1).1 1).2 = k) (hk1 : 1 ≤ k) (hk8 : k ≤ 8) (h : (loopR k (Wir.num (Wir.string r 1).1 1).1 []).2.all word = true) :
    refRead r = ((loopR k (Wir.num (Wir.string r 1).1 1).1 []).1, if (loopR k (Wir.num (Wir.string r 1).1 1).1 []).1.bad = true then none else some ⟨fromN (Wir.string r 1).2, (loopR k (Wir.num (Wir.string r 1).1 1).1 []).2⟩) := by
  unfold refRead
  rw [hk, show min k 9 = k by omega]
  obtain ⟨qs, h1, h2⟩ := loopR_ext k (Wir.num (Wir.string r 1).1 1).1 []
  rw [List.nil_append] at h1
  have hv : valid ⟨fromN (Wir.string r 1).2, (loopR k (Wir.num (Wir.string r 1).1 1).1 []).2⟩ = true := by
    unfold valid
    simp only [Bool.and_eq_true, decide_eq_true_eq]
    refine ⟨⟨⟨hw, ?_⟩, ?_⟩, h⟩
    · rw [h1]; omega
    · rw [h1]; omega
  rw [hv]
  simp

/-! ### reading the bytes of a name -/
theorem string_sized (l : W) (t : List Nat) (h : l.length < 256) : Wir.string ⟨sized l ++ t, false⟩ 1 = (⟨t, false⟩, toN l) := by
  refine Wir.string_put (k := 1) (l := toN l) (m := sized l) ?_ t
  unfold Wir.putString Wir.putNumber
  rw [toN_length, if_neg (by omega), if_pos (by simpa using h)]
  simp [Wir.enc, sized, Nat.mod_eq_of_lt h]
theorem num_one (k : Nat) (t : List Nat) (h : k < 256) : Wir.num ⟨k :: t, false⟩ 1 = (⟨t, false⟩, k) := by
  have e : Wir.putNumber 1 k = some [k] := by
    unfold Wir.putNumber
    rw [if_neg (by omega), if_pos (by simpa using h)]
    simp [Wir.enc, Nat.mod_eq_of_lt h]
  have := Wir.number_put e t
  unfold Wir.num
  rw [show ([k] ++ t : List Nat) = k :: t from rfl] at this
  rw [this]; rfl
theorem loopR_bytes : ∀ (qs : List W) (t : List Nat) (ps : List W), (∀ q, q ∈ qs → q.length < 256) → loopR qs.length ⟨(qs.map sized).flatten ++ t, false⟩ ps = (⟨t, false⟩, ps ++ qs)
  | [], t, ps, _ => by simp [loopR]
  | q :: qs, t, ps, h => by
    have e := string_sized q ((qs.map sized).flatten ++ t) (h q (by simp))
    show loopR qs.length (Wir.string ⟨(List.map sized (q :: qs)).flatten ++ t, false⟩ 1).1 _ = _
    have e2 : (List.map sized (q :: qs)).flatten ++ t = sized q ++ ((qs.map sized).flatten ++ t) := by simp
    rw [e2, e]
    dsimp only
    rw [from_to, loopR_bytes qs t _ (fun x hx => h x (by simp [hx]))]
    simp
theorem word_lt {l : W} (h : word l = true) : l.length < 256 := by have := word_len h; omega
theorem refRead_bytes (n : N) (t : List Nat) (hv : valid n = true) : refRead ⟨bytes n ++ t, false⟩ = (⟨t, false⟩, some n) := by
  obtain ⟨a, b, c, d⟩ := (valid_iff n).1 hv
  have e1 := string_sized n.realm (n.parts.length :: ((n.parts.map sized).flatten ++ t)) (word_lt a)
  have e0 : bytes n ++ t = sized n.realm ++ (n.parts.length :: ((n.parts.map sized).flatten ++ t)) := by simp [bytes]
  have e2 := num_one n.parts.length ((n.parts.map sized).flatten ++ t) (by omega)
  have e3 := loopR_bytes n.parts t [] (fun q hq => word_lt (List.all_eq_true.1 d q hq))
  have hp : 1 ≤ n.parts.length := by
    cases h : n.parts with
    | nil => exact absurd h b
    | cons _ _ => simp
  rw [e0]
  rw [refRead_end (k := n.parts.length) (by rw [e1]; dsimp only; rw [from_to]; exact a) (by rw [e1]; dsimp only; rw [e2]) hp c (by rw [e1]; dsimp only; rw [e2]; dsimp only; rw [e3]; simpa using d)]
  rw [e1]; dsimp only
  rw [e2]; dsimp only
  rw [e3, from_to]
  simp
theorem bytes_inj {a b : N} (ha : valid a = true) (hb : valid b = true) (h : bytes a = bytes b) : a = b := by
  have h1 := refRead_bytes a [] ha
  have h2 := refRead_bytes b [] hb
  rw [h] at h1
  rw [h1] at h2
  simpa using congrArg Prod.snd h2
/-- Bytes of one name are no beginning of those of another one. -/
theorem bytes_apart {a b : N} (ha : valid a = true) (hb : valid b = true) (h : (bytes a).take (min (bytes a).length (bytes b).length) = (bytes b).take (min (bytes a).length (bytes b).length)) : a = b := by
  rcases Nat.le_total (bytes a).length (bytes b).length with hl | hl
  · rw [Nat.min_eq_left hl, List.take_length] at h
    have e : bytes b = bytes a ++ (bytes b).drop (bytes a).length := by conv => lhs; rw [← List.take_append_drop (bytes a).length (bytes b), ← h]
    have h1 := refRead_bytes b [] hb
    rw [List.append_nil, e, refRead_bytes a _ ha] at h1
    simpa using congrArg Prod.snd h1
  · rw [Nat.min_eq_right hl, List.take_length] at h
    have e : bytes a = bytes b ++ (bytes a).drop (bytes b).length := by conv => lhs; rw [← List.take_append_drop (bytes b).length (bytes a), h]
    have h1 := refRead_bytes a [] ha
    rw [List.append_nil, e, refRead_bytes b _ hb] at h1
    exact (by simpa using congrArg Prod.snd h1 : b = a).symm
theorem flat_all {ps : List W} (h : ∀ p, p ∈ ps → p.length < 256) : ∀ x, x ∈ (ps.map sized).flatten → x < 256 := fun x hx => by
  obtain ⟨l, hl, hx⟩ := List.mem_flatten.1 hx
  obtain ⟨p, hp, rfl⟩ := List.mem_map.1 hl
  rcases List.mem_cons.1 hx with rfl | hx
  · exact h p hp
  · exact toN_all p x hx
theorem bytes_all {n : N} (hv : valid n = true) : ∀ x, x ∈ bytes n → x < 256 := fun x hx => by
  obtain ⟨a, b, c, d⟩ := (valid_iff n).1 hv
  unfold bytes at hx
  rcases List.mem_append.1 hx with h | h
  · rcases List.mem_cons.1 h with rfl | h
    · exact word_lt a
    · exact toN_all _ x h
  · rcases List.mem_cons.1 h with rfl | h
    · omega
    · exact flat_all (fun p hp => word_lt (List.all_eq_true.1 d p hp)) x h
theorem flat_len : ∀ (ps : List W), ps.all word = true → ((ps.map sized).flatten).length ≤ 101 * ps.length
  | [], _ => by simp
  | p :: ps, h => by
    simp only [List.all_cons, Bool.and_eq_true] at h
    have := flat_len ps h.2
    have hp := (word_len h.1).2
    simp only [List.map_cons, List.flatten_cons, List.length_append, List.length_cons, sized, toN_length]
    omega
theorem bytes_len {n : N} (hv : valid n = true) : (bytes n).length ≤ 910 := by
  obtain ⟨a, b, c, d⟩ := (valid_iff n).1 hv
  have := flat_len n.parts d
  have ha := (word_len a).2
  unfold bytes
  simp only [List.length_append, List.length_cons, sized, toN_length]
  omega
end Nam
end Go.Proofs.Ythfbcpbjnfdnkaa
