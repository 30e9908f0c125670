import Derived.Test.YthfbcpbjnfdnkaaWireMath
/- Plain mathematics: what was put is read again. No program in sight. -/
namespace Wir
theorem next_app (l t : List Nat) : next ⟨l ++ t, false⟩ l.length = (⟨t, false⟩, some l) := by
  unfold next
  rw [if_neg (by simp)]
  simp
theorem number_put {k : Int} {x : Nat} {l : List Nat} (h : putNumber k x = some l) (t : List Nat) : number ⟨l ++ t, false⟩ k = (⟨t, false⟩, some x) := by
  unfold putNumber at h
  split at h
  · cases h
  · rename_i hk
    split at h
    · rename_i hx
      simp at h
      subst h
      unfold number
      rw [if_neg hk]
      have hl : (enc k.toNat x).length = k.toNat := enc_length _ _
      have := next_app (enc k.toNat x) t
      rw [hl] at this
      rw [this]
      simp [be_enc _ _ hx]
    · cases h
theorem string_put {k : Int} {l m : List Nat} (h : putString k l = some m) (t : List Nat) : string ⟨m ++ t, false⟩ k = (⟨t, false⟩, l) := by
  unfold putString at h
  cases hp : putNumber k l.length with
  | none => rw [hp] at h; cases h
  | some hd =>
    rw [hp] at h
    simp at h
    subst h
    unfold string
    rw [List.append_assoc, number_put hp (l ++ t)]
    simp only [next_app]
    rfl
theorem putNumber_len {k : Int} {x : Nat} {l : List Nat} (h : putNumber k x = some l) : l.length ≤ 8 := by
  unfold putNumber at h
  split at h
  · cases h
  · split at h
    · simp at h; rw [← h, enc_length]; omega
    · cases h
theorem putString_len {k : Int} {l m : List Nat} (h : putString k l = some m) : m.length ≤ l.length + 8 := by
  unfold putString at h
  cases hp : putNumber k l.length with
  | none => rw [hp] at h; cases h
  | some hd =>
    rw [hp] at h
    simp at h
    subst h
    have := putNumber_len hp
    simp; omega
end Wir
