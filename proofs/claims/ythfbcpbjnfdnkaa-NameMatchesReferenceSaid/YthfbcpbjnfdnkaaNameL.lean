/- Layer 11: the bytes of a string, converted. -/
import Derived.Test.YthfbcpbjnfdnkaaNameK
namespace Go.Proofs.Ythfbcpbjnfdnkaa
open Go.RowKit Go.Deep

theorem toN_getD (l : Nam.W) (i : Nat) : (Nam.toN l).getD i 0 = (l.getD i 0).toNat := by
  simp only [Nam.toN, List.getD, List.getElem?_map]
  cases l[i]? <;> rfl
/-- []byte(s). -/
theorem conv_bytes (s : ByteArray) (w : World) (hs : s.size ≤ 1000000) : ∃ v w', (convert 9 23 (.string s)).run Try.prog w = .ok v w' ∧ Bs w' v (Nam.toN (bl s)) ∧ Below w.heap.size w w' := by
  refine ⟨_, _, run_bytes_of_string w 9 23 5 s Try.underlying9 Try.underlying23 Try.underlying5, ?_, (Below.drew (Below.refl _ w)).alloc (Nat.le_refl _) _⟩
  have hl : (Nam.toN (bl s)).length = s.size := by rw [Nam.toN_length]; rfl
  have hc : s.size ≤ grownCap w s.size 0 5 ∧ grownCap w s.size 0 5 ≤ 9223372036854775807 := by
    have h1 := grownCap_ge w s.size 0 5
    have h2 := grownCap_le_maxLen w s.size 0 5 (by unfold maxLen; omega)
    unfold maxLen at h2
    exact ⟨h1, by omega⟩
  refine bs_mk (Nam.toN_all _) hl hc.1 hc.2 (by simp) fun i hi => ?_
  rw [Nat.zero_add]
  have hi' : i < s.data.size := by rw [hl] at hi; exact hi
  have h1 := World.cell?_alloc_mark w.drew (bytesRow s (grownCap w s.size 0 5)) 5 ((bytesRow s (grownCap w s.size 0 5)).size, (bytesRow s (grownCap w s.size 0 5)).size + 1) i
  refine h1.trans ?_
  rw [bytesRow_at s _ i hi', toN_getD]
  have e : (bl s).getD i 0 = s.data[i] := by
    have := bl_get s i hi'
    rw [← this]; rfl
  rw [e]
/-! ### a slice of byte slices of the call's own -/
/-- The bytes of a list of byte slices that a call builds, rows of its own too. -/
def OwnB (w : World) (base : Nat) (v : Value) (vs : List Value) (ll : List (List Nat)) : Prop := w.ownsRow base 23 1 v vs.length vs ∧ vs.length = ll.length ∧ (∀ i u, vs[i]? = some u → Own w base u (ll.getD i []))
theorem OwnB.bss {w : World} {base : Nat} {v : Value} {vs : List Value} {ll : List (List Nat)} (h : OwnB w base v vs ll) : Bss w v ll := by
  obtain ⟨h1, h2, h3⟩ := h
  rcases h1.2 with ⟨rfl, hn⟩ | ⟨g, cap, cur, rfl, hb, hg, hn, hc, hs, ht⟩
  · have : ll = [] := List.eq_nil_of_length_eq_zero (by omega)
    subst this
    exact ⟨none, 0, rfl, by simp, fun h => absurd rfl h⟩
  · have hn' := hn
    have hc' := hc
    unfold maxLen at hc'
    rw [h2] at hn' ⊢
    refine ⟨_, cap, rfl, by omega, fun _ => ⟨g, 0, rfl, fun i hi => ?_⟩⟩
    have hi' : i < vs.length := by omega
    refine ⟨vs[i], ?_, (h3 i _ (List.getElem?_eq_getElem hi')).bs.rs⟩
    rw [Nat.zero_add, h1.cellAt i (by omega)]
    simp [hi']
theorem OwnB.below {w w' : World} {base : Nat} {v : Value} {vs : List Value} {ll : List (List Nat)} (h : OwnB w base v vs ll) (k : Below w.heap.size w w') : OwnB w' base v vs ll :=
  ⟨h.1.kept (only_of_below k none) (by cases hv : v.ownBlock <;> simp), h.2.1, fun i u hu => (h.2.2 i u hu).below k⟩
theorem OwnB.lt {w : World} {base : Nat} {v : Value} {vs : List Value} {ll : List (List Nat)} (h : OwnB w base v vs ll) : ∀ g, v.ownBlock = some g → base ≤ g ∧ g < w.heap.size := h.1.lt
theorem OwnB.form {w : World} {base : Nat} {v : Value} {vs : List Value} {ll : List (List Nat)} (h : OwnB w base v vs ll) : ∃ a c, v = .slice a vs.length c := by
  rcases h.1.2 with ⟨rfl, hn⟩ | ⟨g, cap, cur, rfl, _⟩
  · exact ⟨none, 0, by rw [hn]⟩
  · exact ⟨_, _, rfl⟩
theorem OwnB.alloc {w : World} {base : Nat} {v : Value} {vs : List Value} {ll : List (List Nat)} (h : OwnB w base v vs ll) (o : Obj) : OwnB (w.alloc o) base v vs ll := h.below ((Below.refl _ _).alloc (Nat.le_refl _) _)
/-- Rows of bytes and rows of byte slices lie in different blocks. -/
theorem own_other {w : World} {base base' n : Nat} {u v : Value} {l : List Nat} {xs : List Value} (h : Own w base u l) (k : w.ownsRow base' 23 1 v n xs) : u.ownBlock = none ∨ u.ownBlock ≠ v.ownBlock := by
  rcases k.2 with ⟨rfl, _⟩ | ⟨g, cap, cur, rfl, _, hg, _⟩
  · cases hu : u.ownBlock
    · exact .inl rfl
    · exact .inr (by simp [Value.ownBlock])
  · exact .inr (Lib.ownBlock_ne h.2 hg (by decide))
end Go.Proofs.Ythfbcpbjnfdnkaa
