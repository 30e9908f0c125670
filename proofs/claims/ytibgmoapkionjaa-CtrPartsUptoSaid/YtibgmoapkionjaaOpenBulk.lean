/- The rows' last step under the bound of the second form: what an argument of type []byte or [][]byte reads as, and that it is no longer than the bound. -/
import Derived.Test.YtibgmoapkionjaaOpenBytes
import Derived.Test.YtibgmoapkionjaaWireMath
namespace Go.Proofs.Ytibgmoapkionjaa
open Go.RowKit Go.WideShapes Go.ChangeShapes

theorem bulk_one {H : Type} (d : DataW H) : 1 ≤ Rows.uptoBulk d := by
  cases d with
  | lit l => cases l <;> simp [Rows.uptoBulk]
  | nil => simp [Rows.uptoBulk]
  | ptr d => simp [Rows.uptoBulk]
  | slice elems spare => simp [Rows.uptoBulk]
  | agg parts => simp [Rows.uptoBulk]
  | iface t d => simp [Rows.uptoBulk]
  | map entries => simp [Rows.uptoBulk]
  | held h => simp [Rows.uptoBulk]
theorem bulk_length {H : Type} (l : List (DataW H)) : l.length ≤ Rows.uptoBulkAll l := by
  induction l with
  | nil => simp [Rows.uptoBulkAll]
  | cons x r ih => have := bulk_one x; simp only [Rows.uptoBulkAll, List.length_cons]; omega
theorem bulk_slice {H : Type} (elems spare : List (DataW H)) : elems.length + spare.length + 1 ≤ Rows.uptoBulk (.slice elems spare) := by
  have h1 := bulk_length elems
  have h2 := bulk_length spare
  simp only [Rows.uptoBulk]
  omega
theorem bulk_join {H : Type} (xs : List (DataW H)) : ∀ f : Nat → List Nat, (∀ i y, xs[i]? = some y → (f i).length ≤ Rows.uptoBulk y) → (Wir.join ((List.range xs.length).map f)).length ≤ Rows.uptoBulkAll xs := by
  induction xs with
  | nil => intro f _; simp [Wir.join]
  | cons x xs ih =>
    intro f h
    have h0 := h 0 x rfl
    have hr := ih (fun i => f (i + 1)) (fun i y hy => h (i + 1) y (by simpa using hy))
    have e : Wir.join ((List.range (x :: xs).length).map f) = f 0 ++ Wir.join ((List.range xs.length).map fun i => f (i + 1)) := by
      unfold Wir.join
      rw [List.length_cons, List.range_succ_eq_map, List.map_cons, List.flatten_cons, List.map_map]
      rfl
    rw [e, List.length_append]
    simp only [Rows.uptoBulkAll]
    omega

section
variable {H : Type} {enc : TypeId × Value → H} {P : Program} {w : World}
theorem trod_bytes_len {t e : TypeId} {fuel : Nat} {a : Option Addr} {len cap : Nat} {x : DataW H × List MemPlace} (ht : P.underlying t = some (.slice e)) (he : P.underlying e = some (.int .u8)) (hc : P.cellsOf e = 1)
    (h : DataW.trod enc P w 0 (fun _ => true) true fuel t [.slice a len cap] = some x) : len ≤ Rows.uptoBulk x.1 := by
  rcases open_ints ht he hc h with ⟨hcs, _⟩ | ⟨ad, l, c, zs, hcs, _, hl, _, hz, rfl, _⟩
  · simp at hcs
    have := bulk_one x.1
    omega
  · simp at hcs
    obtain ⟨rfl, rfl, rfl⟩ := hcs
    have hz : zs.length = cap := by simpa using hz
    have := bulk_slice (lits (H := H) .u8 (zs.take len)) (lits .u8 (zs.drop len))
    simp [lits] at this ⊢
    omega
theorem open_bytes_bulk {t e : TypeId} {a : Option Addr} {len cap : Nat} {d : DataW H} {p : List MemPlace} (ht : P.underlying t = some (.slice e)) (he : P.underlying e = some (.int .u8)) (hc : P.cellsOf e = 1)
    (h : DataW.Trod enc P w 0 (fun _ => true) true t (.slice a len cap) d p) : ∃ l : List Nat, Rs w (.slice a len cap) l ∧ l.length ≤ Rows.uptoBulk d := by
  obtain ⟨l, hr⟩ := open_bytes ht he hc h
  refine ⟨l, hr, ?_⟩
  obtain ⟨fuel, hf⟩ := h
  have h1 := trod_bytes_len ht he hc (show DataW.trod enc P w 0 (fun _ => true) true fuel t [.slice a len cap] = some (d, p) from hf)
  obtain ⟨a', c', e'⟩ := hr.form
  simp only [Value.slice.injEq] at e'
  obtain ⟨_, rfl, _⟩ := e'
  exact h1
theorem open_byteslists_bulk {T t e : TypeId} {a : Option Addr} {len cap : Nat} {d : DataW H} {p : List MemPlace} (hT : P.underlying T = some (.slice t)) (ht : P.underlying t = some (.slice e)) (he : P.underlying e = some (.int .u8)) (hct : P.cellsOf t = 1) (hc : P.cellsOf e = 1)
    (h : DataW.Trod enc P w 0 (fun _ => true) true T (.slice a len cap) d p) : ∃ ll : List (List Nat), Bss w (.slice a len cap) ll ∧ (Wir.join ll).length ≤ Rows.uptoBulk d ∧ ll.length ≤ Rows.uptoBulk d := by
  obtain ⟨fuel, hf⟩ := h
  rcases DataW.trod_slice hT hf with ⟨hcs, _⟩ | ⟨x, n, c, elems, rest, m, _, hcs, hx, _, hl, hm, hlen, hel, _, _⟩
  · simp [Value.cells] at hcs
    obtain ⟨rfl, rfl, rfl⟩ := hcs
    exact ⟨[], ⟨none, 0, rfl, by simp, fun h => absurd rfl h⟩, by simp [Wir.join], by simp⟩
  · simp [Value.cells] at hcs
    obtain ⟨rfl, rfl, rfl⟩ := hcs
    have each : ∀ i, ∃ l : List Nat, i < len → (∃ u, w.cell? ((x.add i).add 0) = some u ∧ Rs w u l) ∧ ∀ y, elems[i]? = some y → l.length ≤ Rows.uptoBulk y.1 := by
      intro i
      by_cases hi : i < len
      · have h1 := hel i hi
        rw [hct, Nat.mul_one] at h1
        obtain ⟨y, hy⟩ : ∃ y, elems[i]? = some y := ⟨elems[i], List.getElem?_eq_getElem (by omega)⟩
        rw [hy, Option.bind_eq_some_iff] at h1
        obtain ⟨cs, h2, h3⟩ := h1
        obtain ⟨u, rfl, hu⟩ := cells_one h2
        obtain ⟨l, hr⟩ := rs_of_trod ht he hc h3
        refine ⟨l, fun _ => ⟨⟨u, hu, hr⟩, fun y' hy' => ?_⟩⟩
        obtain rfl : y' = y := Option.some.inj (hy'.symm.trans hy)
        obtain ⟨a', c', rfl⟩ := hr.form
        exact trod_bytes_len ht he hc h3
      · exact ⟨[], fun h => absurd h hi⟩
    obtain ⟨f, hf'⟩ := Classical.axiomOfChoice each
    have hmax : maxLen = 9223372036854775807 := by decide
    have hd : d = .slice (elems.map (·.1)) (rest.map (·.1)) := congrArg Prod.fst hx
    refine ⟨(List.range len).map f, ⟨some x, cap, by simp, by simp; omega, fun hne => ?_⟩, ?_, ?_⟩
    · have h0 : 0 < len := by
        rcases Nat.eq_zero_or_pos len with rfl | h
        · simp at hne
        · exact h
      obtain ⟨u0, hu0, _⟩ := (hf' 0 h0).1
      obtain ⟨b, off, spot⟩ := x
      have hs : spot = none := by simpa [Addr.add] using World.cell?_spot hu0
      subst hs
      refine ⟨b, off, rfl, fun i hi => ?_⟩
      have hi : i < len := by simpa using hi
      obtain ⟨u, hu, hr⟩ := (hf' i hi).1
      rw [Addr.add_lit, Addr.add_lit, Nat.add_zero] at hu
      refine ⟨u, hu, ?_⟩
      have e : ((List.range len).map f).getD i [] = f i := by simp [List.getD, hi]
      rw [e]
      exact hr
    · have := bulk_join (elems.map (·.1)) f (fun i y hy => by
        rw [List.getElem?_map, Option.map_eq_some_iff] at hy
        obtain ⟨z, hz, rfl⟩ := hy
        have hi : i < len := by
          rcases Nat.lt_or_ge i elems.length with h | h
          · omega
          · rw [List.getElem?_eq_none h] at hz; cases hz
        exact (hf' i hi).2 z hz)
      rw [List.length_map, hlen] at this
      rw [hd]
      simp only [Rows.uptoBulk]
      omega
    · rw [hd]
      have := bulk_slice (elems.map (·.1)) (rest.map (·.1))
      simp at this ⊢
      omega
end
end Go.Proofs.Ytibgmoapkionjaa
