/- The rows' last step for bytes: what an argument of type []byte or [][]byte reads as. -/
import Derived.Test.YtibgmoapkionjaaMem
import Derived.ProofKit
import Derived.OpenShut
namespace Go.Proofs.Ytibgmoapkionjaa
open Go.RowKit Go.WideShapes Go.ChangeShapes

section
variable {H : Type} {enc : TypeId × Value → H} {P : Program} {w : World}
theorem open_bytes {t e : TypeId} {a : Option Addr} {len cap : Nat} {d : DataW H} {p : List MemPlace} (ht : P.underlying t = some (.slice e)) (he : P.underlying e = some (.int .u8)) (hc : P.cellsOf e = 1)
    (h : DataW.Trod enc P w 0 (fun _ => true) true t (.slice a len cap) d p) : ∃ l : List Nat, Rs w (.slice a len cap) l := by
  obtain ⟨fuel, hf⟩ := h
  rcases open_ints ht he hc hf with ⟨hcs, _⟩ | ⟨x, l, c, zs, hcs, _, hl, hm, hz, _, hcell, hwz⟩
  · simp [Value.cells] at hcs
    obtain ⟨rfl, rfl, rfl⟩ := hcs
    exact ⟨[], AllB.nil, by simp, .inl ⟨rfl, rfl⟩⟩
  · simp [Value.cells] at hcs
    obtain ⟨rfl, rfl, rfl⟩ := hcs
    have hz : zs.length = cap := by simpa using hz
    have hlen : ((zs.take len).map Int.toNat).length = len := by simp; omega
    have hb : ∀ z, z ∈ zs → 0 ≤ z ∧ z ≤ 255 := fun z hz => bounds_u8 (hwz z hz)
    have hmax : maxLen = 9223372036854775807 := by decide
    refine ⟨(zs.take len).map Int.toNat, ?_, by omega, .inr ⟨x, cap, by rw [hlen], by rw [hlen]; omega, fun i hi => ?_⟩⟩
    · intro y hy
      obtain ⟨z, hz, rfl⟩ := List.mem_map.1 hy
      have := hb z (List.mem_of_mem_take hz)
      omega
    · rw [hlen] at hi
      have hi2 : i < zs.length := by omega
      rw [hcell i hi2]
      have e1 : zs.getD i 0 = zs[i] := by simp [List.getD, hi2]
      have e2 : ((zs.take len).map Int.toNat).getD i 0 = zs[i].toNat := by simp [List.getD, List.getElem?_take, hi, hi2]
      rw [e1, e2]
      have := hb _ (List.getElem_mem hi2)
      show some (Value.int .u8 zs[i]) = some (Value.int .u8 (zs[i].toNat : Int))
      congr 2
      omega
end

section
variable {H : Type} {enc : TypeId × Value → H} {P : Program} {w : World}
theorem rs_of_trod {t e : TypeId} {fuel : Nat} {u : Value} {x : DataW H × List MemPlace} (ht : P.underlying t = some (.slice e)) (he : P.underlying e = some (.int .u8)) (hc : P.cellsOf e = 1)
    (h : DataW.trod enc P w 0 (fun _ => true) true fuel t [u] = some x) : ∃ l : List Nat, Rs w u l := by
  rcases open_ints ht he hc h with ⟨hcs, _⟩ | ⟨a, len, cap, zs, hcs, _⟩
  · simp at hcs
    subst hcs
    exact ⟨[], AllB.nil, by simp, .inl ⟨rfl, rfl⟩⟩
  · simp at hcs
    subst hcs
    exact open_bytes (d := x.1) (p := x.2) ht he hc ⟨fuel, h⟩
theorem cells_one {a : Addr} {cs : List Value} (h : w.cells? 0 a 1 = some cs) : ∃ u, cs = [u] ∧ w.cell? (a.add 0) = some u := by
  simp [World.cells?, List.range_succ] at h
  cases hc : w.cell? (a.add 0) with
  | none => rw [hc] at h; simp at h
  | some u => rw [hc] at h; simp at h; exact ⟨u, h.symm, rfl⟩
theorem cells_two {a : Addr} {cs : List Value} (h : w.cells? 0 a 2 = some cs) : ∃ u v, cs = [u, v] ∧ w.cell? (a.add 0) = some u ∧ w.cell? (a.add 1) = some v := by
  simp [World.cells?, List.range_succ] at h
  cases hc : w.cell? (a.add 0) with
  | none => rw [hc] at h; simp at h
  | some u =>
    cases hd : w.cell? (a.add 1) with
    | none => rw [hc, hd] at h; simp at h
    | some v => rw [hc, hd] at h; simp at h; exact ⟨u, v, h.symm, rfl, rfl⟩

theorem open_byteslists {T t e : TypeId} {a : Option Addr} {len cap : Nat} {d : DataW H} {p : List MemPlace} (hT : P.underlying T = some (.slice t)) (ht : P.underlying t = some (.slice e)) (he : P.underlying e = some (.int .u8)) (hct : P.cellsOf t = 1) (hc : P.cellsOf e = 1)
    (h : DataW.Trod enc P w 0 (fun _ => true) true T (.slice a len cap) d p) : ∃ ll : List (List Nat), Bss w (.slice a len cap) ll := by
  obtain ⟨fuel, hf⟩ := h
  rcases DataW.trod_slice hT hf with ⟨hcs, _⟩ | ⟨x, n, c, elems, rest, m, _, hcs, _, _, hl, hm, hlen, hel, _, _⟩
  · simp [Value.cells] at hcs
    obtain ⟨rfl, rfl, rfl⟩ := hcs
    exact ⟨[], none, 0, rfl, by simp, fun h => absurd rfl h⟩
  · simp [Value.cells] at hcs
    obtain ⟨rfl, rfl, rfl⟩ := hcs
    have each : ∀ i, ∃ l : List Nat, i < len → ∃ u, w.cell? ((x.add i).add 0) = some u ∧ Rs w u l := by
      intro i
      by_cases hi : i < len
      · have h1 := hel i hi
        rw [hct, Nat.mul_one] at h1
        obtain ⟨y, hy⟩ : ∃ y, elems[i]? = some y := ⟨elems[i], List.getElem?_eq_getElem (by omega)⟩
        rw [hy, Option.bind_eq_some_iff] at h1
        obtain ⟨cs, h2, h3⟩ := h1
        obtain ⟨u, rfl, hu⟩ := cells_one h2
        obtain ⟨l, hr⟩ := rs_of_trod ht he hc h3
        exact ⟨l, fun _ => ⟨u, hu, hr⟩⟩
      · exact ⟨[], fun h => absurd h hi⟩
    obtain ⟨f, hf⟩ := Classical.axiomOfChoice each
    have hmax : maxLen = 9223372036854775807 := by decide
    refine ⟨(List.range len).map f, some x, cap, by simp, by simp; omega, fun hne => ?_⟩
    have h0 : 0 < len := by
      rcases Nat.eq_zero_or_pos len with rfl | h
      · simp at hne
      · exact h
    obtain ⟨u0, hu0, _⟩ := hf 0 h0
    obtain ⟨b, off, spot⟩ := x
    have hs : spot = none := by simpa [Addr.add] using World.cell?_spot hu0
    subst hs
    refine ⟨b, off, rfl, fun i hi => ?_⟩
    have hi : i < len := by simpa using hi
    obtain ⟨u, hu, hr⟩ := hf i hi
    rw [Addr.add_lit, Addr.add_lit, Nat.add_zero] at hu
    refine ⟨u, hu, ?_⟩
    have e : ((List.range len).map f).getD i [] = f i := by simp [List.getD, hi]
    rw [e]
    exact hr
end

end Go.Proofs.Ytibgmoapkionjaa
