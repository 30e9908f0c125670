/- What an argument of type [][]byte or []Op reads as. -/
import Derived.Test.YthfbcpbjnfdnkaaWireKit
namespace Go.Proofs.Ythfbcpbjnfdnkaa
open Go.RowKit Go.WideShapes Go.ChangeShapes

section
variable {H : Type} {enc : TypeId × Value → H} {P : Program} {w : World}
theorem rs_of_trod {t e : TypeId} {fuel : Nat} {u : Value} {x : DataW H × List MemPlace} (ht : P.underlying t = some (.slice e)) (he : P.underlying e = some (.int .u8)) (hc : P.cellsOf e = 1)
    (h : DataW.trod enc P w 0 (fun _ => true) true fuel t [u] = some x) : ∃ l : List Nat, Rs w u l := by
  rcases open_ints ht he hc h with ⟨hcs, _⟩ | ⟨a, len, cap, zs, hcs, _⟩
  · simp at hcs
    subst hcs
    exact ⟨[], AllB.nil, by simp, .inl ⟨rfl, rfl⟩⟩
  · simp at hcs
    subst hcs
    exact open_bytes (d := x.1) (p := x.2) ht he hc ⟨fuel, h⟩
theorem cells_one {a : Addr} {cs : List Value} (h : w.cells? 0 a 1 = some cs) : ∃ u, cs = [u] ∧ w.cell? (a.add 0) = some u := by
  simp [World.cells?, List.range_succ] at h
  cases hc : w.cell? (a.add 0) with
  | none => rw [hc] at h; simp at h
  | some u => rw [hc] at h; simp at h; exact ⟨u, h.symm, rfl⟩
theorem cells_two {a : Addr} {cs : List Value} (h : w.cells? 0 a 2 = some cs) : ∃ u v, cs = [u, v] ∧ w.cell? (a.add 0) = some u ∧ w.cell? (a.add 1) = some v := by
  simp [World.cells?, List.range_succ] at h
  cases hc : w.cell? (a.add 0) with
  | none => rw [hc] at h; simp at h
  | some u =>
    cases hd : w.cell? (a.add 1) with
    | none => rw [hc, hd] at h; simp at h
    | some v => rw [hc, hd] at h; simp at h; exact ⟨u, v, h.symm, rfl, rfl⟩

theorem open_byteslists {T t e : TypeId} {a : Option Addr} {len cap : Nat} {d : DataW H} {p : List MemPlace} (hT : P.underlying T = some (.slice t)) (ht : P.underlying t = some (.slice e)) (he : P.underlying e = some (.int .u8)) (hct : P.cellsOf t = 1) (hc : P.cellsOf e = 1)
    (h : DataW.Trod enc P w 0 (fun _ => true) true T (.slice a len cap) d p) : ∃ ll : List (List Nat), Bss w (.slice a len cap) ll := by
  obtain ⟨fuel, hf⟩ := h
  rcases DataW.trod_slice hT hf with ⟨hcs, _⟩ | ⟨x, n, c, elems, rest, m, _, hcs, _, _, hl, hm, hlen, hel, _, _⟩
  · simp [Value.cells] at hcs
    obtain ⟨rfl, rfl, rfl⟩ := hcs
    exact ⟨[], none, 0, rfl, by simp, fun h => absurd rfl h⟩
  · simp [Value.cells] at hcs
    obtain ⟨rfl, rfl, rfl⟩ := hcs
    have each : ∀ i, ∃ l : List Nat, i < len → ∃ u, w.cell? ((x.add i).add 0) = some u ∧ Rs w u l := by
      intro i
      by_cases hi : i < len
      · have h1 := hel i hi
        rw [hct, Nat.mul_one] at h1
        obtain ⟨y, hy⟩ : ∃ y, elems[i]? = some y := ⟨elems[i], List.getElem?_eq_getElem (by omega)⟩
        rw [hy, Option.bind_eq_some_iff] at h1
        obtain ⟨cs, h2, h3⟩ := h1
        obtain ⟨u, rfl, hu⟩ := cells_one h2
        obtain ⟨l, hr⟩ := rs_of_trod ht he hc h3
        exact ⟨l, fun _ => ⟨u, hu, hr⟩⟩
      · exact ⟨[], fun h => absurd h hi⟩
    obtain ⟨f, hf⟩ := Classical.axiomOfChoice each
    have hmax : maxLen = 9223372036854775807 := by decide
    refine ⟨(List.range len).map f, some x, cap, by simp, by simp; omega, fun hne => ?_⟩
    have h0 : 0 < len := by
      rcases Nat.eq_zero_or_pos len with rfl | h
      · simp at hne
      · exact h
    obtain ⟨u0, hu0, _⟩ := hf 0 h0
    obtain ⟨b, off, spot⟩ := x
    have hs : spot = none := by simpa [Addr.add] using World.cell?_spot hu0
    subst hs
    refine ⟨b, off, rfl, fun i hi => ?_⟩
    have hi : i < len := by simpa using hi
    obtain ⟨u, hu, hr⟩ := hf i hi
    rw [Addr.add_lit, Addr.add_lit, Nat.add_zero] at hu
    refine ⟨u, hu, ?_⟩
    have e : ((List.range len).map f).getD i [] = f i := by simp [List.getD, hi]
    rw [e]
    exact hr
end

/-- A slice of operations: pairs of numbers. -/
def Ops (w : World) (v : Value) (ks : List (Int × Int)) : Prop :=
  ∃ a cap, v = .slice a ks.length cap ∧ ks.length ≤ 9223372036854775807 ∧ (∀ k, k ∈ ks → (-9223372036854775808 ≤ k.1 ∧ k.1 ≤ 9223372036854775807) ∧ -9223372036854775808 ≤ k.2 ∧ k.2 ≤ 9223372036854775807) ∧
    (ks ≠ [] → ∃ b off, a = some ⟨b, off, none⟩ ∧ ∀ i, i < ks.length → w.cell? ⟨b, off + i * 2, none⟩ = some (.int .i64 (ks.getD i (0, 0)).1) ∧ w.cell? ⟨b, off + i * 2 + 1, none⟩ = some (.int .i64 (ks.getD i (0, 0)).2))
theorem Ops.below {w w' : World} {v : Value} {ks : List (Int × Int)} (h : Ops w v ks) (k : Below w.heap.size w w') : Ops w' v ks := by
  obtain ⟨a, cap, rfl, hl, hw, h⟩ := h
  refine ⟨_, cap, rfl, hl, hw, fun hne => ?_⟩
  obtain ⟨b, off, rfl, hc⟩ := h hne
  refine ⟨b, off, rfl, fun i hi => ?_⟩
  obtain ⟨h1, h2⟩ := hc i hi
  exact ⟨(k.cell (World.block_lt_of_cell? w _ h1)).trans h1, (k.cell (World.block_lt_of_cell? w _ h2)).trans h2⟩
theorem Ops.form {w : World} {v : Value} {ks : List (Int × Int)} (h : Ops w v ks) : ∃ a cap, v = .slice a ks.length cap := by
  obtain ⟨a, cap, h, _⟩ := h; exact ⟨a, cap, h⟩
theorem Ops.at {w : World} {a : Option Addr} {n cap : Nat} {ks : List (Int × Int)} (h : Ops w (.slice a n cap) ks) {i : Nat} (hi : i < ks.length) : ∃ b off, a = some ⟨b, off, none⟩ ∧ w.cell? ⟨b, off + i * 2, none⟩ = some (.int .i64 (ks.getD i (0, 0)).1) ∧ w.cell? ⟨b, off + i * 2 + 1, none⟩ = some (.int .i64 (ks.getD i (0, 0)).2) := by
  obtain ⟨a', cap', h', _, _, h⟩ := h
  simp only [Value.slice.injEq] at h'
  obtain ⟨rfl, -, -⟩ := h'
  obtain ⟨b, off, rfl, hc⟩ := h (by rintro rfl; simp at hi)
  exact ⟨b, off, rfl, (hc i hi).1, (hc i hi).2⟩
theorem Ops.bound {w : World} {v : Value} {ks : List (Int × Int)} (h : Ops w v ks) (i : Nat) : (-9223372036854775808 ≤ (ks.getD i (0, 0)).1 ∧ (ks.getD i (0, 0)).1 ≤ 9223372036854775807) ∧ -9223372036854775808 ≤ (ks.getD i (0, 0)).2 ∧ (ks.getD i (0, 0)).2 ≤ 9223372036854775807 := by
  obtain ⟨_, _, _, _, hw, _⟩ := h
  by_cases hi : i < ks.length
  · have e : ks.getD i (0, 0) = ks[i] := by simp [List.getD, hi]
    rw [e]
    exact hw _ (List.getElem_mem hi)
  · have e : ks.getD i (0, 0) = (0, 0) := by simp [List.getD, List.getElem?_eq_none (Nat.le_of_not_lt hi)]
    rw [e]
    constructor <;> constructor <;> decide

theorem cellsOp : Try.prog.cellsOf 42 = 2 := by kernel_rfl
theorem cellsInt : Try.prog.cellsOf 3 = 1 := by kernel_rfl
theorem open_ops {H : Type} {enc : TypeId × Value → H} {w : World} {a : Option Addr} {len cap : Nat} {d : DataW H} {p : List MemPlace}
    (h : DataW.Trod enc Try.prog w 0 (fun _ => true) true 38 (.slice a len cap) d p) : ∃ ks : List (Int × Int), Ops w (.slice a len cap) ks := by
  obtain ⟨fuel, hf⟩ := h
  rcases DataW.trod_slice Try.underlying38 hf with ⟨hcs, _⟩ | ⟨x, n, c, elems, rest, m, _, hcs, _, _, hl, hm, hlen, hel, _, _⟩
  · simp [Value.cells] at hcs
    obtain ⟨rfl, rfl, rfl⟩ := hcs
    exact ⟨[], none, 0, rfl, by simp, by simp, fun h => absurd rfl h⟩
  · simp [Value.cells] at hcs
    obtain ⟨rfl, rfl, rfl⟩ := hcs
    have each : ∀ i, ∃ k : Int × Int, ((-9223372036854775808 ≤ k.1 ∧ k.1 ≤ 9223372036854775807) ∧ -9223372036854775808 ≤ k.2 ∧ k.2 ≤ 9223372036854775807) ∧ (i < len → w.cell? ((x.add (i * 2)).add 0) = some (.int .i64 k.1) ∧ w.cell? ((x.add (i * 2)).add 1) = some (.int .i64 k.2)) := by
      intro i
      by_cases hi : i < len
      · have h1 := hel i hi
        rw [cellsOp] at h1
        obtain ⟨y, hy⟩ : ∃ y, elems[i]? = some y := ⟨elems[i], List.getElem?_eq_getElem (by omega)⟩
        rw [hy, Option.bind_eq_some_iff] at h1
        obtain ⟨cs, h2, h3⟩ := h1
        obtain ⟨u, v, rfl, hu, hv⟩ := cells_two h2
        obtain ⟨y0, y1, n', _, _, t0, t1⟩ := trod_struct2 Try.underlying42 h3
        simp [cellsInt] at t0 t1
        obtain ⟨k0, e0, _, w0⟩ := DataW.trod_int Try.underlying3 t0
        obtain ⟨k1, e1, _, w1⟩ := DataW.trod_int Try.underlying3 t1
        simp at e0 e1
        subst e0 e1
        exact ⟨(k0, k1), ⟨bounds_i64 w0, bounds_i64 w1⟩, fun _ => ⟨hu, hv⟩⟩
      · exact ⟨(0, 0), by constructor <;> constructor <;> decide, fun h => absurd h hi⟩
    obtain ⟨f, hf⟩ := Classical.axiomOfChoice each
    have hmax : maxLen = 9223372036854775807 := by decide
    refine ⟨(List.range len).map f, some x, cap, by simp, by simp; omega, fun k hk => ?_, fun hne => ?_⟩
    · obtain ⟨i, _, rfl⟩ := List.mem_map.1 hk
      exact (hf i).1
    have h0 : 0 < len := by
      rcases Nat.eq_zero_or_pos len with rfl | h
      · simp at hne
      · exact h
    obtain ⟨hu0, _⟩ := (hf 0).2 h0
    obtain ⟨b, off, spot⟩ := x
    have hs : spot = none := by simpa [Addr.add] using World.cell?_spot hu0
    subst hs
    refine ⟨b, off, rfl, fun i hi => ?_⟩
    have hi : i < len := by simpa using hi
    obtain ⟨hu, hv⟩ := (hf i).2 hi
    rw [Addr.add_lit, Addr.add_lit, Nat.add_zero] at hu
    rw [Addr.add_lit, Addr.add_lit] at hv
    have e : ((List.range len).map f).getD i (0, 0) = f i := by simp [List.getD, hi]
    rw [e]
    exact ⟨hu, hv⟩
end Go.Proofs.Ythfbcpbjnfdnkaa
