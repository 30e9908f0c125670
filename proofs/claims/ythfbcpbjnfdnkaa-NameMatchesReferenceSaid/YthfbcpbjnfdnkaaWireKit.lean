/- The rows' last step for bytes: what an argument of type []byte reads as. -/
import Derived.Test.YthfbcpbjnfdnkaaWireAwake
import Derived.Test.YthfbcpbjnfdnkaaWireMathB
import Derived.ProofKit
import Derived.OpenShut
namespace Go.Proofs.Ythfbcpbjnfdnkaa
open Go.RowKit Go.WideShapes Go.ChangeShapes

section
variable {H : Type} {enc : TypeId × Value → H} {P : Program} {w : World}
theorem open_bytes {t e : TypeId} {a : Option Addr} {len cap : Nat} {d : DataW H} {p : List MemPlace} (ht : P.underlying t = some (.slice e)) (he : P.underlying e = some (.int .u8)) (hc : P.cellsOf e = 1)
    (h : DataW.Trod enc P w 0 (fun _ => true) true t (.slice a len cap) d p) : ∃ l : List Nat, Rs w (.slice a len cap) l := by
  obtain ⟨fuel, hf⟩ := h
  rcases open_ints ht he hc hf with ⟨hcs, _⟩ | ⟨x, l, c, zs, hcs, _, hl, hm, hz, _, hcell, hwz⟩
  · simp [Value.cells] at hcs
    obtain ⟨rfl, rfl, rfl⟩ := hcs
    exact ⟨[], AllB.nil, by simp, .inl ⟨rfl, rfl⟩⟩
  · simp [Value.cells] at hcs
    obtain ⟨rfl, rfl, rfl⟩ := hcs
    have hz : zs.length = cap := by simpa using hz
    have hlen : ((zs.take len).map Int.toNat).length = len := by simp; omega
    have hb : ∀ z, z ∈ zs → 0 ≤ z ∧ z ≤ 255 := fun z hz => bounds_u8 (hwz z hz)
    have hmax : maxLen = 9223372036854775807 := by decide
    refine ⟨(zs.take len).map Int.toNat, ?_, by omega, .inr ⟨x, cap, by rw [hlen], by rw [hlen]; omega, fun i hi => ?_⟩⟩
    · intro y hy
      obtain ⟨z, hz, rfl⟩ := List.mem_map.1 hy
      have := hb z (List.mem_of_mem_take hz)
      omega
    · rw [hlen] at hi
      have hi2 : i < zs.length := by omega
      rw [hcell i hi2]
      have e1 : zs.getD i 0 = zs[i] := by simp [List.getD, hi2]
      have e2 : ((zs.take len).map Int.toNat).getD i 0 = zs[i].toNat := by simp [List.getD, List.getElem?_take, hi, hi2]
      rw [e1, e2]
      have := hb _ (List.getElem_mem hi2)
      show some (Value.int .u8 zs[i]) = some (Value.int .u8 (zs[i].toNat : Int))
      congr 2
      omega
end

/-- What a put returns, whichever way. -/
def RetPut2 (o : Option (List Nat)) (w : World) (e : Ending) (w' : World) : Prop :=
  ∃ v, e = .returned (.tuple #[v, .bool o.isSome]) ∧ Own w' w.heap.size v (o.getD []) ∧ Below w.heap.size w w'
theorem put2 {o : Option (List Nat)} {w : World} {e : Ending} {w' : World} (h : RetPut o w e w') : RetPut2 o w e w' := by
  obtain ⟨hb, ⟨rfl, rfl⟩ | ⟨l, v, rfl, rfl, ho⟩⟩ := h
  · exact ⟨_, rfl, Own.nil _ _, hb⟩
  · exact ⟨v, rfl, ho, hb⟩
theorem wireNumber_any (k : Int) (x : Nat) (w : World) (hx : x < 18446744073709551616) : Calls Try.prog 13 #[.int .i64 k, .int .u64 x] w (RetPut2 (Wir.putNumber k x) w) := by
  have h : Calls Try.prog 13 #[.int .i64 k, .int .u64 x] w (RetPut (Wir.putNumber k x) w) := by
    by_cases hk : k < 1 ∨ 8 < k
    · exact putNumber_out k _ w hk
    · obtain ⟨m, rfl⟩ := Int.eq_ofNat_of_zero_le (show 0 ≤ k by omega)
      by_cases hf : x < 256 ^ m
      · exact putNumber_fits m _ w (by omega) (by omega) hf
      · refine putNumber_big m _ w (by omega) ?_ (by omega)
        rcases Nat.lt_or_ge m 8 with h | h
        · exact h
        · have : 256 ^ 8 ≤ 256 ^ m := Nat.pow_le_pow_right (by omega) h
          have h8 : (256 : Nat) ^ 8 = 18446744073709551616 := by decide
          omega
  exact h.mono fun _ _ => put2
end Go.Proofs.Ythfbcpbjnfdnkaa
