/- The rows' last step for names: what an argument of type api.Name reads as. -/
import Derived.Test.YthfbcpbjnfdnkaaNameP
import Derived.Test.YthfbcpbjnfdnkaaWireKit
import Derived.Lib.SmallJoins
import Derived.SliceStrings
import Derived.ChangeMaps5
namespace Go.Proofs.Ythfbcpbjnfdnkaa
open Go.RowKit Go.Deep Go.ChangeShapes Go.WideShapes

section
variable {H : Type} {enc : TypeId × Value → H} {w : World}
theorem open_name {r : Reach} {b0 : Nat} {v : Value} {d : DataW H} {p : List MemPlace} (hv : Value.okWide Try.prog w r b0 53 v)
    (h : DataW.Trod enc Try.prog w 0 (fun _ => true) true 53 v d p) : ∃ (q : ByteArray) (u : Value) (ss : List ByteArray), v = .agg #[.string q, u] ∧ q.size ≤ maxLen ∧ Ss w u ss := by
  obtain ⟨v0, v1, y0, y1, n, rfl, -, -, h0, h1⟩ := Joins.open_agg2 Try.underlying53 (by kernel_rfl) (by kernel_rfl) hv h
  obtain ⟨q, hq, -, hs⟩ := DataW.trod_string Try.underlying9 h0
  simp at hq
  subst hq
  refine ⟨q, v1, ?_⟩
  rcases open_strings Try.underlying51 Try.underlying9 (by kernel_rfl) h1 with ⟨hc, _⟩ | ⟨a, len, cap, ss, hc, _, hl, hm, hsl, _, hcell, hall⟩
  · simp at hc
    subst hc
    exact ⟨[], rfl, hs, Ss.nil w⟩
  · simp at hc
    subst hc
    have hsl : ss.length = cap := by simpa using hsl
    have hmax : maxLen = 9223372036854775807 := by decide
    have htl : (ss.take len).length = len := by simp; omega
    refine ⟨ss.take len, rfl, hs, fun s hs => hall s (List.mem_of_mem_take hs), by omega, .inr ⟨a, cap, by rw [htl], by rw [htl]; omega, fun i hi => ?_⟩⟩
    rw [htl] at hi
    rw [hcell i (by omega)]
    simp [List.getElem?_take, hi]
end
end Go.Proofs.Ythfbcpbjnfdnkaa
