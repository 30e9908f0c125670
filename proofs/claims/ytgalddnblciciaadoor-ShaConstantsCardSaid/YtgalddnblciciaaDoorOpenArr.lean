/- The rows' last step for arrays of integers by value: what such an argument is. -/
import Derived.Test.YtgalddnblciciaaDoorRows
import Derived.WalkKit
import Derived.ProofKit
import Derived.OpenShut
namespace Go.Proofs.YtgalddnblciciaaDoor
open Go.RowKit Go.WideShapes Go.ChangeShapes

section
variable {H : Type} {enc : TypeId × Value → H} {P : Program} {w : World} {base : Nat} {spare : Nat → Bool} {held : Bool}
theorem list_of_fun {α : Type} (n : Nat) (l : List α) (hl : l.length = n) (z : α) : l = (List.range n).map fun i => l.getD i z := by
  apply List.ext_getElem
  · simp [hl]
  · intro i h1 h2
    simp [List.getD, List.getElem?_eq_getElem h1]

/-- An array of integers by value, opened: its cells are a function of the index. -/
theorem open_int_array {r : Reach} {b0 : Nat} {t e : TypeId} {n : Nat} {k : IntKind} {v : Value} {d : DataW H} {p : List MemPlace} (ht : P.underlying t = some (.array n e)) (he : P.underlying e = some (.int k)) (hce : P.cellsOf e = 1) (hct : P.cellsOf t = n)
    (hv : Value.okWide P w r b0 t v) (h : DataW.Trod enc P w base spare held t v d p) :
    ∃ f : Nat → Int, v = .agg ((List.range n).map fun i => Value.int k (f i)).toArray ∧ ∀ i, i < n → (Lit.int k (f i)).wf = true := by
  have hv2 := hv
  unfold Value.okWide at hv2
  rw [ht] at hv2
  obtain ⟨cs, rfl, hsz, _⟩ := hv2
  obtain ⟨fuel, hf⟩ := h
  obtain ⟨xs, m, _, _, _, hl, hx⟩ := DataW.trod_array ht hf
  have hlen : cs.toList.length = n := by simp [hsz, hct]
  have hcell : ∀ i, i < n → ∃ z : Int, cs.toList[i]? = some (.int k z) ∧ (Lit.int k z).wf = true := by
    intro i hi
    have h1 := hx i hi
    rw [hce, Nat.mul_one] at h1
    obtain ⟨y, hy⟩ : ∃ y, xs[i]? = some y := ⟨xs[i], List.getElem?_eq_getElem (by omega)⟩
    rw [hy] at h1
    obtain ⟨z, hz, _, hw⟩ := DataW.trod_int he h1
    refine ⟨z, ?_, hw⟩
    have h3 : (cs.toList.drop i).take 1 = [Value.int k z] := hz
    have h4 := congrArg (fun l => l[0]?) h3
    simpa [List.getElem?_take, List.getElem?_drop] using h4
  refine ⟨fun i => intOf (cs.toList.getD i undef), ?_, ?_⟩
  · have e1 : cs.toList = (List.range n).map fun i => Value.int k (intOf (cs.toList.getD i undef)) := by
      have := list_of_fun n cs.toList hlen undef
      refine this.trans (List.map_congr_left ?_)
      intro i hi
      have hi : i < n := by simpa using hi
      obtain ⟨z, hz, _⟩ := hcell i hi
      simp only [List.getD, hz, Option.getD_some, intOf]
    have e2 : cs = ((List.range n).map fun i => Value.int k (intOf (cs.toList.getD i undef))).toArray := by
      rw [← e1]
    exact congrArg Value.agg e2
  · intro i hi
    obtain ⟨z, hz, hw⟩ := hcell i hi
    simpa only [List.getD, hz, Option.getD_some, intOf] using hw
end

end Go.Proofs.YtgalddnblciciaaDoor
