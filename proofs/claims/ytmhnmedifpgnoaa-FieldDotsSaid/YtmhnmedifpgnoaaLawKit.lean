/- Small lemmas for the rows' last step: a world of which 'Below' is known; arrays of integers by value. 'post_of_below' began as a block of the guide's extra-small.md. -/
import Derived.Test.YtmhnmedifpgnoaaRows
import Derived.WalkKit
import Derived.ProofKit
import Derived.OpenShut
import Derived.ShutString
import Derived.Lib.Hide
import Derived.Deep.Draws
namespace Go.Proofs.Ytmhnmedifpgnoaa
open Go.RowKit Go.WideShapes Go.ChangeShapes

section
variable {H : Type} {enc : TypeId × Value → H} {P : Program}
theorem post_of_below {f : Func} {s : ChangeSpec} {apart fresh handsOn again : Bool} {W W' : World} {args : Array Value} {v : Value} {ds gs : List (DataW H)} {before pa pv : List MemPlace}
    (hW : DataW.Whole enc P f.params.toList s.vars apart W args.toList ds gs before)
    (hres : ∀ (b : Nat) (sp : Nat → Bool) (hd : Bool), DataW.TrodAll enc P W' b sp hd f.resultTypes.toList (v.resultList f.resultTypes.size) (s.fn H (ds ++ gs)).results [])
    (hargs : ∀ sp : Nat → Bool, (∀ p ∈ before, sp p.block = true) → DataW.TrodAll enc P W' 0 sp true f.params.toList args.toList (s.fn H (ds ++ gs)).args pa)
    (hvars : ∀ sp : Nat → Bool, (∀ p ∈ before, sp p.block = true) → DataW.TrodVars enc P W' sp s.vars (s.fn H (ds ++ gs)).vars pv)
    (hps : before = pa ++ pv) (hb : Below W.heap.size W W')
    (hok : ∀ (j : Nat) (t : TypeId) (r : Value), f.resultTypes[j]? = some t → (v.resultList f.resultTypes.size)[j]? = some r → Value.okWide P W' .any 0 t r) :
    s.post enc P f apart fresh handsOn again W args v W' := by
  have hlt : ∀ p ∈ before, p.block < W.heap.size := fun p hp => hW.lt p hp
  have hold : ∀ p ∈ before, (fun b => decide (b < W.heap.size)) p.block = true := fun p hp => by simpa using hlt p hp
  refine ⟨ds, gs, before, [], pa, pv, hW, hres _ _ _, hargs _ hold, hvars _ hold, World.keptBut_mono (fun p hp => ⟨hp, ?_⟩) (hb.frame (· ∈ before)), fun _ => ?_⟩
  · rw [hps, List.mem_append] at hp
    exact Or.inr hp
  · obtain ⟨_, _, _, _, _, hz, hn⟩ := hW
    refine ⟨hok, _, _, ([] ++ pa) ++ pv, ⟨[] ++ pa, pv, trodAll_append (hargs _ (fun _ _ => rfl)) (hres _ _ _), hvars _ (fun _ _ => rfl), rfl, ?_, ?_⟩, ?_⟩
    · intro b off hp
      have hin : MemPlace.cell b off ∈ before := by rw [hps]; simpa using hp
      rw [hb.frozen (hlt _ hin)]
      exact hz b off hin
    · intro ha
      have := hn ha
      rw [hps] at this
      simpa using this
    · intro p hp _
      rw [hps]
      simpa using hp
end

section
variable {H : Type} {enc : TypeId × Value → H} {P : Program} {w : World} {base : Nat} {spare : Nat → Bool} {held : Bool}
theorem list_of_fun {α : Type} (n : Nat) (l : List α) (hl : l.length = n) (z : α) : l = (List.range n).map fun i => l.getD i z := by
  apply List.ext_getElem
  · simp [hl]
  · intro i h1 h2
    simp [List.getD, List.getElem?_eq_getElem h1]

/-- An array of integers by value, opened: its cells are a function of the index. -/
theorem open_int_array {r : Reach} {b0 : Nat} {t e : TypeId} {n : Nat} {k : IntKind} {v : Value} {d : DataW H} {p : List MemPlace} (ht : P.underlying t = some (.array n e)) (he : P.underlying e = some (.int k)) (hce : P.cellsOf e = 1) (hct : P.cellsOf t = n)
    (hv : Value.okWide P w r b0 t v) (h : DataW.Trod enc P w base spare held t v d p) :
    ∃ f : Nat → Int, v = .agg ((List.range n).map fun i => Value.int k (f i)).toArray ∧ ∀ i, i < n → (Lit.int k (f i)).wf = true := by
  have hv2 := hv
  unfold Value.okWide at hv2
  rw [ht] at hv2
  obtain ⟨cs, rfl, hsz, _⟩ := hv2
  obtain ⟨fuel, hf⟩ := h
  obtain ⟨xs, m, _, _, _, hl, hx⟩ := DataW.trod_array ht hf
  have hlen : cs.toList.length = n := by simp [hsz, hct]
  have hcell : ∀ i, i < n → ∃ z : Int, cs.toList[i]? = some (.int k z) ∧ (Lit.int k z).wf = true := by
    intro i hi
    have h1 := hx i hi
    rw [hce, Nat.mul_one] at h1
    obtain ⟨y, hy⟩ : ∃ y, xs[i]? = some y := ⟨xs[i], List.getElem?_eq_getElem (by omega)⟩
    rw [hy] at h1
    obtain ⟨z, hz, _, hw⟩ := DataW.trod_int he h1
    refine ⟨z, ?_, hw⟩
    have h3 : (cs.toList.drop i).take 1 = [Value.int k z] := hz
    have h4 := congrArg (fun l => l[0]?) h3
    simpa [List.getElem?_take, List.getElem?_drop] using h4
  refine ⟨fun i => intOf (cs.toList.getD i undef), ?_, ?_⟩
  · have e1 : cs.toList = (List.range n).map fun i => Value.int k (intOf (cs.toList.getD i undef)) := by
      have := list_of_fun n cs.toList hlen undef
      refine this.trans (List.map_congr_left ?_)
      intro i hi
      have hi : i < n := by simpa using hi
      obtain ⟨z, hz, _⟩ := hcell i hi
      simp only [List.getD, hz, Option.getD_some, intOf]
    have e2 : cs = ((List.range n).map fun i => Value.int k (intOf (cs.toList.getD i undef))).toArray := by
      rw [← e1]
    exact congrArg Value.agg e2
  · intro i hi
    obtain ⟨z, hz, hw⟩ := hcell i hi
    simpa only [List.getD, hz, Option.getD_some, intOf] using hw
end

theorem Below.alloc2 {B : Nat} {a w : World} (h : Below B a w) (hB : B ≤ a.heap.size) (o : Obj) : Below B a (w.alloc o) := h.alloc (Nat.le_trans hB h.size) o
theorem Below.drew2 {B : Nat} {a w : World} (h : Below B a w) (n : Nat) : Below B a (w.drewN n) := ⟨h.os, h.tape, h.output, h.size, h.block⟩
end Go.Proofs.Ytmhnmedifpgnoaa
