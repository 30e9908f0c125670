/- A region that draws its order, walked by hand over one condition on the world: loads of whole arrays taken first, calls in a forced order. No function of the program. -/
import Derived.Test.YthfbcpbjnfdnkaaArr
import Derived.Deep.RegionHeld3
import Derived.Deep.MidRow
namespace Go.Proofs.Ythfbcpbjnfdnkaa
open Go.RowKit Go.Deep

theorem below_then {a b c : World} (h : Below a.heap.size a b) (k : Below b.heap.size b c) : Below a.heap.size a c := h.trans (k.mono h.size)
section
variable {P : Program} {ops : Array Oper} {Q : Exit → Act → World → Prop} {md : Region.Mode} {S : World → Prop} {fuel : Nat} {listed : Array Bool} {a : Act} {w : World}
/-- A load of a whole array is taken first. -/
theorem held_load (i : Nat) (dst : Option Tmp) {oi : Oper} (hi : ops[i]? = some oi) (hdst : oi.dst = dst) (hs : Region.noSelect ops = true) (hf : Region.free md ops listed i = true) (hr : (Region.ready md ops listed).contains i = true)
    (hQ2 : ∀ c a v w, Q (.panic c) (a.put dst v) w → Q (.panic c) a w) (hw : Region.wanted oi (yielded ops a.tmps) = true) (ty : TypeId) (x : Operand) (ho : oi.op = .load ty x)
    (ad : Addr) (hx : a.eval x = .pointer (some ad)) (cs : Array Value) (d : TypeDesc) (hc : ∀ w, S w → ∀ j v, cs[j]? = some v → w.cell? (ad.add j) = some v)
    (hu : P.underlying ty = some d) (hd : (match d with | .struct _ | .array _ _ => true | _ => false) = true) (hz : (P.info? ty).map (·.size) = some cs.size) (hS : S w)
    (h : wpAnyH P md ops Q S fuel (listed.setIfInBounds i true) (a.put dst (.agg cs)) w) : wpAnyH P md ops Q S (fuel + 1) listed a w := by
  subst hdst
  refine wpAnyH_take hi hs hf hr (fun c a w => hQ2 c a _ w) (.inl ⟨hw, fun w' hw' => ?_⟩) hS h
  unfold execOp
  simp only [ho, hx, Instr.loadAt, Instr.sureAddr, Sem.run_bind, Sem.run_pure, Result.andThen_ok, run_loadVar_arr w' ad ty cs d (hc w' hw') hu hd hz]
/-- A call that alone may come up, by its contract. -/
theorem held_call (i : Nat) (dst : Option Tmp) {o : Oper} (hr : Region.ready md ops listed = [i]) (ho : ops[i]? = some o) (hdst : o.dst = dst) (hw : Region.wanted o (yielded ops a.tmps) = true) (f : FuncId) (args : Array Value) (hrun : (execOp a.eval o).run P w = .ok (.enter f args) w)
    (h : Calls P f args w fun e w' => ∃ v, e = .returned v ∧ S w' ∧ wpAnyH P md ops Q S fuel (listed.setIfInBounds i true) (a.put dst v) w') : wpAnyH P md ops Q S (fuel + 1) listed a w := by
  subst hdst
  refine wpAnyH_ready hr (by simp) (AllReadyH.cons ho (fun K hK => ?_) AllReadyH.nil)
  rw [if_pos hw]
  unfold Oper.wp
  rw [hrun, Oper.upon_enter]
  refine h.mono fun e w' hh => ?_
  obtain ⟨v, rfl, hS, hn⟩ := hh
  exact hK.out _ _ hS (fun _ => hn)
/-- An operation that alone may come up and yields its value. -/
theorem held_value (i : Nat) (dst : Option Tmp) {o : Oper} (hr : Region.ready md ops listed = [i]) (ho : ops[i]? = some o) (hdst : o.dst = dst) (hw : Region.wanted o (yielded ops a.tmps) = true) (v : Value) (hrun : (execOp a.eval o).run P w = .ok (.value v) w) (hS : S w)
    (h : wpAnyH P md ops Q S fuel (listed.setIfInBounds i true) (a.put dst v) w) : wpAnyH P md ops Q S (fuel + 1) listed a w := by
  subst hdst
  refine wpAnyH_ready hr (by simp) (AllReadyH.cons ho (fun K hK => ?_) AllReadyH.nil)
  rw [if_pos hw]
  unfold Oper.wp
  rw [hrun, Oper.upon_value]
  exact hK.out _ _ hS (fun _ => h)
/-- The operation i is carried out next, and the rest in whatever order. -/
def HStep (P : Program) (md : Region.Mode) (ops : Array Oper) (Q : Exit → Act → World → Prop) (S : World → Prop) (fuel : Nat) (listed : Array Bool) (a : Act) (w : World) (i : Nat) (o : Oper) : Prop :=
  ∀ K' : Act → World → Prop, Shut (∀ a w, S w → (S w → wpAnyH P md ops Q S fuel (listed.setIfInBounds i true) a w) → K' a w) → if Region.wanted o (yielded ops a.tmps) = true then Oper.wp P o a w K' Q else K' (a.put o.dst undef) w
theorem held_one (i : Nat) {o : Oper} (hr : Region.ready md ops listed = [i]) (ho : ops[i]? = some o) (h : HStep P md ops Q S fuel listed a w i o) : wpAnyH P md ops Q S (fuel + 1) listed a w :=
  wpAnyH_ready hr (by simp) (AllReadyH.cons ho h AllReadyH.nil)
theorem held_two (i j : Nat) {oi oj : Oper} (hr : Region.ready md ops listed = [i, j]) (hi : ops[i]? = some oi) (hj : ops[j]? = some oj) (h1 : HStep P md ops Q S fuel listed a w i oi) (h2 : HStep P md ops Q S fuel listed a w j oj) : wpAnyH P md ops Q S (fuel + 1) listed a w :=
  wpAnyH_ready hr (by simp) (AllReadyH.cons hi h1 (AllReadyH.cons hj h2 AllReadyH.nil))
theorem held_three (i j k : Nat) {oi oj ok : Oper} (hr : Region.ready md ops listed = [i, j, k]) (hi : ops[i]? = some oi) (hj : ops[j]? = some oj) (hk : ops[k]? = some ok) (h1 : HStep P md ops Q S fuel listed a w i oi) (h2 : HStep P md ops Q S fuel listed a w j oj) (h3 : HStep P md ops Q S fuel listed a w k ok) : wpAnyH P md ops Q S (fuel + 1) listed a w :=
  wpAnyH_ready hr (by simp) (AllReadyH.cons hi h1 (AllReadyH.cons hj h2 (AllReadyH.cons hk h3 AllReadyH.nil)))
theorem HStep.call {i : Nat} {o : Oper} (dst : Option Tmp) (hdst : o.dst = dst) (hw : Region.wanted o (yielded ops a.tmps) = true) (f : FuncId) (args : Array Value) (hrun : (execOp a.eval o).run P w = .ok (.enter f args) w)
    (h : Calls P f args w fun e w' => ∃ v, e = .returned v ∧ S w' ∧ wpAnyH P md ops Q S fuel (listed.setIfInBounds i true) (a.put dst v) w') : HStep P md ops Q S fuel listed a w i o := fun K hK => by
  subst hdst
  rw [if_pos hw]
  unfold Oper.wp
  rw [hrun, Oper.upon_enter]
  refine h.mono fun e w' hh => ?_
  obtain ⟨v, rfl, hS, hn⟩ := hh
  exact hK.out _ _ hS (fun _ => hn)
/-- A value, in whatever world. -/
theorem HStep.value {i : Nat} {o : Oper} (dst : Option Tmp) (hdst : o.dst = dst) (hw : Region.wanted o (yielded ops a.tmps) = true) (v : Value) (w' : World) (hrun : (execOp a.eval o).run P w = .ok (.value v) w') (hS : S w')
    (h : wpAnyH P md ops Q S fuel (listed.setIfInBounds i true) (a.put dst v) w') : HStep P md ops Q S fuel listed a w i o := fun K hK => by
  subst hdst
  rw [if_pos hw]
  unfold Oper.wp
  rw [hrun, Oper.upon_value]
  exact hK.out _ _ hS (fun _ => h)
theorem HStep.skip {i : Nat} {o : Oper} (dst : Option Tmp) (hdst : o.dst = dst) (hw : Region.wanted o (yielded ops a.tmps) = true) (w' : World) (hrun : (execOp a.eval o).run P w = .ok .skip w') (hS : S w')
    (h : wpAnyH P md ops Q S fuel (listed.setIfInBounds i true) (a.put dst undef) w') : HStep P md ops Q S fuel listed a w i o := fun K hK => by
  subst hdst
  rw [if_pos hw]
  unfold Oper.wp
  rw [hrun, Oper.upon_skip]
  exact hK.out _ _ hS (fun _ => h)
/-- A law of the walk, carried out inside the region: a law says of 'wpList .. [o]' what the operation does. -/
theorem HStep.law {i : Nat} {o : Oper} (hw : Region.wanted o (yielded ops a.tmps) = true) (h : ∀ K' : Act → World → Prop, (∀ a w, S w → wpAnyH P md ops Q S fuel (listed.setIfInBounds i true) a w → K' a w) → o.wp P a w K' Q) : HStep P md ops Q S fuel listed a w i o := fun K hK => by
  rw [if_pos hw]
  exact h K (fun a w hS hn => hK.out a w hS (fun _ => hn))
/-- What yields in every world that meets S is taken first. -/
theorem held_take (i : Nat) (dst : Option Tmp) {oi : Oper} (hi : ops[i]? = some oi) (hdst : oi.dst = dst) (hs : Region.noSelect ops = true) (hf : Region.free md ops listed i = true) (hr : (Region.ready md ops listed).contains i = true)
    (hQ2 : ∀ c a v w, Q (.panic c) (a.put dst v) w → Q (.panic c) a w) (hw : Region.wanted oi (yielded ops a.tmps) = true) (v : Value) (hrun : ∀ w, S w → (execOp a.eval oi).run P w = .ok (.value v) w) (hS : S w)
    (h : wpAnyH P md ops Q S fuel (listed.setIfInBounds i true) (a.put dst v) w) : wpAnyH P md ops Q S (fuel + 1) listed a w := by
  subst hdst
  exact wpAnyH_take hi hs hf hr (fun c a w => hQ2 c a _ w) (.inl ⟨hw, hrun⟩) hS h
/-- What a law of the walk leaves, asked of one operation. -/
def lawQ (K : Act → World → Prop) (Q : Exit → Act → World → Prop) : Exit → Act → World → Prop
  | .normal, a, w => K a w
  | .panic c, a, w => Q (.panic c) a w
  | _, _, _ => False
theorem wp_of_law {o : Oper} {K : Act → World → Prop} (h : wpList P ops (lawQ K Q) [{ o with guard := none }] a w) : o.wp P a w K Q := by
  unfold wpList at h
  have hw : Region.wanted { o with guard := none } (yielded ops a.tmps) = true := by simp [Region.wanted]
  rw [if_pos hw] at h
  rcases h with h | ⟨_, _, _, h⟩
  · have e : Oper.wp P { o with guard := none } a w (wpList P ops (lawQ K Q) []) (lawQ K Q) = Oper.upon P o a (wpList P ops (lawQ K Q) []) (lawQ K Q) ((execOp a.eval o).run P w) := rfl
    rw [e] at h
    unfold Oper.wp
    generalize (execOp a.eval o).run P w = r at h ⊢
    cases r with
    | ok n w' =>
      cases n <;> simp only [Oper.upon] at h ⊢
      case enter f args =>
        refine h.mono fun e w'' hh => ?_
        cases e with
        | returned v => exact hh
        | panicked c => exact hh
        | outgrown => obtain ⟨_, _, hf⟩ := hh; exact hf.elim
      all_goals exact h
    | halt x w' =>
      cases x <;> simp only [Oper.upon] at h ⊢
      all_goals exact h
  · exact h.elim
/-- A law of the walk ('wpList ..'), carried out inside the region. -/
theorem HStep.of_law {i : Nat} {o : Oper} (ops0 : Array Oper) (hw : Region.wanted o (yielded ops a.tmps) = true)
    (h : ∀ K' : Act → World → Prop, (∀ a w, S w → wpAnyH P md ops Q S fuel (listed.setIfInBounds i true) a w → K' a w) → wpList P ops0 (lawQ K' Q) [{ o with guard := none }] a w) : HStep P md ops Q S fuel listed a w i o :=
  HStep.law hw fun K' hK => wp_of_law (h K' hK)
end
attribute [irreducible] HStep
end Go.Proofs.Ythfbcpbjnfdnkaa
