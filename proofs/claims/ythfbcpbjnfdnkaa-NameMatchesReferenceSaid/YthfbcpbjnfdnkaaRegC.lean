/- Steps of a drawn region: a quiet call, a store of a whole array. No function of the program. -/
import Derived.Test.YthfbcpbjnfdnkaaRegB
import Derived.Great.BuildSlice
import Derived.Laws.CopyOwn
namespace Go.Proofs.Ythfbcpbjnfdnkaa
open Go.RowKit Go.Deep

section
variable {P : Program} {ops : Array Oper} {K : Act → World → Prop} {S : World → Prop} {n : Nat} {listed : Array Bool} {a : Act} {w : World}
/-- A call that leaves the world alone. -/
theorem q_quiet {i : Nat} (d : Tmp) (f : FuncId) (args : Array Value) (v : Value) (hst : stepB ops a i d = true) (hrun : (execOp a.eval (opn ops i)).run P w = .ok (.enter f args) w) (hc : Calls P f args w fun e w' => e = .returned v ∧ w = w') (hS : S w)
    (h : wpAnyH P .any ops (nq K) S n (listed.setIfInBounds i true) (a.put (some d) v) w) : HStep P .any ops (nq K) S n listed a w i (opn ops i) := by
  unfold stepB at hst
  simp only [Bool.and_eq_true] at hst
  refine HStep.call (some d) (dst_at hst.1) hst.2 f args hrun (hc.mono ?_)
  rintro e w' ⟨he, rfl⟩
  exact ⟨v, he, hS, h⟩
end
def stepN (ops : Array Oper) (a : Act) (i : Nat) : Bool := (match (opn ops i).dst with | none => true | some _ => false) && Region.wanted (opn ops i) (yielded ops a.tmps)
theorem dst_none {o : Oper} (h : (match o.dst with | none => true | some _ => false) = true) : o.dst = none := by
  cases hd : o.dst with
  | none => rfl
  | some d' => rw [hd] at h; cases h
section
variable {ops : Array Oper} {K : Act → World → Prop} {V : World} {B n : Nat} {listed : Array Bool} {a : Act} {w : World}
/-- A whole array is stored into a block of the call's own. -/
theorem q_row {i : Nat} (ty : TypeId) (x y : Operand) (g : Nat) (cells : Array Value) (t : TypeId) (old : Array Value) (hst : stepN ops a i = true) (ho : (opn ops i).op = .store ty x y) (hx : a.eval x = .pointer (some ⟨g, 0, none⟩)) (hy : a.eval y = .agg cells) (hg : w.heap[g]? = some (.cells old t (0, 0)))
    (hi : ((Try.prog).info? ty).map (·.size) = some cells.size) (hold : old.size = cells.size) (h1 : cells.all (·.oneCell') = true) (hB : B ≤ g) (h0 : Below B V w)
    (h : Below B V (w.setRow g cells) → (w.setRow g cells).heap[g]? = some (.cells cells t (0, 0)) → wpAnyH Try.prog .any ops (nq K) (fun w' => Below B V w') n (listed.setIfInBounds i true) a (w.setRow g cells)) : HStep Try.prog .any ops (nq K) (fun w' => Below B V w') n listed a w i (opn ops i) := by
  unfold stepN at hst
  simp only [Bool.and_eq_true] at hst
  have hd := dst_none hst.1
  have hS := below_setRow h0 hB cells
  refine HStep.of_law #[] hst.2 fun K' hK' => ?_
  refine wpList_store_rowTo rfl ty x y ho hd g cells hx hy t old hg hi hold h1 ?_
  exact hK' _ _ hS (h hS (setRow_heap _ _ _ _ _ _ hg))
end
attribute [irreducible] stepN
end Go.Proofs.Ythfbcpbjnfdnkaa
