/- Layer 14: steps of a drawn region that makes slices, a row, and writes it. -/
import Derived.Test.YtnhchdkchohnbaaGreatDoorReqG
namespace Go.Proofs.YtnhchdkchohnbaaGreatDoor
open Go.RowKit Go.Deep

/-- A request's row without parts. -/
def Hq (W : World) (g : Nat) : Prop := Hb W g #[.slice none 0 0, .slice none 0 0] 59
theorem Hq.below {W W' : World} {g : Nat} (h : Hq W g) (k : Below W.heap.size W W') : Hq W' g := (k.block g (Hb.lt h)).trans h
section
variable {md : Region.Mode} {ops : Array Oper} {Q : Exit → Act → World → Prop} {S : World → Prop} {fuel : Nat} {listed : Array Bool} {a : Act} {w : World}
theorem HStep.make {i : Nat} {o : Oper} (dst : Option Tmp) (hdst : o.dst = dst) (hw : Region.wanted o (yielded ops a.tmps) = true) (x : Operand) (ho : o.op = .makeSlice 24 x x) (n : Nat) (hx : a.eval x = .int .i64 (n : Int)) (hn : n ≤ 1000000) (hS : ∀ w', Below w.heap.size w w' → S w')
    (h : ∀ (w' : World) (g : Nat), Below w.heap.size w w' → Own w' w.heap.size (.slice (some ⟨g, 0, none⟩) n n) (List.replicate n 0) → wpAnyH Tryz.prog md ops Q S fuel (listed.setIfInBounds i true) (a.put dst (.slice (some ⟨g, 0, none⟩) n n)) w') : HStep Tryz.prog md ops Q S fuel listed a w i o := by
  subst hdst
  refine HStep.of_law #[] hw fun K' hK => ?_
  refine wpList_makefull_bs rfl x x ho w.heap.size .i64 .i64 (n : Int) (n : Int) n hx hx rfl rfl (by omega) (Nat.le_refl _) ?_
  intro w' hown hgr
  have hb := below_of_only hgr
  exact lawQ_done (hK _ _ (hS _ hb) (h w' _ hb hown))
theorem HStep.row {i : Nat} {o : Oper} (dst : Option Tmp) (hdst : o.dst = dst) (hw : Region.wanted o (yielded ops a.tmps) = true) (hrun : (execOp a.eval o).run Tryz.prog w = .ok (.value (.pointer (some ⟨w.heap.size, 0, none⟩))) (w.alloc (.cells #[.slice none 0 0, .slice none 0 0] 59))) (hS : ∀ w', Below w.heap.size w w' → S w')
    (h : ∀ (w' : World) (g : Nat), w.heap.size ≤ g → Below w.heap.size w w' → Hq w' g → wpAnyH Tryz.prog md ops Q S fuel (listed.setIfInBounds i true) (a.put dst (.pointer (some ⟨g, 0, none⟩))) w') : HStep Tryz.prog md ops Q S fuel listed a w i o :=
  HStep.value dst hdst hw _ _ hrun (hS _ ((Below.refl _ _).alloc (Nat.le_refl _) _)) (h _ _ (Nat.le_refl _) ((Below.refl _ _).alloc (Nat.le_refl _) _) (heap_alloc_new _ _))
end
end Go.Proofs.YtnhchdkchohnbaaGreatDoor
