/- Merged by program out of: SealKit. -/
import Derived.Test.YtnhchdkchohnbaaGreatDoorTM1
import Derived.Test.YtnhchdkchohnbaaGreatDoorTM2
import Derived.Test.YtnhchdkchohnbaaGreatDoorTM3
import Derived.Test.YtnhchdkchohnbaaGreatDoorTM4
import Derived.Test.YtnhchdkchohnbaaGreatDoorTM5
import Derived.Test.YtnhchdkchohnbaaGreatDoorTM6
import Derived.Test.YtnhchdkchohnbaaGreatDoorTM7
import Derived.Test.YtnhchdkchohnbaaGreatDoorTM8
import Derived.Test.YtnhchdkchohnbaaGreatDoorTM9
import Derived.Test.YtnhchdkchohnbaaGreatDoorTN1
import Derived.Test.YtnhchdkchohnbaaGreatDoorTN2
import Derived.Test.YtnhchdkchohnbaaGreatDoorTN3
import Derived.Test.YtnhchdkchohnbaaGreatDoorTN4
import Derived.Test.YtnhchdkchohnbaaGreatDoorTN5
import Derived.Test.YtnhchdkchohnbaaGreatDoorCards
import Derived.Test.YtnhchdkchohnbaaGreatDoorTie
import Derived.ProofKit
import Derived.LaidMore
import Derived.OpenShut
import Derived.Stop.Joined
import Derived.Lib.LaidTab
import Derived.SevenTiedAt
/- What the laws of layer 9 import: arrays of bytes by value, boxes, loads behind a guard; the laid variable sha.constants. -/
namespace Go.Proofs.YtnhchdkchohnbaaGreatDoor
open Go.ChangeShapes Go.WideShapes Go.ChangeAt Go.RowKit Go.Deep

theorem u8_range {a : Int} (h : (Lit.int .u8 a).wf = true) : 0 ≤ a ∧ a < 256 := by
  have := bounds_u8 h
  omega
theorem bytes_arg {n : Nat} (f : Nat → Int) (wf : ∀ j, j < n → (Lit.int .u8 (f j)).wf = true) : ∃ g : Nat → Nat, Aes.B8 g ∧ ((List.range n).map fun i => Value.int .u8 (f i)).toArray = arr .u8 n g := by
  refine ⟨fun i => if i < n then (f i).toNat else 0, fun i => ?_, ?_⟩
  · dsimp only
    split
    · rename_i h; have := u8_range (wf i h); omega
    · omega
  · refine arr_of_get _ _ _ _ (by simp) fun i hi => ?_
    have := u8_range (wf i hi)
    simp only [List.getElem?_toArray, List.getElem?_map, List.getElem?_range hi, Option.map_some, if_pos hi]
    congr 2
    omega
theorem kn_boxes (w : World) (f g : Nat → Nat) : isArr ((w.alloc (.cells (arr .u8 16 f) 22)).alloc (.cells (arr .u8 8 g) 23)) w.heap.size 22 .u8 16 f ∧ isArr ((w.alloc (.cells (arr .u8 16 f) 22)).alloc (.cells (arr .u8 8 g) 23)) (w.heap.size + 1) 23 .u8 8 g ∧ Below w.heap.size w ((w.alloc (.cells (arr .u8 16 f) 22)).alloc (.cells (arr .u8 8 g) 23)) := by
  have z1 : w.heap.size + 1 = (w.alloc (Obj.cells (arr IntKind.u8 16 f) 22)).heap.size := by simp
  refine ⟨(isArr_new w _ _ _ _).alloc _, ?_, ((Below.refl _ _).alloc (Nat.le_refl _) _).alloc (by simp) _⟩
  rw [z1]; exact isArr_new _ _ _ _ _
theorem wpList_load_rowG {P : Program} {ops : Array Oper} {rest : List Oper} {o : Oper} {a : Act} {w : World} {Q : Exit → Act → World → Prop} (hw : Region.wanted o (yielded ops a.tmps) = true) (ty : TypeId) (x : Operand) (ho : o.op = .load ty x)
    (g : Nat) (hx : a.eval x = .pointer (some ⟨g, 0, none⟩)) (t : TypeId) (cs : Array Value) (fr : Nat × Nat) (d : TypeDesc) (hg : w.heap[g]? = some (.cells cs t fr))
    (hu : P.underlying ty = some d) (hd : (match d with | .struct _ | .array _ _ => true | _ => false) = true) (hi : (P.info? ty).map (·.size) = some cs.size)
    (h : wpList P ops Q rest (a.put o.dst (.agg cs)) w) : wpList P ops Q (o :: rest) a w := by
  refine wpList_step fun K hK => ?_
  rw [if_pos hw]
  unfold Oper.wp execOp
  simp only [ho, hx, Instr.loadAt, Instr.sureAddr, Sem.run_bind, Sem.run_pure, Result.andThen_ok, run_loadVar_row w g t ty cs fr d hg hu hd hi]
  exact hK _ _ h
end Go.Proofs.YtnhchdkchohnbaaGreatDoor
