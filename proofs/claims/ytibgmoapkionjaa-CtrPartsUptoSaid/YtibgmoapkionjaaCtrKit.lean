/- For the laws of layer 8: the boxes of the key and the nonce; steps of drawn regions. -/
import Derived.Test.YtibgmoapkionjaaAesKit
import Derived.Test.YtibgmoapkionjaaCtrG
import Derived.Test.YtibgmoapkionjaaOpenBytes
import Derived.Test.YtibgmoapkionjaaOpenBulk
namespace Go.Proofs.Ytibgmoapkionjaa
open Go.ChangeShapes Go.WideShapes Go.ChangeAt Go.RowKit Go.Deep

theorem tmod_low (n : Int) : -500 < n.tmod 500 := by
  rcases Int.le_total 0 n with h | h
  · have := Int.tmod_nonneg 500 h; omega
  · have e : n.tmod 500 = -((-n).tmod 500) := by rw [Int.neg_tmod]; simp
    have := Int.tmod_lt_of_pos (-n) (show (0 : Int) < 500 by omega)
    rw [e]; omega
theorem kn_boxes (w : World) (f g : Nat → Nat) : isArr ((w.alloc (.cells (arr .u8 16 f) 22)).alloc (.cells (arr .u8 8 g) 40)) w.heap.size 22 .u8 16 f ∧ isArr ((w.alloc (.cells (arr .u8 16 f) 22)).alloc (.cells (arr .u8 8 g) 40)) (w.heap.size + 1) 40 .u8 8 g ∧ Below w.heap.size w ((w.alloc (.cells (arr .u8 16 f) 22)).alloc (.cells (arr .u8 8 g) 40)) := by
  have z1 : w.heap.size + 1 = (w.alloc (Obj.cells (arr IntKind.u8 16 f) 22)).heap.size := by simp
  refine ⟨(isArr_new w _ _ _ _).alloc _, ?_, ((Below.refl _ _).alloc (Nat.le_refl _) _).alloc (by simp) _⟩
  rw [z1]; exact isArr_new _ _ _ _ _
theorem kn3_boxes (w : World) (f g h : Nat → Nat) : isArr (((w.alloc (.cells (arr .u8 16 f) 22)).alloc (.cells (arr .u8 8 g) 40)).alloc (.cells (arr .u8 8 h) 40)) w.heap.size 22 .u8 16 f ∧ isArr (((w.alloc (.cells (arr .u8 16 f) 22)).alloc (.cells (arr .u8 8 g) 40)).alloc (.cells (arr .u8 8 h) 40)) (w.heap.size + 1) 40 .u8 8 g ∧ isArr (((w.alloc (.cells (arr .u8 16 f) 22)).alloc (.cells (arr .u8 8 g) 40)).alloc (.cells (arr .u8 8 h) 40)) (w.heap.size + 2) 40 .u8 8 h ∧ Below w.heap.size w (((w.alloc (.cells (arr .u8 16 f) 22)).alloc (.cells (arr .u8 8 g) 40)).alloc (.cells (arr .u8 8 h) 40)) := by
  obtain ⟨a1, a2, a3⟩ := kn_boxes w f g
  have z2 : w.heap.size + 2 = ((w.alloc (Obj.cells (arr IntKind.u8 16 f) 22)).alloc (Obj.cells (arr IntKind.u8 8 g) 40)).heap.size := by simp
  refine ⟨a1.alloc _, a2.alloc _, ?_, a3.alloc (by simp; omega) _⟩
  rw [z2]; exact isArr_new _ _ _ _ _
theorem sameArr_iff (n : Nat) (f g : Nat → Nat) : sameArr n f g = true ↔ ∀ i, i < n → f i = g i := by
  constructor
  · intro h i hi
    rcases Nat.decEq (f i) (g i) with hne | he
    · rw [sameArr_no i hi hne] at h; cases h
    · exact he
  · exact sameArr_yes
/-- A load of a whole array behind a guard that is met. -/
theorem wpList_load_rowG {P : Program} {ops : Array Oper} {rest : List Oper} {o : Oper} {a : Act} {w : World} {Q : Exit → Act → World → Prop} (hw : Region.wanted o (yielded ops a.tmps) = true) (ty : TypeId) (x : Operand) (ho : o.op = .load ty x)
    (g : Nat) (hx : a.eval x = .pointer (some ⟨g, 0, none⟩)) (t : TypeId) (cs : Array Value) (fr : Nat × Nat) (d : TypeDesc) (hg : w.heap[g]? = some (.cells cs t fr))
    (hu : P.underlying ty = some d) (hd : (match d with | .struct _ | .array _ _ => true | _ => false) = true) (hi : (P.info? ty).map (·.size) = some cs.size)
    (h : wpList P ops Q rest (a.put o.dst (.agg cs)) w) : wpList P ops Q (o :: rest) a w := by
  refine wpList_step fun K hK => ?_
  rw [if_pos hw]
  unfold Oper.wp execOp
  simp only [ho, hx, Instr.loadAt, Instr.sureAddr, Sem.run_bind, Sem.run_pure, Result.andThen_ok, run_loadVar_row w g t ty cs fr d hg hu hd hi]
  exact hK _ _ h
theorem exec_conv_u8 {o : Oper} {a : Act} {w : World} (x : Operand) (p : Nat) (ho : o.op = .convert 5 3 x) (hx : a.eval x = .int .u8 (p : Int)) (hp : p < 256) : (execOp a.eval o).run Try.prog w = .ok (.value (.int .i64 (p : Int))) w := by
  unfold execOp
  have hu := Try.underlying5
  have hu2 := Try.underlying3
  have hw : IntKind.i64.wrap (p : Int) = (p : Int) := IntWalk.i64_in _ (by omega)
  simp only [ho, hx]
  go_simp
theorem exec_conv_u16 {o : Oper} {a : Act} {w : World} (x : Operand) (p : Nat) (ho : o.op = .convert 58 3 x) (hx : a.eval x = .int .u16 (p : Int)) (hp : p < 65536) : (execOp a.eval o).run Try.prog w = .ok (.value (.int .i64 (p : Int))) w := by
  unfold execOp
  have hu := Try.underlying58
  have hu2 := Try.underlying3
  have hw : IntKind.i64.wrap (p : Int) = (p : Int) := IntWalk.i64_in _ (by omega)
  simp only [ho, hx]
  go_simp
theorem exec_inc_u64 {o : Oper} {a : Act} {w : World} (x : Operand) (p q : Nat) (ho : o.op = .binOp .add 23 x (.const (.int .u64 1)) 23) (hx : a.eval x = .int .u64 (p : Int)) (hq : q = (p + 1) % 18446744073709551616) : (execOp a.eval o).run Try.prog w = .ok (.value (.int .u64 (q : Int))) w := by
  unfold execOp
  have hu := Try.underlying23
  have hw : IntKind.u64.wrap ((p : Int) + 1) = (q : Int) := by simp only [IntKind.wrap_u64]; omega
  clear hq
  simp only [ho, hx]
  go_simp
  first | done | simp [hw]
theorem exec_eql8 {o : Oper} {a : Act} {w : World} (f g : Nat → Nat) (x y : Operand) (ho : o.op = .binOp .eql 40 x y 40) (hx : a.eval x = .agg (arr .u8 8 f)) (hy : a.eval y = .agg (arr .u8 8 g)) :
    (execOp a.eval o).run Try.prog w = .ok (.value (.bool (sameArr 8 f g))) w :=
  exec_eql_arr f g ho hx hy Try.underlying40 Try.underlying5 (by kernel_rfl) (by kernel_rfl)
end Go.Proofs.Ytibgmoapkionjaa
