/- Steps of drawn regions that handle a reader of the reference. -/
import Derived.Test.YthfbcpbjnfdnkaaWireKitB
import Derived.Test.YthfbcpbjnfdnkaaRefD
namespace Go.Proofs.Ythfbcpbjnfdnkaa
open Go.ChangeShapes Go.WideShapes Go.ChangeAt Go.RowKit Go.Deep

theorem elemOp : Try.prog.underlying 38 = some (.slice (Try.prog.elem 38)) := by kernel_rfl
theorem sizeOp : (Try.prog.info? (Try.prog.elem 38)).map (·.size) = some 2 := by kernel_rfl
theorem run_size_op (w : World) : (sizeOf (Try.prog.elem 38)).run Try.prog w = .ok 2 w := by kernel_rfl
theorem exec_index_op {o : Oper} {a : Act} {w : World} {x y : Operand} {b off len cap j : Nat} (ho : o.op = .indexAddr 38 x y) (hx : a.eval x = .slice (some ⟨b, off, none⟩) len cap) (hy : a.eval y = .int .i64 j) (hj : j < len) :
    (execOp a.eval o).run Try.prog w = .ok (.value (.pointer (some ⟨b, off + j * 2, none⟩))) w := by
  unfold execOp
  have nj : 0 ≤ (j : Int) := by omega
  have lj : (j : Int) < (len : Int) := by omega
  simp only [ho, hx, hy, Sem.run_bind, Sem.run_pure, run_indexAt_slice _ _ _ _ _ _ _ elemOp]
  rw [if_pos ⟨nj, lj⟩, run_size_op]
  simp only [Result.andThen_ok, Int.toNat_natCast, Addr.add_lit]
theorem exec_load_i64 {o : Oper} {a : Act} {w : World} (x : Operand) (ad : Addr) (v : Int) (ho : o.op = .load 3 x) (hx : a.eval x = .pointer (some ad)) (hc : w.cell? ad = some (.int .i64 v)) :
    (execOp a.eval o).run Try.prog w = .ok (.value (.int .i64 v)) w := by
  unfold execOp
  simp only [ho, hx]
  have hz : ((Try.prog).info? 3).map (·.size) = some 1 := by kernel_rfl
  have hu := Try.underlying3
  go_simp
theorem exec_load_bool {o : Oper} {a : Act} {w : World} (x : Operand) (ad : Addr) (v : Bool) (ho : o.op = .load 4 x) (hx : a.eval x = .pointer (some ad)) (hc : w.cell? ad = some (.bool v)) :
    (execOp a.eval o).run Try.prog w = .ok (.value (.bool v)) w := by
  unfold execOp
  simp only [ho, hx]
  have hz : ((Try.prog).info? 4).map (·.size) = some 1 := by kernel_rfl
  have hu := Try.underlying4
  go_simp
theorem Wir.take_len (r : Wir.R) (n : Int) : (Wir.take r n).1.l.length ≤ r.l.length := by
  unfold Wir.take Wir.next
  split
  · simp [Wir.failed]
  · split
    · simp [Wir.failed]
    · simp
theorem Wir.take2_len (r : Wir.R) (n : Int) : (Wir.take r n).2.length ≤ r.l.length := by
  unfold Wir.take Wir.next
  split
  · simp
  · split
    · simp
    · simp [List.length_take]; omega
theorem Wir.string_len (r : Wir.R) (n : Int) : (Wir.string r n).1.l.length ≤ r.l.length := by
  rw [string_take]
  split
  · simp [Wir.failed]
  · exact Nat.le_trans (Wir.take_len _ _) (num_len r n)
theorem Wir.string2_len (r : Wir.R) (n : Int) : (Wir.string r n).2.length ≤ r.l.length := by
  rw [string_take]
  split
  · simp
  · exact Nat.le_trans (Wir.take2_len _ _) (num_len r n)
theorem exec_neq_i64 {o : Oper} {a : Act} {w : World} (x y : Operand) (n : Int) (ho : o.op = .binOp .neq 3 x y 3) (hx : a.eval x = .int .i64 n) (hy : a.eval y = .int .i64 n) :
    (execOp a.eval o).run Try.prog w = .ok (.value (.bool false)) w := by
  unfold execOp
  have hu := Try.underlying3
  simp only [ho, hx, hy]
  go_simp
  try simp
theorem exec_neq_u64 {o : Oper} {a : Act} {w : World} (x y : Operand) (n : Int) (ho : o.op = .binOp .neq 22 x y 22) (hx : a.eval x = .int .u64 n) (hy : a.eval y = .int .u64 n) :
    (execOp a.eval o).run Try.prog w = .ok (.value (.bool false)) w := by
  unfold execOp
  have hu := Try.underlying22
  simp only [ho, hx, hy]
  go_simp
  try simp
theorem exec_eql_i64z {o : Oper} {a : Act} {w : World} (x y : Operand) (n : Nat) (ho : o.op = .binOp .eql 3 x y 3) (hx : a.eval x = .int .i64 n) (hy : a.eval y = .int .i64 0) :
    (execOp a.eval o).run Try.prog w = .ok (.value (.bool (n == 0))) w := by
  unfold execOp
  have hu := Try.underlying3
  simp only [ho, hx, hy]
  go_simp
  cases n <;> simp <;> omega
theorem exec_neq_bool {o : Oper} {a : Act} {w : World} (x y : Operand) (b : Bool) (ho : o.op = .binOp .neq 4 x y 4) (hx : a.eval x = .bool b) (hy : a.eval y = .bool b) :
    (execOp a.eval o).run Try.prog w = .ok (.value (.bool false)) w := by
  unfold execOp
  have hu := Try.underlying4
  simp only [ho, hx, hy]
  go_simp
  try simp
theorem left_any' {p nl : Nat} {r : Wir.R} {w : World} (hn : nl = r.l.length) (h : Rd w p r) : Calls Try.prog 29 #[.pointer (some ⟨p, 0, none⟩)] w (RetSame (.int .i64 nl) w) := by
  rw [hn]; exact left_any p r w h
theorem done_anyT {p : Nat} {l : List Nat} {w : World} (h : Rd w p ⟨l, true⟩) : Calls Try.prog 22 #[.pointer (some ⟨p, 0, none⟩)] w (RetSame (.bool false) w) := done_any p _ w h
theorem done_anyF {p nl : Nat} {l : List Nat} {w : World} (hn : nl = l.length) (h : Rd w p ⟨l, false⟩) : Calls Try.prog 22 #[.pointer (some ⟨p, 0, none⟩)] w (RetSame (.bool (nl == 0)) w) := by
  have := done_any p _ w h
  rw [hn]
  simpa using this
theorem Rd.far {w w' : World} {p g : Nat} {r : Wir.R} (h : Rd w p r) (k : w.grownBy w' (some g)) (hg : p < g) : Rd w' p r := by
  obtain ⟨v, h1, h2, h3⟩ := h
  exact ⟨v, (k.block p ((Array.getElem?_eq_some_iff.1 h1).1) (fun e => by cases e; omega)).trans h1, h2.only k (by
    cases hv : v.ownBlock with
    | none => exact .inl rfl
    | some q => exact .inr (fun e => by cases e; have := h3 g hv; omega)), h3⟩
section
variable {ops : Array Oper} {K : Act → World → Prop} {V : World} {B n : Nat} {listed : Array Bool} {a : Act} {w : World}
/-- A whole variable is read as it is now. -/
theorem q_load {i : Nat} (d : Tmp) (x : Operand) (g : Nat) (t : TypeId) (cs : Array Value) (hst : stepB ops a i d = true) (ho : (opn ops i).op = .load 40 x) (hx : a.eval x = .pointer (some ⟨g, 0, none⟩)) (hg : w.heap[g]? = some (.cells cs t (0, 0)))
    (hi : some 2 = some cs.size) (h0 : Below B V w)
    (h : wpAnyH Try.prog .any ops (nq K) (fun w' => Below B V w') n (listed.setIfInBounds i true) (a.put (some d) (.agg cs)) w) :
    HStep Try.prog .any ops (nq K) (fun w' => Below B V w') n listed a w i (opn ops i) := by
  unfold stepB at hst
  simp only [Bool.and_eq_true] at hst
  refine HStep.value (some d) (dst_at hst.1) hst.2 _ w ?_ h0 h
  unfold execOp
  simp only [ho, hx, Instr.loadAt, Instr.sureAddr, Sem.run_bind, Sem.run_pure, Result.andThen_ok, run_loadVar_row w g t _ cs (0, 0) _ hg Try.underlying40 rfl (infoRd.trans hi)]
end

/-- At block g lies a reader of the reference, whose bytes read in the world w0. -/
def RfAt (w0 w : World) (g : Nat) (r : Wir.R) : Prop := ∃ a c, w.heap[g]? = some (.cells #[.slice a r.l.length c, .bool r.bad] 40 (0, 0)) ∧ Rs w0 (.slice a r.l.length c) r.l
theorem RfAt.same {w0 w w' : World} {g : Nat} {r : Wir.R} (h : RfAt w0 w g r) (k : w'.heap[g]? = w.heap[g]?) : RfAt w0 w' g r := by
  obtain ⟨a, c, h1, h2⟩ := h
  exact ⟨a, c, k.trans h1, h2⟩
end Go.Proofs.Ythfbcpbjnfdnkaa
