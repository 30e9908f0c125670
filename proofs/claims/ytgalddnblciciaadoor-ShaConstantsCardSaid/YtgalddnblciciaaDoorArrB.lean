/- Arrays of integers: their comparison. No function of the program. -/
import Derived.Test.YtgalddnblciciaaDoorArr
import Derived.Laws.StructEq
namespace Go.Proofs.YtgalddnblciciaaDoor
open Go.RowKit Go.Deep

theorem run_part_arr {P : Program} (w : World) {e : TypeId} {k k' : IntKind} {n : Nat} {f : Nat → Nat} {i : Nat} (he : P.underlying e = some (.int k')) (hi : i < n) : (part e (arr k n f) (i * 1)).run P w = .ok (.int k (f i : Int)) w := by
  simp [part, isAgg, run_underlying he, arr_get _ _ _ _ hi]
theorem run_eqItems_arr {P : Program} (w : World) (d : Nat) {e : TypeId} {k k' : IntKind} (n : Nat) (f g : Nat → Nat) (he : P.underlying e = some (.int k')) : ∀ (is : List Nat), (∀ i, i ∈ is → i < n) →
    (Op.eqItems (d + 1) e 1 (arr k n f) (arr k n g) is).run P w = .ok (is.all fun i => f i == g i) w
  | [], _ => by simp [Op.eqItems]
  | i :: is, h => by
    have p1 := run_part_arr (P := P) w (k := k) (f := f) he (h i (by simp))
    have p2 := run_part_arr (P := P) w (k := k) (f := g) he (h i (by simp))
    have p3 : (Op.equalIn (d + 1) e (.int k (f i : Int)) (.int k (g i : Int))).run P w = .ok (f i == g i) w := by
      rw [run_equalIn_int w d e k k' _ _ he]
      congr 1
      rw [Bool.eq_iff_iff, beq_iff_eq, beq_iff_eq]
      omega
    have ih := run_eqItems_arr (k := k) w d n f g he is (fun j hj => h j (by simp [hj]))
    simp only [Op.eqItems, Sem.run_bind, p1, p2, p3, Result.andThen_ok]
    cases hb : (f i == g i)
    · simp [hb]
    · simpa [hb] using ih
/-- Two arrays of integers, cell by cell. -/
def sameArr (n : Nat) (f g : Nat → Nat) : Bool := (List.range n).all fun i => f i == g i
theorem sameArr_refl (n : Nat) (f : Nat → Nat) : sameArr n f f = true := by unfold sameArr; simp
theorem sameArr_yes {n : Nat} {f g : Nat → Nat} (h : ∀ i, i < n → f i = g i) : sameArr n f g = true := by
  unfold sameArr; rw [List.all_eq_true]; intro i hi; rw [beq_iff_eq]; exact h i (by simpa using hi)
theorem sameArr_no {n : Nat} {f g : Nat → Nat} (i : Nat) (hi : i < n) (h : f i ≠ g i) : sameArr n f g = false := by
  unfold sameArr
  rw [List.all_eq_false]
  exact ⟨i, by simpa using hi, by simpa using h⟩
theorem run_equalIn_arr {P : Program} (w : World) {t e : TypeId} {k k' : IntKind} {n : Nat} (f g : Nat → Nat) (ht : P.underlying t = some (.array n e)) (he : P.underlying e = some (.int k')) (hc : P.cellsOf e = 1) :
    (Op.equalIn 10000 t (.agg (arr k n f)) (.agg (arr k n g))).run P w = .ok (sameArr n f g) w := by
  obtain ⟨i, hi⟩ := info_of_underlying he
  rw [show (10000 : Nat) = 9998 + 1 + 1 from rfl, run_equalIn_array w (9998 + 1) _ _ ht hi, hc, run_eqItems_arr w 9998 n f g he (List.range n) (fun i hi => by simpa using hi)]
  rfl
/-- '==' of two arrays of integers, as an operation. -/
theorem exec_eql_arr {P : Program} {w : World} {o : Oper} {a : Act} {t e ty : TypeId} {k k' : IntKind} {n : Nat} (f g : Nat → Nat) {x y : Operand} (ho : o.op = .binOp .eql t x y ty) (hx : a.eval x = .agg (arr k n f)) (hy : a.eval y = .agg (arr k n g))
    (ht : P.underlying t = some (.array n e)) (he : P.underlying e = some (.int k')) (hc : P.cellsOf e = 1) (hm : P.eqGuardType P.depth t = false) : (execOp a.eval o).run P w = .ok (.value (.bool (sameArr n f g))) w := by
  unfold execOp
  simp only [ho, hx, hy, Sem.run_bind, run_eqGuard_agg w .eql t x y _ _ hm, Result.andThen_ok, run_eql_struct, run_equalIn_arr w f g ht he hc, Sem.run_pure]
attribute [irreducible] sameArr
end Go.Proofs.YtgalddnblciciaaDoor
