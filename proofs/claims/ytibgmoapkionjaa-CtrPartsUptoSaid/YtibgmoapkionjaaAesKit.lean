/- What the laws of layer 7 import: arrays of bytes by value, as functions of the index. -/
import Derived.Test.YtibgmoapkionjaaAesO
import Derived.Test.YtibgmoapkionjaaOpenArr
import Derived.ProofKit
import Derived.OpenShut
namespace Go.Proofs.Ytibgmoapkionjaa
open Go.RowKit Go.Deep

theorem u8_range {a : Int} (h : (Lit.int .u8 a).wf = true) : 0 ≤ a ∧ a < 256 := by
  have := bounds_u8 h
  omega
theorem bytes_arg {n : Nat} (f : Nat → Int) (wf : ∀ j, j < n → (Lit.int .u8 (f j)).wf = true) : ∃ g : Nat → Nat, Aes.B8 g ∧ ((List.range n).map fun i => Value.int .u8 (f i)).toArray = arr .u8 n g := by
  refine ⟨fun i => if i < n then (f i).toNat else 0, fun i => ?_, ?_⟩
  · dsimp only
    split
    · rename_i h; have := u8_range (wf i h); omega
    · omega
  · refine arr_of_get _ _ _ _ (by simp) fun i hi => ?_
    have := u8_range (wf i hi)
    simp only [List.getElem?_toArray, List.getElem?_map, List.getElem?_range hi, Option.map_some, if_pos hi]
    congr 2
    omega
/-- The world behind two boxes of blocks. -/
theorem two_boxes (w : World) (f g : Nat → Nat) : isArr ((w.alloc (.cells (arr .u8 16 f) 22)).alloc (.cells (arr .u8 16 g) 22)) w.heap.size 22 .u8 16 f ∧ isArr ((w.alloc (.cells (arr .u8 16 f) 22)).alloc (.cells (arr .u8 16 g) 22)) (w.heap.size + 1) 22 .u8 16 g ∧ Below w.heap.size w ((w.alloc (.cells (arr .u8 16 f) 22)).alloc (.cells (arr .u8 16 g) 22)) := by
  have z1 : w.heap.size + 1 = (w.alloc (Obj.cells (arr IntKind.u8 16 f) 22)).heap.size := by simp
  refine ⟨(isArr_new w _ _ _ _).alloc _, ?_, ((Below.refl _ _).alloc (Nat.le_refl _) _).alloc (by simp) _⟩
  rw [z1]; exact isArr_new _ _ _ _ _
theorem cells_at {V : World} {g n : Nat} {t : TypeId} {f : Nat → Nat} (h : isArr V g t .u8 n f) : ∀ w', Below V.heap.size V w' → ∀ i v, (arr .u8 n f)[i]? = some v → w'.cell? ((⟨g, 0, none⟩ : Addr).add i) = some v := fun _ k => (h.below k h.lt).cells
theorem run_equalIn_arr_d {P : Program} (w : World) (d : Nat) {t e : TypeId} {k k' : IntKind} {n : Nat} (f g : Nat → Nat) (ht : P.underlying t = some (.array n e)) (he : P.underlying e = some (.int k')) (hc : P.cellsOf e = 1) :
    (Op.equalIn (d + 1 + 1) t (.agg (arr k n f)) (.agg (arr k n g))).run P w = .ok (sameArr n f g) w := by
  obtain ⟨i, hi⟩ := info_of_underlying he
  rw [run_equalIn_array w (d + 1) _ _ ht hi, hc, run_eqItems_arr w d n f g he (List.range n) (fun i hi => by simpa using hi)]
  unfold sameArr
  rfl
def rowF (f : Nat → Nat) (i : Nat) : Nat → Nat := fun j => f (i * 16 + j)
theorem run_part_rows {w : World} (f : Nat → Nat) (i : Nat) (hi : i < 11) : (part 22 (arr .u8 176 f) (i * 16)).run Try.prog w = .ok (.agg (arr .u8 16 (rowF f i))) w := by
  have he : (Try.prog).underlying 22 = some (.array 16 5) := Try.underlying22
  obtain ⟨inf, hinf⟩ := info_of_underlying he
  have hs : (Try.prog).cellsOf 22 = 16 := by kernel_rfl
  have hx : (arr .u8 176 f).extract (i * 16) (i * 16 + 16) = arr .u8 16 (rowF f i) := by
    apply arr_of_get
    · rw [Array.size_extract, arr_size]; omega
    · intro j hj
      rw [Array.getElem?_extract, if_pos (by rw [arr_size]; omega), arr_get _ _ _ _ (by omega)]
      rfl
  simp [part, isAgg, run_underlying he, run_sizeOf _ hinf, hs, hx]
theorem run_eqItems_gen {P : Program} (w : World) (d : Nat) (e : TypeId) (sz n : Nat) (A B : Array Value) (F G : Nat → Value) (c : Nat → Bool) (hA : ∀ i, i < n → (part e A (i * sz)).run P w = .ok (F i) w) (hB : ∀ i, i < n → (part e B (i * sz)).run P w = .ok (G i) w)
    (hE : ∀ i, i < n → (Op.equalIn d e (F i) (G i)).run P w = .ok (c i) w) : ∀ (is : List Nat), (∀ i, i ∈ is → i < n) → (Op.eqItems d e sz A B is).run P w = .ok (is.all c) w
  | [], _ => by simp [Op.eqItems]
  | i :: is, h => by
    have p1 := hA i (h i (by simp))
    have p2 := hB i (h i (by simp))
    have p3 := hE i (h i (by simp))
    have ih := run_eqItems_gen w d e sz n A B F G c hA hB hE is (fun j hj => h j (by simp [hj]))
    simp only [Op.eqItems, Sem.run_bind, p1, p2, p3, Result.andThen_ok]
    cases hb : c i
    · simp [hb]
    · simpa [hb] using ih
theorem exec_eql176 {o : Oper} {a : Act} {w : World} (f : Nat → Nat) (x y : Operand) (ho : o.op = .binOp .eql 32 x y 32) (hx : a.eval x = .agg (arr .u8 176 f)) (hy : a.eval y = .agg (arr .u8 176 f)) :
    (execOp a.eval o).run Try.prog w = .ok (.value (.bool true)) w := by
  have ht : (Try.prog).underlying 32 = some (.array 11 22) := Try.underlying32
  have he : (Try.prog).underlying 22 = some (.array 16 5) := Try.underlying22
  have hm : (Try.prog).eqGuardType (Try.prog).depth 32 = false := by kernel_rfl
  have hs : (Try.prog).cellsOf 22 = 16 := by kernel_rfl
  obtain ⟨i, hi⟩ := info_of_underlying he
  have h1 : (Op.equalIn 10000 32 (.agg (arr .u8 176 f)) (.agg (arr .u8 176 f))).run Try.prog w = .ok true w := by
    rw [show (10000 : Nat) = 9997 + 1 + 1 + 1 from rfl, run_equalIn_array w (9997 + 1 + 1) _ _ ht hi, hs, run_eqItems_gen w (9997 + 1 + 1) 22 16 11 (arr .u8 176 f) (arr .u8 176 f) (fun i => .agg (arr .u8 16 (rowF f i))) (fun i => .agg (arr .u8 16 (rowF f i))) (fun _ => true) (fun i hi => run_part_rows f i hi) (fun i hi => run_part_rows f i hi) (fun i _ => (run_equalIn_arr_d (P := Try.prog) w 9997 (k := .u8) (n := 16) (rowF f i) (rowF f i) Try.underlying22 Try.underlying5 (by kernel_rfl)).trans (by rw [sameArr_refl])) (List.range 11) (fun i hi => by simpa using hi)]
    rfl
  unfold execOp
  simp only [ho, hx, hy, Sem.run_bind, run_eqGuard_agg w .eql _ x y _ _ hm, Result.andThen_ok, run_eql_struct, h1, Sem.run_pure]
theorem exec_eql_same {o : Oper} {a : Act} {w : World} (c : Bool) (x y : Operand) (ho : o.op = .binOp .eql 4 x y 4) (hx : a.eval x = .bool c) (hy : a.eval y = .bool c) :
    (execOp a.eval o).run Try.prog w = .ok (.value (.bool true)) w := by
  unfold execOp
  simp only [ho, hx, hy]
  cases c <;> kernel_rfl
end Go.Proofs.Ytibgmoapkionjaa
