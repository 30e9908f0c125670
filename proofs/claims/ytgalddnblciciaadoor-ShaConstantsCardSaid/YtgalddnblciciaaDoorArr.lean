/- Arrays of integers: their cells as a function of the index; frames. No function of the program. -/
import Derived.Test.YtgalddnblciciaaDoorMem
import Derived.WalkKit
import Derived.WalkSpells
import Derived.WalkLawsBesides
import Derived.Lib.Hide
import Derived.Deep.OwnRows
import Derived.Deep.Draws
import Derived.Deep.QuietTactic
import Derived.BigQuiet
import Derived.Deep.RegionHeld3
import Derived.ChangeKeysEq
import Derived.StillTailTactics
import Derived.Laws.Cover3
namespace Go.Proofs.YtgalddnblciciaaDoor
open Go.RowKit Go.Deep

/-- The cells of an array of n integers. -/
def arr (k : IntKind) (n : Nat) (f : Nat → Nat) : Array Value := ((List.range n).map fun i => Value.int k (f i : Int)).toArray
theorem arr_size (k : IntKind) (n : Nat) (f : Nat → Nat) : (arr k n f).size = n := by simp [arr]
theorem arr_get (k : IntKind) (n : Nat) (f : Nat → Nat) (i : Nat) (h : i < n) : (arr k n f)[i]? = some (.int k (f i : Int)) := by simp [arr, h]
theorem arr_one (k : IntKind) (n : Nat) (f : Nat → Nat) : (arr k n f).all (·.oneCell') = true := by
  rw [Array.all_eq_true]
  intro i h
  simp [arr, Value.oneCell']
theorem arr_congr (k : IntKind) (n : Nat) (f g : Nat → Nat) (h : ∀ i, i < n → f i = g i) : arr k n f = arr k n g := by
  unfold arr
  congr 1
  apply List.map_congr_left
  intro i hi
  rw [h i (by simpa using hi)]
theorem arr_of_get (k : IntKind) (n : Nat) (f : Nat → Nat) (c : Array Value) (hs : c.size = n) (h : ∀ i, i < n → c[i]? = some (.int k (f i : Int))) : c = arr k n f := by
  apply Array.ext_getElem?
  intro i
  by_cases hi : i < n
  · rw [h i hi, arr_get _ _ _ _ hi]
  · rw [Array.getElem?_eq_none (by omega), Array.getElem?_eq_none (by rw [arr_size]; omega)]
attribute [irreducible] arr

/-- Block b is an array of n integers. -/
def isArr (w : World) (b : Nat) (t : TypeId) (k : IntKind) (n : Nat) (f : Nat → Nat) : Prop := w.heap[b]? = some (.cells (arr k n f) t (0, 0))
theorem isArr.row {w : World} {b : Nat} {t : TypeId} {k : IntKind} {n : Nat} {f : Nat → Nat} (h : isArr w b t k n f) : w.rowIs b t n (fun i => .int k (f i : Int)) :=
  ⟨_, h, arr_size _ _ _, fun i hi => arr_get _ _ _ _ hi⟩
theorem isArr.of_row {w : World} {b : Nat} {t : TypeId} {k : IntKind} {n : Nat} {f : Nat → Nat} (h : w.rowIs b t n (fun i => .int k (f i : Int))) : isArr w b t k n f := by
  obtain ⟨c, hb, hn, hc⟩ := h
  have := arr_of_get k n f c hn hc
  subst this
  exact hb
theorem isArr.cell {w : World} {b : Nat} {t : TypeId} {k : IntKind} {n : Nat} {f : Nat → Nat} (h : isArr w b t k n f) {i : Nat} (hi : i < n) : w.cell? ⟨b, i, none⟩ = some (.int k (f i : Int)) := h.row.cell hi
theorem isArr.frozen {w : World} {b : Nat} {t : TypeId} {k : IntKind} {n : Nat} {f : Nat → Nat} (h : isArr w b t k n f) (i : Nat) : w.frozen? ⟨b, i, none⟩ = false := h.row.frozen i
theorem isArr.lt {w : World} {b : Nat} {t : TypeId} {k : IntKind} {n : Nat} {f : Nat → Nat} (h : isArr w b t k n f) : b < w.heap.size := h.row.lt
theorem isArr.congr {w : World} {b : Nat} {t : TypeId} {k : IntKind} {n : Nat} {f g : Nat → Nat} (h : isArr w b t k n f) (e : ∀ i, i < n → f i = g i) : isArr w b t k n g := by
  unfold isArr at h ⊢
  rw [← arr_congr k n f g e]; exact h
theorem isArr.of_block {w w' : World} {b : Nat} {t : TypeId} {k : IntKind} {n : Nat} {f : Nat → Nat} (h : isArr w b t k n f) (e : w'.heap[b]? = w.heap[b]?) : isArr w' b t k n f := e.trans h
theorem isArr.below {w w' : World} {b : Nat} {t : TypeId} {k : IntKind} {n : Nat} {f : Nat → Nat} {B : Nat} (h : isArr w b t k n f) (k' : Below B w w') (hb : b < B) : isArr w' b t k n f := h.of_block (k'.block b hb)
theorem isArr.set {w : World} {b : Nat} {t : TypeId} {k : IntKind} {n : Nat} {f : Nat → Nat} (h : isArr w b t k n f) (i m : Nat) : isArr (w.setCell ⟨b, i, none⟩ (.int k (m : Int))) b t k n (fun j => if j = i then m else f j) := by
  refine isArr.of_row ((h.row.set i (.int k (m : Int))).congr fun j hj => ?_)
  split <;> rfl
theorem isArr.setOther {w : World} {b c : Nat} {t : TypeId} {k : IntKind} {n : Nat} {f : Nat → Nat} (h : isArr w b t k n f) (hne : b ≠ c) (i : Nat) (v : Value) : isArr (w.setCell ⟨c, i, none⟩ v) b t k n f :=
  h.of_block (blk_setCell_other _ _ _ _ hne)
theorem isArr.alloc {w : World} {b : Nat} {t : TypeId} {k : IntKind} {n : Nat} {f : Nat → Nat} (h : isArr w b t k n f) (o : Obj) : isArr (w.alloc o) b t k n f := h.of_block (Below.heap_alloc w o b h.lt)
theorem isArr.drewN {w : World} {b : Nat} {t : TypeId} {k : IntKind} {n : Nat} {f : Nat → Nat} (h : isArr w b t k n f) (m : Nat) : isArr (w.drewN m) b t k n f := h
theorem isArr_new (w : World) (t : TypeId) (k : IntKind) (n : Nat) (f : Nat → Nat) : isArr (w.alloc (.cells (arr k n f) t)) w.heap.size t k n f := heap_alloc_new w _
theorem isArr_lit (w : World) (t : TypeId) (k : IntKind) (n : Nat) (f : Nat → Nat) (c : Array Value) (hs : c.size = n) (h : ∀ i, i < n → c[i]? = some (.int k (f i : Int))) : isArr (w.alloc (.cells c t)) w.heap.size t k n f := by
  rw [arr_of_get k n f c hs h]
  exact isArr_new w t k n f
theorem below_set {B : Nat} {a w : World} (h : Below B a w) {c : Nat} (hc : B ≤ c) (i : Nat) (v : Value) : Below B a (w.setCell ⟨c, i, none⟩ v) := h.setCell hc v
/-- 'x[i]' of an array of integers by value. -/
theorem run_index_int {P : Program} {w : World} {t e : TypeId} {n : Nat} {cs : Array Value} {k : IntKind} {i : Nat} {v : Value} (k' : IntKind) (h : P.underlying t = some (.array n e)) (he : P.underlying e = some (.int k')) (hs : P.cellsOf e = 1) (hi : i < n) (hc : cs[i]? = some v) :
    (Instr.index t (.agg cs) (.int k (i : Int))).run P w = .ok v w := by
  have hn : (0 : Int) ≤ (i : Int) ∧ (i : Int) < (n : Int) := by omega
  obtain ⟨inf, hinf⟩ := info_of_underlying he
  simp [Instr.index, run_underlying h, asIntOf, hi, go_sem, part, isAgg, run_underlying he, run_sizeOf _ hinf, hs, hc]
theorem still_of {P : Program} {f : FuncId} {args : Array Value} {w : World} {v : Value} (h : Calls P f args w fun e w' => e = .returned v ∧ w = w') : Calls P f args w fun e w' => e = .returned v ∧ w' = w := h.mono fun _ _ ⟨he, hw⟩ => ⟨he, hw.symm⟩

/-! ### an array that is loaded from the middle of a block -/
theorem run_loadVar_arr {P : Program} (w : World) (ad : Addr) (ty : TypeId) (cs : Array Value) (d : TypeDesc) (hc : ∀ j v, cs[j]? = some v → w.cell? (ad.add j) = some v)
    (hu : P.underlying ty = some d) (hd : (match d with | .struct _ | .array _ _ => true | _ => false) = true) (hi : (P.info? ty).map (·.size) = some cs.size) :
    (loadVar ty ad).run P w = .ok (.agg cs) w := by
  have hl : (loadCells ad cs.toList.length).run P w = .ok cs.toList.toArray w :=
    run_loadCells_list (P := P) w ad cs.toList (fun j v hv => hc j v (by simpa using hv))
  cases hq : P.info? ty with
  | none => simp [hq] at hi
  | some i =>
    have hs : i.size = cs.size := by simpa [hq] using hi
    have hagg : (isAgg ty).run P w = .ok true w := by
      unfold isAgg
      rw [Sem.run_bind, run_underlying hu w]
      cases d <;> simp_all
    simp only [Array.length_toList, Array.toArray_toList] at hl
    simp [loadVar, Sem.run_bind, hagg, sizeOf, typeInfo, hq, hs, hl]
theorem wpList_load_arr {P : Program} {ops : Array Oper} {rest : List Oper} {o : Oper} {a : Act} {w : World} {Q : Exit → Act → World → Prop} (hgd : o.guard = none) (ty : TypeId) (x : Operand) (ho : o.op = .load ty x)
    (ad : Addr) (hx : a.eval x = .pointer (some ad)) (cs : Array Value) (d : TypeDesc) (hc : ∀ j v, cs[j]? = some v → w.cell? (ad.add j) = some v)
    (hu : P.underlying ty = some d) (hd : (match d with | .struct _ | .array _ _ => true | _ => false) = true) (hi : (P.info? ty).map (·.size) = some cs.size)
    (h : wpList P ops Q rest (a.put o.dst (.agg cs)) w) : wpList P ops Q (o :: rest) a w :=
  wpList_plain hgd fun K hK => by
    unfold Oper.wp execOp
    simp only [ho, hx, Instr.loadAt, Instr.sureAddr, Sem.run_bind, Sem.run_pure, Result.andThen_ok, run_loadVar_arr w ad ty cs d hc hu hd hi]
    exact hK _ _ h
theorem wpStill_load_arr {P : Program} {ops : Array Oper} {rest : List Oper} {o : Oper} {a : Act} {w : World} {Q : Act → Prop} (hgd : o.guard = none) (ty : TypeId) (x : Operand) (ho : o.op = .load ty x)
    (ad : Addr) (hx : a.eval x = .pointer (some ad)) (cs : Array Value) (d : TypeDesc) (hc : ∀ j v, cs[j]? = some v → w.cell? (ad.add j) = some v)
    (hu : P.underlying ty = some d) (hd : (match d with | .struct _ | .array _ _ => true | _ => false) = true) (hi : (P.info? ty).map (·.size) = some cs.size)
    (h : wpStill P ops w Q rest (a.put o.dst (.agg cs))) : wpStill P ops w Q (o :: rest) a := by
  have hw : Region.wanted o (yielded ops a.tmps) = true := by simp [Region.wanted, hgd]
  refine wpStill_step fun K hK => ?_
  rw [if_pos hw]
  unfold Oper.still execOp
  simp only [ho, hx, Instr.loadAt, Instr.sureAddr, Sem.run_bind, Sem.run_pure, Result.andThen_ok, run_loadVar_arr w ad ty cs d hc hu hd hi, Oper.stillUpon]
  exact ⟨trivial, hK _ h⟩
theorem isArr.cells {w : World} {b : Nat} {t : TypeId} {k : IntKind} {n : Nat} {f : Nat → Nat} (h : isArr w b t k n f) : ∀ j v, (arr k n f)[j]? = some v → w.cell? ((⟨b, 0, none⟩ : Addr).add j) = some v := by
  intro j v hv
  rw [Addr.add_lit, Nat.zero_add]
  rcases Nat.lt_or_ge j n with hj | hj
  · rw [h.cell hj, ← hv, arr_get _ _ _ _ hj]
  · rw [Array.getElem?_eq_none (by rw [arr_size]; exact hj)] at hv; cases hv
/-- n bytes of a slice, from the place o on. -/
theorem cells_of {w : World} {b off o n : Nat} {l : List Nat} (hc : ∀ i, i < l.length → w.cell? ⟨b, off + i, none⟩ = some (bv (l.getD i 0))) (h : o + n ≤ l.length) :
    ∀ j v, (arr .u8 n (fun i => l.getD (o + i) 0))[j]? = some v → w.cell? ((⟨b, off + o, none⟩ : Addr).add j) = some v := by
  intro j v hv
  rw [Addr.add_lit, Nat.add_assoc]
  rcases Nat.lt_or_ge j n with hj | hj
  · rw [hc (o + j) (by omega), ← hv, arr_get _ _ _ _ hj]
  · rw [Array.getElem?_eq_none (by rw [arr_size]; exact hj)] at hv; cases hv
end Go.Proofs.YtgalddnblciciaaDoor
