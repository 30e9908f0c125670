import Derived.Test.YtgalddnblciciaaDoorShaD
import Derived.Test.YtgalddnblciciaaDoorShaP
import Derived.Test.YtgalddnblciciaaDoorShaMathC
import Derived.Laws.CopyOwn
import Derived.OneCell
namespace Go.Proofs.YtgalddnblciciaaDoor
open Go.RowKit Go.Deep

theorem one_other {w : World} {b c : Nat} {v u : Value} {t : TypeId} (h : w.heap[b]? = some (.cells #[v] t (0, 0))) (hne : b ≠ c) (i : Nat) : (w.setCell ⟨c, i, none⟩ u).heap[b]? = some (.cells #[v] t (0, 0)) := (blk_setCell_other _ _ _ _ hne).trans h
theorem one_row {w : World} {b c : Nat} {v : Value} {t : TypeId} (h : w.heap[b]? = some (.cells #[v] t (0, 0))) (hne : b ≠ c) (cs : Array Value) : (w.setRow c cs).heap[b]? = some (.cells #[v] t (0, 0)) := (setRow_other _ _ _ _ hne).trans h
theorem isArr.row_other {w : World} {b c : Nat} {t : TypeId} {k : IntKind} {n : Nat} {f : Nat → Nat} (h : isArr w b t k n f) (hne : b ≠ c) (cs : Array Value) : isArr (w.setRow c cs) b t k n f := h.of_block (setRow_other _ _ _ _ hne)
/-- Bytes laid over an array from place u on. -/
theorem arr_over (n : Nat) (f : Nat → Nat) (u : Nat) (x : List Nat) (h : u + x.length ≤ n) :
    ((arr .u8 n f).toList.take u ++ (x.map bv ++ (arr .u8 n f).toList.drop (u + x.length))).toArray = arr .u8 n (fun i => if u ≤ i ∧ i < u + x.length then x.getD (i - u) 0 else f i) := by
  have hs : (arr .u8 n f).toList.length = n := by rw [Array.length_toList, arr_size]
  have hg : ∀ i, i < n → (arr .u8 n f).toList[i]? = some (bv (f i)) := fun i hi => by rw [Array.getElem?_toList, arr_get _ _ _ _ hi]
  refine arr_of_get _ _ _ _ (by simp [arr_size]; omega) fun i hi => ?_
  rw [List.getElem?_toArray]
  by_cases h1 : i < u
  · rw [List.getElem?_append_left (by simp [arr_size]; omega), List.getElem?_take, if_pos h1, hg i hi, if_neg (by omega)]
  · rw [List.getElem?_append_right (by simp [arr_size]; omega)]
    have e1 : ((arr .u8 n f).toList.take u).length = u := by simp [arr_size]; omega
    rw [e1]
    by_cases h2 : i < u + x.length
    · rw [List.getElem?_append_left (by simp; omega), if_pos ⟨by omega, h2⟩, List.getElem?_map, List.getElem?_eq_getElem (by omega : i - u < x.length)]
      simp [List.getD, show i - u < x.length by omega]
    · rw [List.getElem?_append_right (by simp; omega), if_neg (by omega), List.length_map, List.getElem?_drop, show u + x.length + (i - u - x.length) = i by omega, hg i hi]

/-- Where the bytes L have been fed: u of them lie in the block. -/
def FeedC (K : Nat → Nat) (L : List Nat) (u bb bu bs : Nat) (w : World) : Prop :=
  ∃ (j : Nat) (f : Nat → Nat), L.length = 64 * j + u ∧ (∀ i, f i < 256) ∧ (∀ i, i < u → f i = L.getD (64 * j + i) 0) ∧ w.heap[bu]? = some (.cells #[.int .i64 (u : Int)] 3 (0, 0)) ∧
    isArr w bb 33 .u8 64 f ∧ isArr w bs 32 .u32 8 (Sha.run K L j).at
theorem FeedC.of_blocks {K : Nat → Nat} {L : List Nat} {u bb bu bs : Nat} {w w' : World} (h : FeedC K L u bb bu bs w) (e1 : w'.heap[bb]? = w.heap[bb]?) (e2 : w'.heap[bu]? = w.heap[bu]?) (e3 : w'.heap[bs]? = w.heap[bs]?) : FeedC K L u bb bu bs w' := by
  obtain ⟨j, f, h1, h2, h3, h4, h5, h6⟩ := h
  exact ⟨j, f, h1, h2, h3, e2.trans h4, h5.of_block e1, h6.of_block e3⟩
theorem FeedC.copied {K : Nat → Nat} {L x : List Nat} {u bb bu bs : Nat} {w : World} (h : FeedC K L u bb bu bs w) (hx : AllB x) (hfit : u + x.length ≤ 64) (n1 : bb ≠ bu) (n2 : bb ≠ bs) (n3 : bu ≠ bs) {cur : Array Value} (hg : w.heap[bb]? = some (.cells cur 33 (0, 0))) :
    FeedC K (L ++ x) (u + x.length) bb bu bs ((w.setRow bb (cur.toList.take u ++ (x.map bv ++ cur.toList.drop (u + x.length))).toArray).setCell ⟨bu, 0, none⟩ (.int .i64 ((u + x.length : Nat) : Int))) := by
  obtain ⟨j, f, h1, h2, h3, h4, h5, h6⟩ := h
  have hcur : cur = arr .u8 64 f := by have := hg.symm.trans h5; simpa using this
  subst hcur
  refine ⟨j, fun i => if u ≤ i ∧ i < u + x.length then x.getD (i - u) 0 else f i, by rw [List.length_append]; omega, fun i => ?_, fun i hi => ?_, one_setCell (one_row h4 (Ne.symm n1) _), ?_, ?_⟩
  · by_cases hi : u ≤ i ∧ i < u + x.length
    · simp only [hi, and_self, if_true]; exact hx.get _
    · simp only [hi, if_false]; exact h2 i
  · by_cases hu : u ≤ i
    · simp only [hu, hi, and_self, if_true]
      have e : 64 * j + i = L.length + (i - u) := by omega
      rw [e, List.getD, List.getD, List.getElem?_append_right (by omega), Nat.add_sub_cancel_left]
    · simp only [hu, false_and, if_false]
      rw [h3 i (by omega), List.getD, List.getD, List.getElem?_append_left (by omega)]
  · refine isArr.setOther ?_ n1 _ _
    have := setRow_heap w bb (arr .u8 64 f) ((arr .u8 64 f).toList.take u ++ (x.map bv ++ (arr .u8 64 f).toList.drop (u + x.length))).toArray _ (0, 0) h5
    rw [arr_over 64 f u x hfit] at this ⊢
    exact this
  · refine isArr.setOther (h6.row_other (Ne.symm n2) _ |>.congr fun i _ => ?_) (Ne.symm n3) _ _
    rw [Sha.run_app K L x j (by omega)]
/-- A full block has gone into the state. -/
theorem FeedC.flushed {K : Nat → Nat} {L : List Nat} {bb bu bs j : Nat} {f : Nat → Nat} {w : World} (h1 : L.length = 64 * j + 64) (h2 : ∀ i, f i < 256) (h3 : ∀ i, i < 64 → f i = L.getD (64 * j + i) 0)
    (h4 : w.heap[bu]? = some (.cells #[.int .i64 ((64 : Nat) : Int)] 3 (0, 0))) (h5 : isArr w bb 33 .u8 64 f) (h6 : isArr w bs 32 .u32 8 (Sha.blk K (Sha.run K L j) f).at) (n1 : bb ≠ bu) (n3 : bu ≠ bs) :
    FeedC K L 0 bb bu bs (w.setCell ⟨bu, 0, none⟩ (.int .i64 0)) :=
  ⟨j + 1, f, by omega, h2, fun i hi => absurd hi (Nat.not_lt_zero _), one_setCell h4, h5.setOther n1 _ _, (h6.setOther (Ne.symm n3) _ _).congr fun i _ => by rw [Sha.run_full K L j f h3]⟩

/-- The state of the digest's sum: the bytes L have been fed. -/
def Feed (K : Nat → Nat) (L : List Nat) (bt bb bu bs : Nat) (w0 w : World) : Prop :=
  (∃ u, u < 64 ∧ FeedC K L u bb bu bs w) ∧ w.heap[bt]? = some (.cells #[.int .i64 (L.length : Int)] 3 (0, 0)) ∧ Below w0.heap.size w0 w
/-- The bytes r at the address a, in none of the sum's blocks. -/
def Src (bt bb bu bs : Nat) (w : World) (a : Option Addr) (r : List Nat) : Prop :=
  r ≠ [] → ∃ b off, a = some ⟨b, off, none⟩ ∧ (b ≠ bt ∧ b ≠ bb ∧ b ≠ bu ∧ b ≠ bs ∧ b < w.heap.size) ∧ ∀ i, i < r.length → w.cell? ⟨b, off + i, none⟩ = some (bv (r.getD i 0))
end Go.Proofs.YtgalddnblciciaaDoor
