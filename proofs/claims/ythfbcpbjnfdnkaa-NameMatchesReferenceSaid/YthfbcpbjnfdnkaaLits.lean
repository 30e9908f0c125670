/- Literals of bytes and their mark, as steps of a drawn region. No function of the program. -/
import Derived.Test.YthfbcpbjnfdnkaaHeldB
import Derived.Laws.IdiomStrings
namespace Go.Proofs.Ythfbcpbjnfdnkaa
open Go.RowKit Go.Deep

/-- A literal of bytes in a block at or above B, marked or not. -/
def Lit (B : Nat) (w : World) (v : Value) (l : List Nat) : Prop :=
  AllB l ∧ l.length ≤ 9223372036854775807 ∧ ∃ g fr, B ≤ g ∧ v = .slice (some ⟨g, 0, none⟩) l.length l.length ∧ w.heap[g]? = some (.cells (l.map bv).toArray 5 fr)
/-- Nothing but marks has come, at or above B. -/
def Marked (B : Nat) (w w' : World) : Prop :=
  Below B w w' ∧ (∀ p, w'.cell? p = w.cell? p) ∧ ∀ (k : Nat) (c : Array Value) (t : TypeId) (fr : Nat × Nat), w.heap[k]? = some (Obj.cells c t fr) → ∃ fr' : Nat × Nat, w'.heap[k]? = some (Obj.cells c t fr')
theorem Lit.below {B : Nat} {w w' : World} {v : Value} {l : List Nat} (h : Lit B w v l) (k : Below w.heap.size w w') : Lit B w' v l := by
  obtain ⟨h1, h2, g, fr, hB, rfl, hg⟩ := h
  exact ⟨h1, h2, g, fr, hB, rfl, (k.block g (Array.getElem?_eq_some_iff.1 hg).1).trans hg⟩
theorem Lit.marked {B B' : Nat} {w w' : World} {v : Value} {l : List Nat} (h : Lit B w v l) (k : Marked B' w w') : Lit B w' v l := by
  obtain ⟨h1, h2, g, fr, hB, rfl, hg⟩ := h
  obtain ⟨fr', e⟩ := k.2.2 g _ _ _ hg
  exact ⟨h1, h2, g, fr', hB, rfl, e⟩
theorem Rs.marked {B : Nat} {w w' : World} {v : Value} {l : List Nat} (h : Rs w v l) (k : Marked B w w') : Rs w' v l := by
  refine ⟨h.1, h.2.1, h.2.2.elim .inl fun ⟨x, cap, e, hc, hx⟩ => .inr ⟨x, cap, e, hc, fun i hi => (k.2.1 _).trans (hx i hi)⟩⟩
theorem Bss.marked {B : Nat} {w w' : World} {v : Value} {ll : List (List Nat)} (h : Bss w v ll) (k : Marked B w w') : Bss w' v ll := by
  obtain ⟨a, cap, rfl, hl, h⟩ := h
  refine ⟨_, cap, rfl, hl, fun hne => ?_⟩
  obtain ⟨b, off, rfl, hc⟩ := h hne
  refine ⟨b, off, rfl, fun i hi => ?_⟩
  obtain ⟨u, hu, hb⟩ := hc i hi
  exact ⟨u, (k.2.1 _).trans hu, hb.marked k⟩
theorem Lit.rs {B : Nat} {w : World} {v : Value} {l : List Nat} (h : Lit B w v l) : Rs w v l := by
  obtain ⟨h1, h2, g, fr, hB, rfl, hg⟩ := h
  refine ⟨h1, h2, .inr ⟨⟨g, 0, none⟩, l.length, rfl, ⟨Nat.le_refl _, h2⟩, fun i hi => ?_⟩⟩
  rw [Addr.add_lit, Nat.zero_add]
  simp [World.cell?, hg, hi, List.getD]
theorem freeze_heap (w : World) (g n k : Nat) (hk : k ≠ g) : (w.freeze ⟨g, n, none⟩ 1).heap[k]? = w.heap[k]? := by
  unfold World.freeze
  rw [if_neg (by decide)]
  simp [Array.getElem?_modify, Ne.symm hk]
theorem freeze_same (w : World) (g n : Nat) (c : Array Value) (t : TypeId) (fr : Nat × Nat) (h : w.heap[g]? = some (.cells c t fr)) : ∃ fr', (w.freeze ⟨g, n, none⟩ 1).heap[g]? = some (.cells c t fr') := by
  unfold World.freeze
  rw [if_neg (by decide)]
  obtain ⟨lo, hi⟩ := fr
  exact ⟨if (lo == hi) = true then (n, n + 1) else (min lo n, max hi (n + 1)), by simp [Array.getElem?_modify, h]⟩
theorem freeze_marked {B : Nat} (w : World) (g n : Nat) (c : Array Value) (t : TypeId) (fr : Nat × Nat) (h : w.heap[g]? = some (.cells c t fr)) (hB : B ≤ g) : Marked B w (w.freeze ⟨g, n, none⟩ 1) := by
  refine ⟨⟨by unfold World.freeze; rw [if_neg (by decide)], by unfold World.freeze; rw [if_neg (by decide)], by unfold World.freeze; rw [if_neg (by decide)], by unfold World.freeze; rw [if_neg (by decide)]; simp, fun i hi => freeze_heap w g n i (by omega)⟩, fun p => ?_, fun k c' t' fr' hk => ?_⟩
  · by_cases e : p.block = g
    · obtain ⟨fr', e'⟩ := freeze_same w g n c t fr h
      unfold World.cell?
      rw [e, e', h]
    · unfold World.cell?
      rw [freeze_heap w g n p.block e]
  · by_cases e : k = g
    · subst e; exact freeze_same w k n c' t' fr' hk
    · exact ⟨fr', (freeze_heap w g n k e).trans hk⟩
theorem run_mark (w : World) (C : Array Value) (g n c : Nat) (fr : Nat × Nat) (h : w.heap[g]? = some (.cells C 5 fr)) :
    (convert 23 23 (.slice (some ⟨g, 0, none⟩) n c)).run Try.prog w = .ok (.slice (some ⟨g, 0, none⟩) n c) (w.freeze ⟨g, C.size, none⟩ 1) := by
  have hsh : w.shape? g = some (5, C.size) := by
    unfold World.shape?
    rw [h]
  simp [convert, run_underlying Try.underlying23, run_underlying Try.underlying5, markStringish, hsh]

section
variable {ops : Array Oper} {Q : Exit → Act → World → Prop} {md : Region.Mode} {S : World → Prop} {fuel : Nat} {listed : Array Bool} {a : Act} {w : World}
/-- The literal is laid. -/
theorem HStep.lit {i : Nat} {o : Oper} (dst : Option Tmp) (hdst : o.dst = dst) (hw : Region.wanted o (yielded ops a.tmps) = true) (B n : Nat) (l : List Nat) (hall : AllB l) (h63 : l.length ≤ 9223372036854775807) (hn : n = l.length) (hB : B ≤ w.heap.size)
    (hrun : (execOp a.eval o).run Try.prog w = .ok (.value (.slice (some ⟨w.heap.size, 0, none⟩) n n)) (w.alloc (.cells (l.map bv).toArray 5)))
    (hS : ∀ w', Below w.heap.size w w' → S w')
    (h : ∀ (w' : World) (g : Nat), Below w.heap.size w w' → Lit B w' (.slice (some ⟨g, 0, none⟩) n n) l → wpAnyH Try.prog md ops Q S fuel (listed.setIfInBounds i true) (a.put dst (.slice (some ⟨g, 0, none⟩) n n)) w') :
    HStep Try.prog md ops Q S fuel listed a w i o := by
  subst hn
  exact HStep.value dst hdst hw _ _ hrun (hS _ ((Below.refl _ _).alloc (Nat.le_refl _) _)) (h _ _ ((Below.refl _ _).alloc (Nat.le_refl _) _) ⟨hall, h63, w.heap.size, (0, 0), hB, rfl, heap_alloc_new _ _⟩)
/-- The literal is marked. -/
theorem HStep.mark {i : Nat} {o : Oper} (dst : Option Tmp) (hdst : o.dst = dst) (hw : Region.wanted o (yielded ops a.tmps) = true) (B : Nat) (x : Operand) (v : Value) (l : List Nat) (ho : o.op = .convert 23 23 x) (hx : a.eval x = v) (hv : Lit B w v l)
    (hS : ∀ w', Marked B w w' → S w')
    (h : ∀ w', Marked B w w' → Rs w' v l → wpAnyH Try.prog md ops Q S fuel (listed.setIfInBounds i true) (a.put dst v) w') : HStep Try.prog md ops Q S fuel listed a w i o := by
  have hr := hv.rs
  obtain ⟨h1, h2, g, fr, hB, rfl, hg⟩ := hv
  have hm := freeze_marked (B := B) w g (l.map bv).toArray.size _ _ _ hg hB
  refine HStep.value dst hdst hw _ _ ?_ (hS _ hm) (h _ hm (hr.marked hm))
  unfold execOp
  simp only [ho, hx, Sem.run_bind, Sem.run_pure, Result.andThen_ok, run_mark w _ g l.length l.length fr hg]
end
end Go.Proofs.Ythfbcpbjnfdnkaa
