/- Merged by program out of: Held HeldB Lits Reg RegB RegC Range. -/
import Derived.Test.YtnhchdkchohnbaaGreatDoorTM1
import Derived.Test.YtnhchdkchohnbaaGreatDoorTM2
import Derived.Test.YtnhchdkchohnbaaGreatDoorTM3
import Derived.Deep.RegionHeld3
import Derived.Deep.MidRow
import Derived.Laws.IdiomStrings
import Derived.Great.BuildSlice
import Derived.Laws.CopyOwn
import Derived.RangeFuncNested
import Derived.RangeFuncBound
import Derived.RangeFuncCalls
import Derived.RangeFuncLeaves
import Derived.OwnWalkIn
import Derived.TacticsInMore
import Derived.LoopNIn
import Derived.LoopIn
/- A region that draws its order, walked by hand over one condition on the world: loads of whole arrays taken first, calls in a forced order. No function of the program. -/
namespace Go.Proofs.YtnhchdkchohnbaaGreatDoor
open Go.RowKit Go.Deep

section
variable {P : Program} {ops : Array Oper} {Q : Exit → Act → World → Prop} {md : Region.Mode} {S : World → Prop} {fuel : Nat} {listed : Array Bool} {a : Act} {w : World}
theorem held_call (i : Nat) (dst : Option Tmp) {o : Oper} (hr : Region.ready md ops listed = [i]) (ho : ops[i]? = some o) (hdst : o.dst = dst) (hw : Region.wanted o (yielded ops a.tmps) = true) (f : FuncId) (args : Array Value) (hrun : (execOp a.eval o).run P w = .ok (.enter f args) w)
    (h : Calls P f args w fun e w' => ∃ v, e = .returned v ∧ S w' ∧ wpAnyH P md ops Q S fuel (listed.setIfInBounds i true) (a.put dst v) w') : wpAnyH P md ops Q S (fuel + 1) listed a w := by
  subst hdst
  refine wpAnyH_ready hr (by simp) (AllReadyH.cons ho (fun K hK => ?_) AllReadyH.nil)
  rw [if_pos hw]
  unfold Oper.wp
  rw [hrun, Oper.upon_enter]
  refine h.mono fun e w' hh => ?_
  obtain ⟨v, rfl, hS, hn⟩ := hh
  exact hK.out _ _ hS (fun _ => hn)
def HStep (P : Program) (md : Region.Mode) (ops : Array Oper) (Q : Exit → Act → World → Prop) (S : World → Prop) (fuel : Nat) (listed : Array Bool) (a : Act) (w : World) (i : Nat) (o : Oper) : Prop :=
  ∀ K' : Act → World → Prop, Shut (∀ a w, S w → (S w → wpAnyH P md ops Q S fuel (listed.setIfInBounds i true) a w) → K' a w) → if Region.wanted o (yielded ops a.tmps) = true then Oper.wp P o a w K' Q else K' (a.put o.dst undef) w
theorem held_one (i : Nat) {o : Oper} (hr : Region.ready md ops listed = [i]) (ho : ops[i]? = some o) (h : HStep P md ops Q S fuel listed a w i o) : wpAnyH P md ops Q S (fuel + 1) listed a w :=
  wpAnyH_ready hr (by simp) (AllReadyH.cons ho h AllReadyH.nil)
theorem held_two (i j : Nat) {oi oj : Oper} (hr : Region.ready md ops listed = [i, j]) (hi : ops[i]? = some oi) (hj : ops[j]? = some oj) (h1 : HStep P md ops Q S fuel listed a w i oi) (h2 : HStep P md ops Q S fuel listed a w j oj) : wpAnyH P md ops Q S (fuel + 1) listed a w :=
  wpAnyH_ready hr (by simp) (AllReadyH.cons hi h1 (AllReadyH.cons hj h2 AllReadyH.nil))
theorem HStep.call {i : Nat} {o : Oper} (dst : Option Tmp) (hdst : o.dst = dst) (hw : Region.wanted o (yielded ops a.tmps) = true) (f : FuncId) (args : Array Value) (hrun : (execOp a.eval o).run P w = .ok (.enter f args) w)
    (h : Calls P f args w fun e w' => ∃ v, e = .returned v ∧ S w' ∧ wpAnyH P md ops Q S fuel (listed.setIfInBounds i true) (a.put dst v) w') : HStep P md ops Q S fuel listed a w i o := fun K hK => by
  subst hdst
  rw [if_pos hw]
  unfold Oper.wp
  rw [hrun, Oper.upon_enter]
  refine h.mono fun e w' hh => ?_
  obtain ⟨v, rfl, hS, hn⟩ := hh
  exact hK.out _ _ hS (fun _ => hn)
theorem HStep.value {i : Nat} {o : Oper} (dst : Option Tmp) (hdst : o.dst = dst) (hw : Region.wanted o (yielded ops a.tmps) = true) (v : Value) (w' : World) (hrun : (execOp a.eval o).run P w = .ok (.value v) w') (hS : S w')
    (h : wpAnyH P md ops Q S fuel (listed.setIfInBounds i true) (a.put dst v) w') : HStep P md ops Q S fuel listed a w i o := fun K hK => by
  subst hdst
  rw [if_pos hw]
  unfold Oper.wp
  rw [hrun, Oper.upon_value]
  exact hK.out _ _ hS (fun _ => h)
theorem HStep.skip {i : Nat} {o : Oper} (dst : Option Tmp) (hdst : o.dst = dst) (hw : Region.wanted o (yielded ops a.tmps) = true) (w' : World) (hrun : (execOp a.eval o).run P w = .ok .skip w') (hS : S w')
    (h : wpAnyH P md ops Q S fuel (listed.setIfInBounds i true) (a.put dst undef) w') : HStep P md ops Q S fuel listed a w i o := fun K hK => by
  subst hdst
  rw [if_pos hw]
  unfold Oper.wp
  rw [hrun, Oper.upon_skip]
  exact hK.out _ _ hS (fun _ => h)
theorem HStep.law {i : Nat} {o : Oper} (hw : Region.wanted o (yielded ops a.tmps) = true) (h : ∀ K' : Act → World → Prop, (∀ a w, S w → wpAnyH P md ops Q S fuel (listed.setIfInBounds i true) a w → K' a w) → o.wp P a w K' Q) : HStep P md ops Q S fuel listed a w i o := fun K hK => by
  rw [if_pos hw]
  exact h K (fun a w hS hn => hK.out a w hS (fun _ => hn))
theorem held_take (i : Nat) (dst : Option Tmp) {oi : Oper} (hi : ops[i]? = some oi) (hdst : oi.dst = dst) (hs : Region.noSelect ops = true) (hf : Region.free md ops listed i = true) (hr : (Region.ready md ops listed).contains i = true)
    (hQ2 : ∀ c a v w, Q (.panic c) (a.put dst v) w → Q (.panic c) a w) (hw : Region.wanted oi (yielded ops a.tmps) = true) (v : Value) (hrun : ∀ w, S w → (execOp a.eval oi).run P w = .ok (.value v) w) (hS : S w)
    (h : wpAnyH P md ops Q S fuel (listed.setIfInBounds i true) (a.put dst v) w) : wpAnyH P md ops Q S (fuel + 1) listed a w := by
  subst hdst
  exact wpAnyH_take hi hs hf hr (fun c a w => hQ2 c a _ w) (.inl ⟨hw, hrun⟩) hS h
def lawQ (K : Act → World → Prop) (Q : Exit → Act → World → Prop) : Exit → Act → World → Prop
  | .normal, a, w => K a w
  | .panic c, a, w => Q (.panic c) a w
  | _, _, _ => False
theorem wp_of_law {o : Oper} {K : Act → World → Prop} (h : wpList P ops (lawQ K Q) [{ o with guard := none }] a w) : o.wp P a w K Q := by
  unfold wpList at h
  have hw : Region.wanted { o with guard := none } (yielded ops a.tmps) = true := by simp [Region.wanted]
  rw [if_pos hw] at h
  rcases h with h | ⟨_, _, _, h⟩
  · have e : Oper.wp P { o with guard := none } a w (wpList P ops (lawQ K Q) []) (lawQ K Q) = Oper.upon P o a (wpList P ops (lawQ K Q) []) (lawQ K Q) ((execOp a.eval o).run P w) := rfl
    rw [e] at h
    unfold Oper.wp
    generalize (execOp a.eval o).run P w = r at h ⊢
    cases r with
    | ok n w' =>
      cases n <;> simp only [Oper.upon] at h ⊢
      case enter f args =>
        refine h.mono fun e w'' hh => ?_
        cases e with
        | returned v => exact hh
        | panicked c => exact hh
        | outgrown => obtain ⟨_, _, hf⟩ := hh; exact hf.elim
      all_goals exact h
    | halt x w' =>
      cases x <;> simp only [Oper.upon] at h ⊢
      all_goals exact h
  · exact h.elim
theorem HStep.of_law {i : Nat} {o : Oper} (ops0 : Array Oper) (hw : Region.wanted o (yielded ops a.tmps) = true)
    (h : ∀ K' : Act → World → Prop, (∀ a w, S w → wpAnyH P md ops Q S fuel (listed.setIfInBounds i true) a w → K' a w) → wpList P ops0 (lawQ K' Q) [{ o with guard := none }] a w) : HStep P md ops Q S fuel listed a w i o :=
  HStep.law hw fun K' hK => wp_of_law (h K' hK)
end
attribute [irreducible] HStep
end Go.Proofs.YtnhchdkchohnbaaGreatDoor
/- Steps of a region that is walked by hand: literals of bytes and of byte slices. No function of the program. -/
namespace Go.Proofs.YtnhchdkchohnbaaGreatDoor
open Go.RowKit Go.Deep

section
variable {ops : Array Oper} {Q : Exit → Act → World → Prop} {md : Region.Mode} {S : World → Prop} {fuel : Nat} {listed : Array Bool} {a : Act} {w : World}
theorem exec_bytes_one (o : Oper) (a : Act) (w : World) (x : Operand) (c : Nat) (ho : o.op = .buildSlice 24 1 #[(0, x)]) (hx : a.eval x = .int .u8 (c : Int)) :
    (execOp a.eval o).run Tryz.prog w = .ok (.value (.slice (some ⟨w.heap.size, 0, none⟩) 1 1)) (w.alloc (.cells #[.int .u8 (c : Int)] 5)) := by
  unfold execOp
  simp only [ho]
  rw [show (#[(0, x)] : Array (Nat × Operand)).map (fun (i, x) => (i, a.eval x)) = #[(0, .int .u8 (c : Int))] by simp [hx]]
  kernel_rfl
theorem exec_lists_two (o : Oper) (a : Act) (w : World) (x y : Operand) (p q : Option Addr) (n m i j : Nat) (ho : o.op = .buildSlice 95 2 #[(0, x), (1, y)]) (hx : a.eval x = .slice p n m) (hy : a.eval y = .slice q i j) :
    (execOp a.eval o).run Tryz.prog w = .ok (.value (.slice (some ⟨w.heap.size, 0, none⟩) 2 2)) (w.alloc (.cells #[.slice p n m, .slice q i j] 24)) := by
  unfold execOp
  simp only [ho]
  rw [show (#[(0, x), (1, y)] : Array (Nat × Operand)).map (fun (i, x) => (i, a.eval x)) = #[(0, .slice p n m), (1, .slice q i j)] by simp [hx, hy]]
  kernel_rfl
theorem HStep.byte {i : Nat} {o : Oper} (dst : Option Tmp) (hdst : o.dst = dst) (hw : Region.wanted o (yielded ops a.tmps) = true) (x : Operand) (c : Nat) (ho : o.op = .buildSlice 24 1 #[(0, x)]) (hx : a.eval x = .int .u8 (c : Int)) (hc : c < 256)
    (hS : ∀ w', Below w.heap.size w w' → S w')
    (h : ∀ (w' : World) (g : Nat), Below w.heap.size w w' → Rs w' (.slice (some ⟨g, 0, none⟩) 1 1) [c] → wpAnyH Tryz.prog md ops Q S fuel (listed.setIfInBounds i true) (a.put dst (.slice (some ⟨g, 0, none⟩) 1 1)) w') :
    HStep Tryz.prog md ops Q S fuel listed a w i o :=
  HStep.value dst hdst hw _ _ (exec_bytes_one o a w x c ho hx) (hS _ ((Below.refl _ _).alloc (Nat.le_refl _) _)) (h _ _ ((Below.refl _ _).alloc (Nat.le_refl _) _) (own_built w 0 [c] (AllB.one hc) (Nat.zero_le _) (by simp)).bs.rs)
theorem HStep.lists2 {i : Nat} {o : Oper} (dst : Option Tmp) (hdst : o.dst = dst) (hw : Region.wanted o (yielded ops a.tmps) = true) (x y : Operand) (u v : Value) (l m : List Nat) (ho : o.op = .buildSlice 95 2 #[(0, x), (1, y)]) (hx : a.eval x = u) (hy : a.eval y = v) (hu : Rs w u l) (hv : Rs w v m)
    (hS : ∀ w', Below w.heap.size w w' → S w')
    (h : ∀ (w' : World) (v : Value), Below w.heap.size w w' → Bss w' v [l, m] → wpAnyH Tryz.prog md ops Q S fuel (listed.setIfInBounds i true) (a.put dst v) w') : HStep Tryz.prog md ops Q S fuel listed a w i o := by
  obtain ⟨p, k, rfl⟩ := hu.form
  obtain ⟨q, j, rfl⟩ := hv.form
  exact HStep.value dst hdst hw _ _ (exec_lists_two o a w x y p q _ k _ j ho hx hy) (hS _ ((Below.refl _ _).alloc (Nat.le_refl _) _)) (h _ _ ((Below.refl _ _).alloc (Nat.le_refl _) _) (bss_two hu hv))
end
end Go.Proofs.YtnhchdkchohnbaaGreatDoor
/- Literals of bytes and their mark, as steps of a drawn region. No function of the program. -/
namespace Go.Proofs.YtnhchdkchohnbaaGreatDoor
open Go.RowKit Go.Deep

def Lit (B : Nat) (w : World) (v : Value) (l : List Nat) : Prop :=
  AllB l ∧ l.length ≤ 9223372036854775807 ∧ ∃ g fr, B ≤ g ∧ v = .slice (some ⟨g, 0, none⟩) l.length l.length ∧ w.heap[g]? = some (.cells (l.map bv).toArray 5 fr)
def Marked (B : Nat) (w w' : World) : Prop :=
  Below B w w' ∧ (∀ p, w'.cell? p = w.cell? p) ∧ ∀ (k : Nat) (c : Array Value) (t : TypeId) (fr : Nat × Nat), w.heap[k]? = some (Obj.cells c t fr) → ∃ fr' : Nat × Nat, w'.heap[k]? = some (Obj.cells c t fr')
theorem Lit.below {B : Nat} {w w' : World} {v : Value} {l : List Nat} (h : Lit B w v l) (k : Below w.heap.size w w') : Lit B w' v l := by
  obtain ⟨h1, h2, g, fr, hB, rfl, hg⟩ := h
  exact ⟨h1, h2, g, fr, hB, rfl, (k.block g (Array.getElem?_eq_some_iff.1 hg).1).trans hg⟩
theorem Lit.marked {B B' : Nat} {w w' : World} {v : Value} {l : List Nat} (h : Lit B w v l) (k : Marked B' w w') : Lit B w' v l := by
  obtain ⟨h1, h2, g, fr, hB, rfl, hg⟩ := h
  obtain ⟨fr', e⟩ := k.2.2 g _ _ _ hg
  exact ⟨h1, h2, g, fr', hB, rfl, e⟩
theorem Rs.marked {B : Nat} {w w' : World} {v : Value} {l : List Nat} (h : Rs w v l) (k : Marked B w w') : Rs w' v l := by
  refine ⟨h.1, h.2.1, h.2.2.elim .inl fun ⟨x, cap, e, hc, hx⟩ => .inr ⟨x, cap, e, hc, fun i hi => (k.2.1 _).trans (hx i hi)⟩⟩
theorem Bss.marked {B : Nat} {w w' : World} {v : Value} {ll : List (List Nat)} (h : Bss w v ll) (k : Marked B w w') : Bss w' v ll := by
  obtain ⟨a, cap, rfl, hl, h⟩ := h
  refine ⟨_, cap, rfl, hl, fun hne => ?_⟩
  obtain ⟨b, off, rfl, hc⟩ := h hne
  refine ⟨b, off, rfl, fun i hi => ?_⟩
  obtain ⟨u, hu, hb⟩ := hc i hi
  exact ⟨u, (k.2.1 _).trans hu, hb.marked k⟩
theorem Lit.rs {B : Nat} {w : World} {v : Value} {l : List Nat} (h : Lit B w v l) : Rs w v l := by
  obtain ⟨h1, h2, g, fr, hB, rfl, hg⟩ := h
  refine ⟨h1, h2, .inr ⟨⟨g, 0, none⟩, l.length, rfl, ⟨Nat.le_refl _, h2⟩, fun i hi => ?_⟩⟩
  rw [Addr.add_lit, Nat.zero_add]
  simp [World.cell?, hg, hi, List.getD]
theorem freeze_heap (w : World) (g n k : Nat) (hk : k ≠ g) : (w.freeze ⟨g, n, none⟩ 1).heap[k]? = w.heap[k]? := by
  unfold World.freeze
  rw [if_neg (by decide)]
  simp [Array.getElem?_modify, Ne.symm hk]
theorem freeze_same (w : World) (g n : Nat) (c : Array Value) (t : TypeId) (fr : Nat × Nat) (h : w.heap[g]? = some (.cells c t fr)) : ∃ fr', (w.freeze ⟨g, n, none⟩ 1).heap[g]? = some (.cells c t fr') := by
  unfold World.freeze
  rw [if_neg (by decide)]
  obtain ⟨lo, hi⟩ := fr
  exact ⟨if (lo == hi) = true then (n, n + 1) else (min lo n, max hi (n + 1)), by simp [Array.getElem?_modify, h]⟩
theorem freeze_marked {B : Nat} (w : World) (g n : Nat) (c : Array Value) (t : TypeId) (fr : Nat × Nat) (h : w.heap[g]? = some (.cells c t fr)) (hB : B ≤ g) : Marked B w (w.freeze ⟨g, n, none⟩ 1) := by
  refine ⟨⟨by unfold World.freeze; rw [if_neg (by decide)], by unfold World.freeze; rw [if_neg (by decide)], by unfold World.freeze; rw [if_neg (by decide)], by unfold World.freeze; rw [if_neg (by decide)]; simp, fun i hi => freeze_heap w g n i (by omega)⟩, fun p => ?_, fun k c' t' fr' hk => ?_⟩
  · by_cases e : p.block = g
    · obtain ⟨fr', e'⟩ := freeze_same w g n c t fr h
      unfold World.cell?
      rw [e, e', h]
    · unfold World.cell?
      rw [freeze_heap w g n p.block e]
  · by_cases e : k = g
    · subst e; exact freeze_same w k n c' t' fr' hk
    · exact ⟨fr', (freeze_heap w g n k e).trans hk⟩
theorem run_mark (w : World) (C : Array Value) (g n c : Nat) (fr : Nat × Nat) (h : w.heap[g]? = some (.cells C 5 fr)) :
    (convert 24 24 (.slice (some ⟨g, 0, none⟩) n c)).run Tryz.prog w = .ok (.slice (some ⟨g, 0, none⟩) n c) (w.freeze ⟨g, C.size, none⟩ 1) := by
  have hsh : w.shape? g = some (5, C.size) := by
    unfold World.shape?
    rw [h]
  simp [convert, run_underlying Tryz.underlying24, run_underlying Tryz.underlying5, markStringish, hsh]

section
variable {ops : Array Oper} {Q : Exit → Act → World → Prop} {md : Region.Mode} {S : World → Prop} {fuel : Nat} {listed : Array Bool} {a : Act} {w : World}
theorem HStep.mark {i : Nat} {o : Oper} (dst : Option Tmp) (hdst : o.dst = dst) (hw : Region.wanted o (yielded ops a.tmps) = true) (B : Nat) (x : Operand) (v : Value) (l : List Nat) (ho : o.op = .convert 24 24 x) (hx : a.eval x = v) (hv : Lit B w v l)
    (hS : ∀ w', Marked B w w' → S w')
    (h : ∀ w', Marked B w w' → Rs w' v l → wpAnyH Tryz.prog md ops Q S fuel (listed.setIfInBounds i true) (a.put dst v) w') : HStep Tryz.prog md ops Q S fuel listed a w i o := by
  have hr := hv.rs
  obtain ⟨h1, h2, g, fr, hB, rfl, hg⟩ := hv
  have hm := freeze_marked (B := B) w g (l.map bv).toArray.size _ _ _ hg hB
  refine HStep.value dst hdst hw _ _ ?_ (hS _ hm) (h _ hm (hr.marked hm))
  unfold execOp
  simp only [ho, hx, Sem.run_bind, Sem.run_pure, Result.andThen_ok, run_mark w _ g l.length l.length fr hg]
end
end Go.Proofs.YtnhchdkchohnbaaGreatDoor
/- A region that draws its order, under a name: its operations are taken out of the program's text by a function, so that goals stay small. No function of the program. -/
namespace Go.Proofs.YtnhchdkchohnbaaGreatDoor
open Go.RowKit Go.Deep

def regionIn : Code → Nat → Option (Array Oper)
  | .region id ops _, n => if Nat.beq id n then some ops else none
  | .seq a b, n => match regionIn a n with | some x => some x | none => regionIn b n
  | .cond _ a b, n => match regionIn a n with | some x => some x | none => regionIn b n
  | .block _ b, n => regionIn b n
  | .loop b, n => regionIn b n
  | .rangeFunc _ _ a b, n => match regionIn a n with | some x => some x | none => regionIn b n
  | .scope b, n => regionIn b n
  | _, _ => none
def reg (f : Func) (n : Nat) : Array Oper := match f.body with
  | some c => (match regionIn c n with | some x => x | none => #[])
  | none => #[]
def opn (ops : Array Oper) (i : Nat) : Oper := ops.getD i default
def nq (K : Act → World → Prop) : Exit → Act → World → Prop
  | .normal, a, w => K a w
  | _, _, _ => False

section
variable {P : Program} {ops : Array Oper} {K : Act → World → Prop} {S : World → Prop} {n : Nat} {listed : Array Bool} {a : Act} {w : World}
theorem wp_reg {ops0 : Array Oper} {id : Nat} {Q : Exit → Act → World → Prop} (f : Func) (k n : Nat) (S : World → Prop) (hr : reg f k = ops0) (hn : (reg f k).size = n) (hm : P.follows .mixedOrders = true) (hS : S (w.drewN 1))
    (h : ∀ K : Act → World → Prop, (∀ a w, Q .normal a w → K a w) → S (w.drewN 1) → wpAnyH P .any (reg f k) (nq K) S n (Array.replicate n false) a (w.drewN 1)) : (Code.region id ops0 true).wp P Q a w := by
  subst hr; subst hn
  refine Code.wp_mono (Q := nq (Q .normal)) (fun e a w h => ?_) (wp_region_held_drew (S := S) hm hS (h _ (fun _ _ h => h)))
  cases e <;> first | exact h | exact (h : False).elim

def takeB (ops : Array Oper) (listed : Array Bool) (a : Act) (i : Nat) (d : Tmp) : Bool :=
  (Nat.blt i ops.size) && Region.noSelect ops && Region.free .any ops listed i && (Region.ready .any ops listed).contains i && (match (opn ops i).dst with | some d' => Nat.beq d' d | none => false) && Region.wanted (opn ops i) (yielded ops a.tmps)
theorem opn_at {i : Nat} (h : Nat.blt i ops.size = true) : ops[i]? = some (opn ops i) := by
  have h' : i < ops.size := Nat.le_of_ble_eq_true h
  simp [opn, h']
theorem dst_at {o : Oper} {d : Tmp} (h : (match o.dst with | some d' => Nat.beq d' d | none => false) = true) : o.dst = some d := by
  cases hd : o.dst with
  | none => rw [hd] at h; cases h
  | some d' => rw [hd] at h; rw [Nat.eq_of_beq_eq_true h]
theorem reg_take (i : Nat) (d : Tmp) (v : Value) (hB : takeB ops listed a i d = true) (hrun : ∀ w, S w → (execOp a.eval (opn ops i)).run P w = .ok (.value v) w) (hS : S w)
    (h : wpAnyH P .any ops (nq K) S n (listed.setIfInBounds i true) (a.put (some d) v) w) : wpAnyH P .any ops (nq K) S (n + 1) listed a w := by
  unfold takeB at hB
  simp only [Bool.and_eq_true] at hB
  obtain ⟨⟨⟨⟨⟨h1, h2⟩, h3⟩, h4⟩, h5⟩, h6⟩ := hB
  exact held_take i (some d) (opn_at h1) (dst_at h5) h2 h3 h4 (fun _ _ _ _ h => h) h6 v hrun hS h
def offB (ops : Array Oper) (listed : Array Bool) (a : Act) (i : Nat) (d : Tmp) : Bool :=
  (Nat.blt i ops.size) && Region.noSelect ops && Region.free .any ops listed i && (Region.ready .any ops listed).contains i && (match (opn ops i).dst with | some d' => Nat.beq d' d | none => false) && !Region.wanted (opn ops i) (yielded ops a.tmps)
def oneB (ops : Array Oper) (listed : Array Bool) (a : Act) (i : Nat) (d : Tmp) : Bool :=
  (Nat.blt i ops.size) && (match Region.ready .any ops listed with | [j] => Nat.beq j i | _ => false) && (match (opn ops i).dst with | some d' => Nat.beq d' d | none => false) && Region.wanted (opn ops i) (yielded ops a.tmps)
theorem ready_at {l : List Nat} {i : Nat} (h : (match l with | [j] => Nat.beq j i | _ => false) = true) : l = [i] := by
  match l with
  | [] => cases h
  | [j] => rw [Nat.eq_of_beq_eq_true h]
  | _ :: _ :: _ => cases h
theorem reg_call (i : Nat) (d : Tmp) (f : FuncId) (args : Array Value) (hB : oneB ops listed a i d = true) (hrun : (execOp a.eval (opn ops i)).run P w = .ok (.enter f args) w)
    (h : Calls P f args w fun e w' => ∃ v, e = .returned v ∧ S w' ∧ wpAnyH P .any ops (nq K) S n (listed.setIfInBounds i true) (a.put (some d) v) w') : wpAnyH P .any ops (nq K) S (n + 1) listed a w := by
  unfold oneB at hB
  simp only [Bool.and_eq_true] at hB
  obtain ⟨⟨⟨h1, h2⟩, h3⟩, h4⟩ := hB
  exact held_call i (some d) (ready_at h2) (opn_at h1) (dst_at h3) h4 f args hrun h
theorem reg_one (i : Nat) (hr : Region.ready .any ops listed = [i]) (h1 : Nat.blt i ops.size = true) (h : HStep P .any ops (nq K) S n listed a w i (opn ops i)) : wpAnyH P .any ops (nq K) S (n + 1) listed a w :=
  held_one i hr (opn_at h1) h
theorem reg_two (i j : Nat) (hr : Region.ready .any ops listed = [i, j]) (h1 : (Nat.blt i ops.size && Nat.blt j ops.size) = true) (hi : HStep P .any ops (nq K) S n listed a w i (opn ops i)) (hj : HStep P .any ops (nq K) S n listed a w j (opn ops j)) : wpAnyH P .any ops (nq K) S (n + 1) listed a w := by
  simp only [Bool.and_eq_true] at h1
  exact held_two i j hr (opn_at h1.1) (opn_at h1.2) hi hj
theorem reg_done (hr : Region.ready .any ops listed = []) (h : K a w) : wpAnyH P .any ops (nq K) S n listed a w := wpAnyH_done hr h n
theorem reg_cut {α : Type} {n0 : Nat} {listed0 : Array Bool} (n : Nat) (listed : Array Bool) (g : Act → α → Act) (C : α → World → Prop) (hcut : ∀ x w, C x w → wpAnyH P .any ops (nq K) S n listed (g a x) w)
    (h : (∀ x w, C x w → wpAnyH P .any ops (nq K) S n listed (g a x) w) → wpAnyH P .any ops (nq K) S n0 listed0 a w) : wpAnyH P .any ops (nq K) S n0 listed0 a w := h hcut
theorem reg_cast {listed' : Array Bool} {a' : Act} (hl : listed = listed') (ha : a = a') (h : wpAnyH P .any ops (nq K) S n listed' a' w) : wpAnyH P .any ops (nq K) S n listed a w := by
  subst hl; subst ha; exact h
end
attribute [irreducible] takeB offB oneB reg

/-! ### frames that only lay blocks and marks -/
def Kp (B : Nat) (w w' : World) : Prop :=
  Below B w w' ∧ (∀ p v, w.cell? p = some v → w'.cell? p = some v) ∧ ∀ (k : Nat) (c : Array Value) (t : TypeId) (fr : Nat × Nat), w.heap[k]? = some (Obj.cells c t fr) → ∃ fr' : Nat × Nat, w'.heap[k]? = some (Obj.cells c t fr')
theorem Kp.of_below {B : Nat} {w w' : World} (hB : B ≤ w.heap.size) (h : Below w.heap.size w w') : Kp B w w' :=
  ⟨h.mono hB, fun _p _v hp => (h.cell (World.block_lt_of_cell? w _ hp)).trans hp, fun k _ _ fr hk => ⟨fr, (h.block k (Array.getElem?_eq_some_iff.1 hk).1).trans hk⟩⟩
theorem Kp.trans {B : Nat} {u v w : World} (h : Kp B u v) (k : Kp B v w) : Kp B u w :=
  ⟨h.1.trans k.1, fun p x hp => k.2.1 p x (h.2.1 p x hp), fun i c t fr hi => by obtain ⟨fr', h'⟩ := h.2.2 i c t fr hi; exact k.2.2 i c t fr' h'⟩
section
variable {ops : Array Oper} {K : Act → World → Prop} {V : World} {B n : Nat} {listed : Array Bool} {a : Act} {w : World}
def stepB (ops : Array Oper) (a : Act) (i : Nat) (d : Tmp) : Bool :=
  (match (opn ops i).dst with | some d' => Nat.beq d' d | none => false) && Region.wanted (opn ops i) (yielded ops a.tmps)
end
attribute [irreducible] stepB
end Go.Proofs.YtnhchdkchohnbaaGreatDoor
/- Steps of a drawn region that lays blocks, marks them and appends, in whatever order: which blocks are kept. No function of the program. -/
namespace Go.Proofs.YtnhchdkchohnbaaGreatDoor
open Go.RowKit Go.Deep

def Kq (B : Nat) (r : Option Nat) (w w' : World) : Prop :=
  Below B w w' ∧ w.heap.size ≤ w'.heap.size ∧ (∀ p v, r ≠ some p.block → w.cell? p = some v → w'.cell? p = some v) ∧ ∀ (k : Nat) (c : Array Value) (t : TypeId) (fr : Nat × Nat), r ≠ some k → w.heap[k]? = some (Obj.cells c t fr) → ∃ fr' : Nat × Nat, w'.heap[k]? = some (Obj.cells c t fr')
theorem Kq.of_below {B : Nat} {r : Option Nat} {w w' : World} (hB : B ≤ w.heap.size) (h : Below w.heap.size w w') : Kq B r w w' :=
  ⟨h.mono hB, h.size, fun _p _v _ hp => (h.cell (World.block_lt_of_cell? w _ hp)).trans hp, fun k _ _ fr _ hk => ⟨fr, (h.block k (Array.getElem?_eq_some_iff.1 hk).1).trans hk⟩⟩
theorem Kq.of_grown {B : Nat} {r : Option Nat} {w w' : World} (hB : B ≤ w.heap.size) (h : w.grownBy w' r) (hr : ∀ g, r = some g → B ≤ g) : Kq B r w w' :=
  ⟨below_only (Below.refl B w) hB h hr, h.size, fun p v hne hp => by
      have hlt := World.block_lt_of_cell? w _ hp
      exact (World.cell?_of_block (h.block p.block hlt (fun e => hne e.symm))).trans hp,
    fun k c t fr hne hk => ⟨fr, (h.block k (Array.getElem?_eq_some_iff.1 hk).1 (fun e => hne e.symm)).trans hk⟩⟩
theorem Rs.kq {B : Nat} {r : Option Nat} {w w' : World} {v : Value} {l : List Nat} (h : Rs w v l) (k : Kq B r w w') (hne : r = none ∨ r ≠ v.ownBlock) : Rs w' v l :=
  ⟨h.1, h.2.1, h.2.2.elim .inl fun ⟨x, cap, e, hc, hx⟩ => .inr ⟨x, cap, e, hc, fun i hi => k.2.2.1 _ _ (fun er => by
    rcases hne with h0 | h0
    · rw [h0] at er; cases er
    · exact h0 (er.trans (by rw [e]; simp only [Value.ownBlock, Addr.add]; split <;> rfl))) (hx i hi)⟩⟩
def Blk (w : World) (g : Nat) (C : Array Value) (t : TypeId) : Prop := ∃ fr : Nat × Nat, w.heap[g]? = some (Obj.cells C t fr)
theorem Blk.kq {B : Nat} {r : Option Nat} {w w' : World} {g : Nat} {C : Array Value} {t : TypeId} (h : Blk w g C t) (k : Kq B r w w') (hne : r ≠ some g) : Blk w' g C t := by
  obtain ⟨fr, h⟩ := h
  exact k.2.2.2 g C t fr hne h
theorem Blk.lt {w : World} {g : Nat} {C : Array Value} {t : TypeId} (h : Blk w g C t) : g < w.heap.size := by
  obtain ⟨fr, h⟩ := h
  exact (Array.getElem?_eq_some_iff.1 h).1
theorem Blk.cell {w : World} {g i : Nat} {C : Array Value} {t : TypeId} {v : Value} (h : Blk w g C t) (hi : C[i]? = some v) : w.cell? ⟨g, i, none⟩ = some v := by
  obtain ⟨fr, h⟩ := h
  simp [World.cell?, h, hi]
theorem Own.kq {_B base : Nat} {r : Option Nat} {w w' : World} {v : Value} {l : List Nat} (h : Own w base v l) (k : w.grownBy w' r) (hne : v.ownBlock = none ∨ v.ownBlock ≠ r) : Own w' base v l := h.only k hne
theorem Blk.bs {w : World} {g n : Nat} {l : List Nat} (h : Blk w g (l.map bv).toArray 5) (hall : AllB l) (h63 : l.length ≤ 9223372036854775807) (hn : n = l.length) : Bs w (.slice (some ⟨g, 0, none⟩) n n) l := by
  subst hn
  exact bs_mk hall rfl (Nat.le_refl _) h63 h.lt fun i hi => h.cell (by simp [hi, List.getD])
theorem Blk.bss {w : World} {g n : Nat} {us : List Value} {ll : List (List Nat)} (h : Blk w g us.toArray 24) (hn : n = ll.length) (hl : us.length = ll.length) (h63 : ll.length ≤ 9223372036854775807) (hr : ∀ i u, us[i]? = some u → Rs w u (ll.getD i [])) :
    Bss w (.slice (some ⟨g, 0, none⟩) n n) ll := by
  subst hn
  refine ⟨_, ll.length, rfl, h63, fun _ => ⟨g, 0, rfl, fun i hi => ?_⟩⟩
  have hi' : i < us.length := by omega
  exact ⟨us[i], by rw [Nat.zero_add]; exact h.cell (by simp [hi']), hr i _ (List.getElem?_eq_getElem hi')⟩
def OwnAt (w : World) (B g : Nat) (l : List Nat) (c : Nat) : Prop := B ≤ g ∧ g < w.heap.size ∧ Own w B (.slice (some ⟨g, 0, none⟩) l.length c) l
theorem OwnAt.of_raw {w : World} {B g n : Nat} {l : List Nat} (h : w.heap[g]? = some (Obj.cells (l.map bv).toArray 5 (0, 0))) (hall : AllB l) (hB : B ≤ g) (h63 : l.length ≤ 9223372036854775807) (hn : n = l.length) : OwnAt w B g l n := by
  subst hn
  exact ⟨hB, (Array.getElem?_eq_some_iff.1 h).1, hall, by simp, .inr ⟨g, l.length, (l.map bv).toArray, rfl, hB, h, Nat.le_refl _, h63, by simp, by simp [List.take_of_length_le]⟩⟩
theorem OwnAt.rs {w : World} {B g c : Nat} {l : List Nat} (h : OwnAt w B g l c) : Rs w (.slice (some ⟨g, 0, none⟩) l.length c) l := h.2.2.bs.rs

theorem OwnAt.kq {w w' : World} {B g c : Nat} {r : Option Nat} {l : List Nat} (h : OwnAt w B g l c) (k : w.grownBy w' r) (hne : r ≠ some g) : OwnAt w' B g l c :=
  ⟨h.1, Nat.lt_of_lt_of_le h.2.1 k.size, h.2.2.only k (.inr (fun e => hne e.symm))⟩

section
variable {P : Program} {ops : Array Oper} {K : Act → World → Prop} {S : World → Prop} {n : Nat} {listed : Array Bool} {a : Act} {w : World}
theorem reg_load (i : Nat) (d : Tmp) (hB : takeB ops listed a i d = true) (ty : TypeId) (x : Operand) (ho : (opn ops i).op = .load ty x) (ad : Addr) (hx : a.eval x = .pointer (some ad)) (cs : Array Value) (ds : TypeDesc)
    (hc : ∀ w, S w → ∀ j v, cs[j]? = some v → w.cell? (ad.add j) = some v) (hu : P.underlying ty = some ds) (hd : (match ds with | .struct _ | .array _ _ => true | _ => false) = true) (hz : (P.info? ty).map (·.size) = some cs.size) (hS : S w)
    (h : wpAnyH P .any ops (nq K) S n (listed.setIfInBounds i true) (a.put (some d) (.agg cs)) w) : wpAnyH P .any ops (nq K) S (n + 1) listed a w := by
  refine reg_take i d (.agg cs) hB (fun w' hw' => ?_) hS h
  unfold execOp
  simp only [ho, hx, Instr.loadAt, Instr.sureAddr, Sem.run_bind, Sem.run_pure, Result.andThen_ok, run_loadVar_arr w' ad ty cs ds (hc w' hw') hu hd hz]
end

section
variable {ops : Array Oper} {K : Act → World → Prop} {V : World} {B n : Nat} {listed : Array Bool} {a : Act} {w : World}
theorem q_lay {i : Nat} (d : Tmp) (vf : Nat → Value) (C : Array Value) (t : TypeId) (hst : stepB ops a i d = true) (h0 : Below B V w) (hB : B ≤ V.heap.size)
    (hrun : (execOp a.eval (opn ops i)).run Tryz.prog w = .ok (.value (vf w.heap.size)) (w.alloc (.cells C t)))
    (h : ∀ (w' : World) (g : Nat), B ≤ g → g = w.heap.size → w'.heap.size = w.heap.size + 1 → Kq B none w w' → w.grownBy w' none → Below B V w' → w'.heap[g]? = some (Obj.cells C t (0, 0)) → wpAnyH Tryz.prog .any ops (nq K) (fun w' => Below B V w') n (listed.setIfInBounds i true) (a.put (some d) (vf g)) w') :
    HStep Tryz.prog .any ops (nq K) (fun w' => Below B V w') n listed a w i (opn ops i) := by
  unfold stepB at hst
  simp only [Bool.and_eq_true] at hst
  have hwB : B ≤ w.heap.size := Nat.le_trans hB h0.size
  have k : Below w.heap.size w (w.alloc (.cells C t)) := (Below.refl _ _).alloc (Nat.le_refl _) _
  exact HStep.value (some d) (dst_at hst.1) hst.2 _ _ hrun (h0.trans (k.mono hwB)) (h _ _ hwB rfl (by simp) (Kq.of_below hwB k) (only_of_below k none) (h0.trans (k.mono hwB)) (heap_alloc_new _ _))
end
end Go.Proofs.YtnhchdkchohnbaaGreatDoor
/- Steps of a drawn region: a quiet call, a store of a whole array. No function of the program. -/
namespace Go.Proofs.YtnhchdkchohnbaaGreatDoor
open Go.RowKit Go.Deep

section
variable {P : Program} {ops : Array Oper} {K : Act → World → Prop} {S : World → Prop} {n : Nat} {listed : Array Bool} {a : Act} {w : World}
theorem q_quiet {i : Nat} (d : Tmp) (f : FuncId) (args : Array Value) (v : Value) (hst : stepB ops a i d = true) (hrun : (execOp a.eval (opn ops i)).run P w = .ok (.enter f args) w) (hc : Calls P f args w fun e w' => e = .returned v ∧ w = w') (hS : S w)
    (h : wpAnyH P .any ops (nq K) S n (listed.setIfInBounds i true) (a.put (some d) v) w) : HStep P .any ops (nq K) S n listed a w i (opn ops i) := by
  unfold stepB at hst
  simp only [Bool.and_eq_true] at hst
  refine HStep.call (some d) (dst_at hst.1) hst.2 f args hrun (hc.mono ?_)
  rintro e w' ⟨he, rfl⟩
  exact ⟨v, he, hS, h⟩
end
def stepN (ops : Array Oper) (a : Act) (i : Nat) : Bool := (match (opn ops i).dst with | none => true | some _ => false) && Region.wanted (opn ops i) (yielded ops a.tmps)
theorem dst_none {o : Oper} (h : (match o.dst with | none => true | some _ => false) = true) : o.dst = none := by
  cases hd : o.dst with
  | none => rfl
  | some d' => rw [hd] at h; cases h
section
variable {ops : Array Oper} {K : Act → World → Prop} {V : World} {B n : Nat} {listed : Array Bool} {a : Act} {w : World}
theorem q_row {i : Nat} (ty : TypeId) (x y : Operand) (g : Nat) (cells : Array Value) (t : TypeId) (old : Array Value) (hst : stepN ops a i = true) (ho : (opn ops i).op = .store ty x y) (hx : a.eval x = .pointer (some ⟨g, 0, none⟩)) (hy : a.eval y = .agg cells) (hg : w.heap[g]? = some (.cells old t (0, 0)))
    (hi : ((Tryz.prog).info? ty).map (·.size) = some cells.size) (hold : old.size = cells.size) (h1 : cells.all (·.oneCell') = true) (hB : B ≤ g) (h0 : Below B V w)
    (h : Below B V (w.setRow g cells) → (w.setRow g cells).heap[g]? = some (.cells cells t (0, 0)) → wpAnyH Tryz.prog .any ops (nq K) (fun w' => Below B V w') n (listed.setIfInBounds i true) a (w.setRow g cells)) : HStep Tryz.prog .any ops (nq K) (fun w' => Below B V w') n listed a w i (opn ops i) := by
  unfold stepN at hst
  simp only [Bool.and_eq_true] at hst
  have hd := dst_none hst.1
  have hS := below_setRow h0 hB cells
  refine HStep.of_law #[] hst.2 fun K' hK' => ?_
  refine wpList_store_rowTo rfl ty x y ho hd g cells hx hy t old hg hi hold h1 ?_
  exact hK' _ _ hS (h hS (setRow_heap _ _ _ _ _ _ hg))
end
attribute [irreducible] stepN
end Go.Proofs.YtnhchdkchohnbaaGreatDoor
/- A range over a function whose iterator keeps a counter of its own in a cell; regions and loads in a round. No function of the program. -/
namespace Go.Proofs.YtnhchdkchohnbaaGreatDoor
open Go.RowKit Go.Deep

/-! ### one operation, as in a function's own frame -/
section
variable {P : Program} {l n : Nat}
def plainO (o : Oper) : Bool := match o.op with | .defer _ => false | _ => true
theorem plainO_at {o : Oper} (h : plainO o = true) : ∀ c, o.op ≠ .defer c := fun c e => by
  unfold plainO at h; rw [e] at h; cases h
theorem oper_in {o : Oper} {a : Act} {w : World} {K K' : Act → World → Prop} {Q : Exit → Act → World → Prop} (hp : plainO o = true) (hK : ∀ a w, K a w → K' a w) (h : o.wp P a w K Q) :
    o.wpIn (Fence.wide.inRound l) n P a w K' Q := by
  unfold Oper.wp at h
  unfold Oper.wpIn
  refine ⟨fun _ _ => trivial, ?_⟩
  rw [Oper.semAt_plain _ _ _ (plainO_at hp)]
  generalize (execOp a.eval o).run P w = r at h ⊢
  cases r with
  | ok x w' =>
    cases x <;> simp only [Oper.upon, Oper.uponIn] at h ⊢
    case value => exact hK _ _ h
    case skip => exact hK _ _ h
    case defer => exact hK _ _ h
    case enter f args =>
      refine ⟨fun hh => by simp [Fence.wide] at hh, CallsIn.inRound l (callsIn_wide.2 (h.mono fun e w'' he => ?_))⟩
      cases e with
      | returned v => exact hK _ _ he
      | panicked c => exact he
      | outgrown => exact he
    case row row args => exact ⟨fun hh => by simp [Fence.wide] at hh, fun c cs _ => let ⟨v, w'', r, st⟩ := h c cs; ⟨v, w'', hK _ _ r, stepsIn_wide.2 st⟩⟩
  | halt x w' => cases x <;> simp only [Oper.upon, Oper.uponIn] at h ⊢ <;> exact h
theorem any_in {ops : Array Oper} {Q : Exit → Act → World → Prop} {md : Region.Mode} (hQ : ¬ LetsOut Q) (hp : ∀ o, o ∈ ops → plainO o = true) :
    ∀ (fuel : Nat) (listed : Array Bool) (a : Act) (w : World), wpAny P md ops Q fuel listed a w → wpAnyIn (Fence.wide.inRound l) n P md ops Q fuel listed a w
  | 0, _, _, _, h => h
  | fuel + 1, listed, a, w, h => ⟨h.1, fun i hi => by
      have h2 := h.2 i hi
      unfold wpOp at h2
      unfold wpOpIn
      cases ho : ops[i]? with
      | none =>
        simp only [ho] at h2 ⊢
        exact any_in hQ hp fuel _ _ _ h2
      | some o =>
        simp only [ho] at h2 ⊢
        have hm : o ∈ ops := Array.mem_of_getElem? ho
        by_cases hw : Region.wanted o (yielded ops a.tmps) = true
        · simp only [hw, if_true] at h2 ⊢
          exact oper_in (hp o hm) (any_in hQ hp fuel _) (h2.resolve_right fun h => hQ h.2)
        · simp only [hw] at h2 ⊢
          exact ⟨fun _ _ => trivial, any_in hQ hp fuel _ _ _ h2⟩⟩
theorem wp_regIn {ops0 : Array Oper} {id : Nat} {Q : Exit → Act → World → Prop} {a : Act} {w : World} (f : Func) (k m : Nat) (S : World → Prop) (hr : reg f k = ops0) (hn : (reg f k).size = m) (hm : P.follows .mixedOrders = true) (hp : (reg f k).all plainO = true) (hS : S (w.drewN 1))
    (h : ∀ K : Act → World → Prop, (∀ a w, Q .normal a w → K a w) → S (w.drewN 1) → wpAnyH P .any (reg f k) (nq K) S m (Array.replicate m false) a (w.drewN 1)) : (Code.region id ops0 true).wpIn (Fence.wide.inRound l) n P Q a w := by
  subst hr; subst hn
  refine wpIn_mono (Q := nq (Q .normal)) (wpIn_region_any hm (any_in (fun hf => by obtain ⟨_, _, hf⟩ := hf; exact hf) (fun o ho => Array.all_eq_true_iff_forall_mem.1 hp o ho) _ _ _ _ (wpAny_of_held _ _ _ _ (h _ (fun _ _ h => h) hS)))) (fun e a w h => ?_)
  cases e <;> first | exact h | exact (h : False).elim
theorem listIn_of_law {ops : Array Oper} {rest : List Oper} {o : Oper} {a : Act} {w : World} {Q : Exit → Act → World → Prop} (hgd : o.guard = none) (hp : plainO o = true)
    (h : ∀ K : Act → World → Prop, (∀ a w, wpListIn (Fence.wide.inRound l) n P ops Q rest a w → K a w) → wpList P #[] (lawQ K Q) [{ o with guard := none }] a w) : wpListIn (Fence.wide.inRound l) n P ops Q (o :: rest) a w :=
  wpListIn_plain hgd fun K hK => oper_in hp (fun _ _ h => h) (wp_of_law (h K hK))
theorem wpListIn_load_row {F : Fence} {ops : Array Oper} {rest : List Oper} {o : Oper} {a : Act} {w : World} {Q : Exit → Act → World → Prop} (hgd : o.guard = none) (ty : TypeId) (x : Operand) (ho : o.op = .load ty x)
    (g : Nat) (hx : a.eval x = .pointer (some ⟨g, 0, none⟩)) (t : TypeId) (cs : Array Value) (fr : Nat × Nat) (d : TypeDesc) (hg : w.heap[g]? = some (.cells cs t fr))
    (hu : P.underlying ty = some d) (hd : (match d with | .struct _ | .array _ _ => true | _ => false) = true) (hi : (P.info? ty).map (·.size) = some cs.size)
    (h : wpListIn F n P ops Q rest (a.put o.dst (.agg cs)) w) : wpListIn F n P ops Q (o :: rest) a w := by
  refine wpListIn_plain hgd fun K hK => ?_
  unfold Oper.wpIn
  refine ⟨?_, ?_⟩
  · simp [Oper.about, ho]
  · rw [Oper.semAt_plain F _ _ (by rw [ho]; intro c hc'; cases hc')]
    unfold execOp
    simp only [ho, hx, Instr.loadAt, Instr.sureAddr, Sem.run_bind, Sem.run_pure, Result.andThen_ok, run_loadVar_row w g t ty cs fr d hg hu hd hi]
    exact hK _ _ h
end

/-! ### the law -/
section
variable {n : Nat} {P : Program}
def Keeps2 (B : Nat) (W W' : World) : Prop := W.heap.size ≤ W'.heap.size ∧ ∀ k o, B ≤ k → W.heap[k]? = some o → o.isCells = false → W'.heap[k]? = some o
theorem Keeps2.refl (B : Nat) (W : World) : Keeps2 B W W := ⟨Nat.le_refl _, fun _ _ _ h _ => h⟩
theorem Keeps2.trans {B : Nat} {X Y Z : World} (h : Keeps2 B X Y) (k : Keeps2 B Y Z) : Keeps2 B X Z := ⟨Nat.le_trans h.1 k.1, fun i o hB hi ho => k.2 i o hB (h.2 i o hB hi ho) ho⟩
theorem Keeps2.grown {B : Nat} {W W' : World} {r : Option Nat} (h : W.grownBy W' r) (hr : ∀ g, r = some g → ∃ o : Obj, W.heap[g]? = some o ∧ o.isCells = true) : Keeps2 B W W' :=
  ⟨h.size, fun k o _ hk ho => (h.block k (Array.getElem?_eq_some_iff.1 hk).1 (fun e => by
    obtain ⟨o', h1, h2⟩ := hr k e.symm
    rw [hk] at h1; cases h1; rw [ho] at h2; cases h2)).trans hk⟩
def Book (B : Nat) (W W' : World) : Prop := ∃ r : Option Nat, W.grownBy W' r ∧ ∀ g, r = some g → B ≤ g ∧ ∃ o : Obj, W.heap[g]? = some o ∧ o.isCells = false

def SameAt (Pk : Nat → Prop) (W W' : World) : Prop := ∀ k, Pk k → W'.heap[k]? = W.heap[k]?
theorem SameAt.refl (Pk : Nat → Prop) (W : World) : SameAt Pk W W := fun _ _ => rfl
theorem SameAt.trans {Pk : Nat → Prop} {X Y Z : World} (h : SameAt Pk X Y) (k : SameAt Pk Y Z) : SameAt Pk X Z := fun i hi => (k i hi).trans (h i hi)
def roundEnd (B : Nat) (Pk : Nat → Prop) (I' Ix : World → Prop) (W : World) : Exit → Act → World → Prop
  | .normal, _, W' => Keeps2 B W W' ∧ SameAt Pk W W' ∧ I' W'
  | .ret, _, W' => Keeps2 B W W' ∧ Ix W'
  | _, _, _ => False

theorem range_ret {g : Operand} {ps : Array Tmp} {assign body : Code} {Q : Exit → Act → World → Prop} {a : Act} {w : World} {gf : Nat} {lb : Array Value} (hg : a.eval g = .func (.func gf) #[] lb) (eg : ∀ args w, (callFunc gf args).run P w = .ok (.enter gf args) w)
    (encs : Nat → Array Value) (hps : ∀ j, (encs j).size = ps.size) (T : World → World → Prop) (I : Nat → World → Prop) (Ix : World → Prop) (Pk : Nat → Prop) (hPk : ∀ k, Pk k → k < w.heap.size)
    (hiter : ∀ (l : Nat) (J : Nat → World → Prop) (Jx : World → Prop) (W : World), SameAt Pk w W → (∀ j A B, J j A → T A B → J j B) → (∀ j A, J j A → I j A) →
      (∀ j W1, J j W1 → YieldAt Fence.wide (n - 1 - 1) P l (encs j) W1 fun e W' => (e = .returned (.bool true) ∧ J (j + 1) W' ∧ SameAt Pk W1 W') ∨ (e = .returned (.bool false) ∧ Jx W')) → J 0 W →
      CallsIn Fence.wide (n - 1) P gf (#[.func (.yield l) #[] #[]] ++ lb) W fun e W' => (∃ v, e = .returned v) ∧ Jx W')
    (hT : ∀ A B, T A B → ∀ k, w.heap.size ≤ k → k < A.heap.size → B.heap[k]? = A.heap[k]?) (hIT : ∀ j A B, I j A → T A B → I j B)
    (hI : ∀ j A B, I j A → Book w.heap.size A B → I j B) (hIx : ∀ A B, Ix A → Book w.heap.size A B → Ix B) (h0 : I 0 w)
    (hround : ∀ (l j : Nat) (W : World), I j W → w.heap.size ≤ l → l < W.heap.size → ∃ Ax : Act → World → Prop,
      (∀ K : Act → World → Prop, (∀ a' W', Ax a' W' → Keeps2 w.heap.size W W' → SameAt Pk W W' → K a' W') → assign.wpIn (Fence.wide.inRound l) (n - 1 - 1) P (Exit.then K (fun _ _ _ => False)) { tmps := (ps.zip (encs j)).foldl (fun t (p, v) => t.setIfInBounds p v) a.tmps, defers := [] } W) ∧
      (∀ a' A B, Ax a' A → Book w.heap.size A B → Ax a' B) ∧
      (∀ a' W', Ax a' W' → body.wpIn (Fence.wide.inRound l) (n - 1 - 1) P (roundEnd w.heap.size Pk (I (j + 1)) Ix W') a' W'))
    (hstop : ∀ (D : Nat) (W : World), w.heap.size ≤ D → Ix W → W.heap[D]? = some (.deferred (some [])) → Code.ret.wpIn Fence.wide n P Q { a with defers := { target := .collected D, args := #[] } :: a.defers } W) :
    (Code.rangeFunc g ps assign body).wpIn Fence.wide n P Q a w := by
  refine wpIn_rangeFunc ?_
  intro fn _
  obtain ⟨rec, hrec⟩ : ∃ rec : LoopState → Option Code → Loop, rec = fun st pe => { state := st, pending := pe, fn, tmps := a.tmps, params := ps, assign, body, defers := w.heap.size } := ⟨_, rfl⟩
  obtain ⟨V, hV⟩ : ∃ V, V = (w.alloc (.deferred (some []))).alloc (.loop (rec .ready none)) := ⟨_, rfl⟩
  have vL : V.heap[w.heap.size + 1]? = some (.loop (rec .ready none)) := by
    rw [hV]; have := World.alloc_heap_new (w.alloc (.deferred (some []))) (.loop (rec .ready none)); rwa [World.size_alloc] at this
  have vD : V.heap[w.heap.size]? = some (.deferred (some [])) := by
    rw [hV]; exact (Below.heap_alloc _ _ _ (by simp)).trans (World.alloc_heap_new w _)
  have vI : I 0 V := by
    rw [hV]
    exact hI 0 _ _ (hI 0 _ _ h0 ⟨none, World.grownBy_alloc _ _ none, fun _ e => by cases e⟩) ⟨none, World.grownBy_alloc _ _ none, fun _ e => by cases e⟩
  refine ⟨w.heap.size + 1, [{ target := .collected w.heap.size, args := #[] }], V, { target := .fn (.func gf) lb, args := #[.func (.yield (w.heap.size + 1)) #[] #[]] }, V, gf, #[.func (.yield (w.heap.size + 1)) #[] #[]] ++ lb, V, ?_, ?_, fun _ _ => trivial, ?_, fun h => by simp [Fence.wide] at h, ?_⟩
  · rw [hV, hrec]; exact run_enterLoop_outer _ _ _ _ _
  · simp only [resolve, hg]; simp [go_sem]
  · simp [invoke, go_sem, eg]
  have book : ∀ (A : World) (o o' : Obj), A.heap[w.heap.size + 1]? = some o → o.isCells = false → Book w.heap.size A (A.putObj (w.heap.size + 1) o') := fun A o o' h ho => ⟨some _, grownBy_putObj' _ _ _, fun g e => by cases e; exact ⟨by omega, o, h, ho⟩⟩
  refine (hiter (w.heap.size + 1)
    (fun j W => I j W ∧ W.heap[w.heap.size + 1]? = some (.loop (rec .ready none)) ∧ W.heap[w.heap.size]? = some (.deferred (some [])))
    (fun W => Ix W ∧ W.heap[w.heap.size + 1]? = some (.loop (rec .done (some .ret))) ∧ W.heap[w.heap.size]? = some (.deferred (some [])))
    V (by rw [hV]; exact fun k hk => (Below.heap_alloc _ _ k (by have := hPk k hk; simp; omega)).trans (Below.heap_alloc w _ k (hPk k hk))) (fun j A B h t => ⟨hIT j A B h.1 t, (hT A B t _ (by omega) (Array.getElem?_eq_some_iff.1 h.2.1).1).trans h.2.1, (hT A B t _ (Nat.le_refl _) (Array.getElem?_eq_some_iff.1 h.2.2).1).trans h.2.2⟩)
    (fun j A h => h.1) ?_ ⟨vI, vL, vD⟩).mono ?_
  · rintro j W ⟨hi, hl, hk⟩
    have hlt : w.heap.size + 1 < W.heap.size := (Array.getElem?_eq_some_iff.1 hl).1
    have hy := run_yield (P := P) (args := encs j) hl (by rw [hrec]; exact hps j)
    rw [hrec] at hy
    obtain ⟨Ax, ha, hAx, hb⟩ := hround (w.heap.size + 1) j W hi (by omega) hlt
    refine ⟨fn, _, assign, body, hy, roundIn_of_wpIn trivial (ha _ fun a' W1 hx hk1 hs1 => ⟨_, run_beginRound (hk1.2 _ _ (by omega) hl rfl) (by rw [hrec]), ?_⟩)⟩
    have hl1 := hk1.2 _ _ (by omega) hl rfl
    have hd1 := hk1.2 _ _ (Nat.le_refl _) hk rfl
    have hlt1 : w.heap.size + 1 < W1.heap.size := (Array.getElem?_eq_some_iff.1 hl1).1
    have hl2 : (W1.putObj (w.heap.size + 1) (.loop { rec .ready none with state := .busy })).heap[w.heap.size + 1]? = some (.loop { rec .ready none with state := .busy }) := World.putObj_heap_same hlt1
    have hk2 : (W1.putObj (w.heap.size + 1) (.loop { rec .ready none with state := .busy })).heap[w.heap.size]? = some (.deferred (some [])) := (World.putObj_heap_other (by omega)).trans hd1
    refine wpIn_mono (hb a' _ (hAx _ _ _ hx (book W1 _ _ hl1 rfl))) ?_
    have fin : ∀ (jump : Option Code) (W3 : World), Keeps2 w.heap.size (W1.putObj (w.heap.size + 1) (.loop { rec .ready none with state := .busy })) W3 →
        (Instr.endRound (w.heap.size + 1) jump).run P W3 = .ok (.bool jump.isNone) (W3.putObj (w.heap.size + 1) (.loop (rec (if jump.isNone then .ready else .done) jump))) ∧
        W3.heap[w.heap.size + 1]? = some (.loop { rec .ready none with state := .busy }) ∧
        (W3.putObj (w.heap.size + 1) (.loop (rec (if jump.isNone then .ready else .done) jump))).heap[w.heap.size + 1]? = some (.loop (rec (if jump.isNone then .ready else .done) jump)) ∧
        (W3.putObj (w.heap.size + 1) (.loop (rec (if jump.isNone then .ready else .done) jump))).heap[w.heap.size]? = some (.deferred (some [])) := fun jump W3 k3 => by
      have hl3 := k3.2 _ _ (by omega) hl2 rfl
      have := run_endRound (P := P) jump hl3
      rw [hrec] at this ⊢
      exact ⟨this, by rw [hrec] at hl3; exact hl3, World.putObj_heap_same (Array.getElem?_eq_some_iff.1 hl3).1, (World.putObj_heap_other (by omega)).trans (k3.2 _ _ (Nat.le_refl _) hk2 rfl)⟩
    rintro e a3 W3 hp
    cases e with
    | normal =>
      obtain ⟨k3, hs3, hi3⟩ := hp
      obtain ⟨hr, hl3, hl4, hk4⟩ := fin none W3 k3
      have far : ∀ (A : World) (o : Obj), SameAt Pk A (A.putObj (w.heap.size + 1) o) := fun A o k hk => World.putObj_heap_other (by have := hPk k hk; omega)
      exact ⟨_, _, hr, .inl ⟨rfl, ⟨hI _ _ _ hi3 (book W3 _ _ hl3 rfl), hl4, hk4⟩, ((hs1.trans (far W1 _)).trans hs3).trans (far W3 _)⟩⟩
    | ret =>
      obtain ⟨k3, hi3⟩ := hp
      obtain ⟨hr, hl3, hl4, hk4⟩ := fin (some .ret) W3 k3
      exact ⟨_, _, hr, .inr ⟨rfl, hIx _ _ hi3 (book W3 _ _ hl3 rfl), hl4, hk4⟩⟩
    | exit id => exact (hp : False).elim
    | goto t => exact (hp : False).elim
    | panic ch => exact (hp : False).elim
    | outgrown => exact (hp : False).elim
  · rintro e W2 ⟨⟨v, rfl⟩, hi, hl, hk⟩
    refine ⟨some .ret, _, by have := run_endLoop (P := P) hl (by rw [hrec]; simp); rw [hrec] at this; exact this, ?_⟩
    exact hstop _ _ (Nat.le_refl _) (hIx _ _ hi (book W2 _ _ hl rfl)) ((World.putObj_heap_other (by omega)).trans hk)
end
end Go.Proofs.YtnhchdkchohnbaaGreatDoor
