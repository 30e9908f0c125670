/- A region that draws its order, under a name: its operations are taken out of the program's text by a function, so that goals stay small. No function of the program. -/
import Derived.Test.YthfbcpbjnfdnkaaHeldB
import Derived.Test.YthfbcpbjnfdnkaaLits
namespace Go.Proofs.Ythfbcpbjnfdnkaa
open Go.RowKit Go.Deep

/-- The operations of region n. -/
def regionIn : Code → Nat → Option (Array Oper)
  | .region id ops _, n => if Nat.beq id n then some ops else none
  | .seq a b, n => match regionIn a n with | some x => some x | none => regionIn b n
  | .cond _ a b, n => match regionIn a n with | some x => some x | none => regionIn b n
  | .block _ b, n => regionIn b n
  | .loop b, n => regionIn b n
  | .rangeFunc _ _ a b, n => match regionIn a n with | some x => some x | none => regionIn b n
  | .scope b, n => regionIn b n
  | _, _ => none
def reg (f : Func) (n : Nat) : Array Oper := match f.body with
  | some c => (match regionIn c n with | some x => x | none => #[])
  | none => #[]
def opn (ops : Array Oper) (i : Nat) : Oper := ops.getD i default
/-- What is asked behind a region that doesn't panic. -/
def nq (K : Act → World → Prop) : Exit → Act → World → Prop
  | .normal, a, w => K a w
  | _, _, _ => False

section
variable {P : Program} {ops : Array Oper} {K : Act → World → Prop} {S : World → Prop} {n : Nat} {listed : Array Bool} {a : Act} {w : World}
theorem wp_reg {ops0 : Array Oper} {id : Nat} {Q : Exit → Act → World → Prop} (f : Func) (k n : Nat) (S : World → Prop) (hr : reg f k = ops0) (hn : (reg f k).size = n) (hm : P.follows .mixedOrders = true) (hS : S (w.drewN 1))
    (h : ∀ K : Act → World → Prop, (∀ a w, Q .normal a w → K a w) → S (w.drewN 1) → wpAnyH P .any (reg f k) (nq K) S n (Array.replicate n false) a (w.drewN 1)) : (Code.region id ops0 true).wp P Q a w := by
  subst hr; subst hn
  refine Code.wp_mono (Q := nq (Q .normal)) (fun e a w h => ?_) (wp_region_held_drew (S := S) hm hS (h _ (fun _ _ h => h)))
  cases e <;> first | exact h | exact (h : False).elim

def takeB (ops : Array Oper) (listed : Array Bool) (a : Act) (i : Nat) (d : Tmp) : Bool :=
  (Nat.blt i ops.size) && Region.noSelect ops && Region.free .any ops listed i && (Region.ready .any ops listed).contains i && (match (opn ops i).dst with | some d' => Nat.beq d' d | none => false) && Region.wanted (opn ops i) (yielded ops a.tmps)
theorem opn_at {i : Nat} (h : Nat.blt i ops.size = true) : ops[i]? = some (opn ops i) := by
  have h' : i < ops.size := Nat.le_of_ble_eq_true h
  simp [opn, h']
theorem dst_at {o : Oper} {d : Tmp} (h : (match o.dst with | some d' => Nat.beq d' d | none => false) = true) : o.dst = some d := by
  cases hd : o.dst with
  | none => rw [hd] at h; cases h
  | some d' => rw [hd] at h; rw [Nat.eq_of_beq_eq_true h]
/-- What yields in every world that meets S is taken first. -/
theorem reg_take (i : Nat) (d : Tmp) (v : Value) (hB : takeB ops listed a i d = true) (hrun : ∀ w, S w → (execOp a.eval (opn ops i)).run P w = .ok (.value v) w) (hS : S w)
    (h : wpAnyH P .any ops (nq K) S n (listed.setIfInBounds i true) (a.put (some d) v) w) : wpAnyH P .any ops (nq K) S (n + 1) listed a w := by
  unfold takeB at hB
  simp only [Bool.and_eq_true] at hB
  obtain ⟨⟨⟨⟨⟨h1, h2⟩, h3⟩, h4⟩, h5⟩, h6⟩ := hB
  exact held_take i (some d) (opn_at h1) (dst_at h5) h2 h3 h4 (fun _ _ _ _ h => h) h6 v hrun hS h
def offB (ops : Array Oper) (listed : Array Bool) (a : Act) (i : Nat) (d : Tmp) : Bool :=
  (Nat.blt i ops.size) && Region.noSelect ops && Region.free .any ops listed i && (Region.ready .any ops listed).contains i && (match (opn ops i).dst with | some d' => Nat.beq d' d | none => false) && !Region.wanted (opn ops i) (yielded ops a.tmps)
/-- What its guard leaves out is taken first. -/
theorem reg_off (i : Nat) (d : Tmp) (hB : offB ops listed a i d = true) (hS : S w)
    (h : wpAnyH P .any ops (nq K) S n (listed.setIfInBounds i true) (a.put (some d) undef) w) : wpAnyH P .any ops (nq K) S (n + 1) listed a w := by
  unfold offB at hB
  simp only [Bool.and_eq_true] at hB
  obtain ⟨⟨⟨⟨⟨h1, h2⟩, h3⟩, h4⟩, h5⟩, h6⟩ := hB
  rw [← dst_at h5] at h
  exact wpAnyH_take (opn_at h1) h2 h3 h4 (fun _ _ _ h => h) (.inr ⟨by simpa using h6, rfl⟩) hS h

def oneB (ops : Array Oper) (listed : Array Bool) (a : Act) (i : Nat) (d : Tmp) : Bool :=
  (Nat.blt i ops.size) && (match Region.ready .any ops listed with | [j] => Nat.beq j i | _ => false) && (match (opn ops i).dst with | some d' => Nat.beq d' d | none => false) && Region.wanted (opn ops i) (yielded ops a.tmps)
theorem ready_at {l : List Nat} {i : Nat} (h : (match l with | [j] => Nat.beq j i | _ => false) = true) : l = [i] := by
  match l with
  | [] => cases h
  | [j] => rw [Nat.eq_of_beq_eq_true h]
  | _ :: _ :: _ => cases h
/-- A call that alone may come up, by its contract. -/
theorem reg_call (i : Nat) (d : Tmp) (f : FuncId) (args : Array Value) (hB : oneB ops listed a i d = true) (hrun : (execOp a.eval (opn ops i)).run P w = .ok (.enter f args) w)
    (h : Calls P f args w fun e w' => ∃ v, e = .returned v ∧ S w' ∧ wpAnyH P .any ops (nq K) S n (listed.setIfInBounds i true) (a.put (some d) v) w') : wpAnyH P .any ops (nq K) S (n + 1) listed a w := by
  unfold oneB at hB
  simp only [Bool.and_eq_true] at hB
  obtain ⟨⟨⟨h1, h2⟩, h3⟩, h4⟩ := hB
  exact held_call i (some d) (ready_at h2) (opn_at h1) (dst_at h3) h4 f args hrun h
/-- An operation of which a step is known alone may come up. -/
theorem reg_one (i : Nat) (hr : Region.ready .any ops listed = [i]) (h1 : Nat.blt i ops.size = true) (h : HStep P .any ops (nq K) S n listed a w i (opn ops i)) : wpAnyH P .any ops (nq K) S (n + 1) listed a w :=
  held_one i hr (opn_at h1) h
theorem reg_two (i j : Nat) (hr : Region.ready .any ops listed = [i, j]) (h1 : (Nat.blt i ops.size && Nat.blt j ops.size) = true) (hi : HStep P .any ops (nq K) S n listed a w i (opn ops i)) (hj : HStep P .any ops (nq K) S n listed a w j (opn ops j)) : wpAnyH P .any ops (nq K) S (n + 1) listed a w := by
  simp only [Bool.and_eq_true] at h1
  exact held_two i j hr (opn_at h1.1) (opn_at h1.2) hi hj
theorem reg_three (i j k : Nat) (hr : Region.ready .any ops listed = [i, j, k]) (h1 : (Nat.blt i ops.size && Nat.blt j ops.size && Nat.blt k ops.size) = true) (hi : HStep P .any ops (nq K) S n listed a w i (opn ops i)) (hj : HStep P .any ops (nq K) S n listed a w j (opn ops j)) (hk : HStep P .any ops (nq K) S n listed a w k (opn ops k)) : wpAnyH P .any ops (nq K) S (n + 1) listed a w := by
  simp only [Bool.and_eq_true] at h1
  exact held_three i j k hr (opn_at h1.1.1) (opn_at h1.1.2) (opn_at h1.2) hi hj hk
theorem reg_done (hr : Region.ready .any ops listed = []) (h : K a w) : wpAnyH P .any ops (nq K) S n listed a w := wpAnyH_done hr h n
/-- A state of the region is settled once for all ways that lead there. -/
theorem reg_cut {α : Type} {n0 : Nat} {listed0 : Array Bool} (n : Nat) (listed : Array Bool) (g : Act → α → Act) (C : α → World → Prop) (hcut : ∀ x w, C x w → wpAnyH P .any ops (nq K) S n listed (g a x) w)
    (h : (∀ x w, C x w → wpAnyH P .any ops (nq K) S n listed (g a x) w) → wpAnyH P .any ops (nq K) S n0 listed0 a w) : wpAnyH P .any ops (nq K) S n0 listed0 a w := h hcut
theorem reg_cast {listed' : Array Bool} {a' : Act} (hl : listed = listed') (ha : a = a') (h : wpAnyH P .any ops (nq K) S n listed' a' w) : wpAnyH P .any ops (nq K) S n listed a w := by
  subst hl; subst ha; exact h
end
attribute [irreducible] takeB offB oneB reg

/-! ### frames that only lay blocks and marks -/
/-- Blocks may have been laid or marked, at or above B. -/
def Kp (B : Nat) (w w' : World) : Prop :=
  Below B w w' ∧ (∀ p v, w.cell? p = some v → w'.cell? p = some v) ∧ ∀ (k : Nat) (c : Array Value) (t : TypeId) (fr : Nat × Nat), w.heap[k]? = some (Obj.cells c t fr) → ∃ fr' : Nat × Nat, w'.heap[k]? = some (Obj.cells c t fr')
theorem Kp.of_below {B : Nat} {w w' : World} (hB : B ≤ w.heap.size) (h : Below w.heap.size w w') : Kp B w w' :=
  ⟨h.mono hB, fun p v hp => (h.cell (World.block_lt_of_cell? w _ hp)).trans hp, fun k _ _ fr hk => ⟨fr, (h.block k (Array.getElem?_eq_some_iff.1 hk).1).trans hk⟩⟩
theorem Kp.of_marked {B : Nat} {w w' : World} (h : Marked B w w') : Kp B w w' := ⟨h.1, fun p v hp => (h.2.1 p).trans hp, h.2.2⟩
theorem Kp.trans {B : Nat} {u v w : World} (h : Kp B u v) (k : Kp B v w) : Kp B u w :=
  ⟨h.1.trans k.1, fun p x hp => k.2.1 p x (h.2.1 p x hp), fun i c t fr hi => by obtain ⟨fr', h'⟩ := h.2.2 i c t fr hi; exact k.2.2 i c t fr' h'⟩
theorem Rs.kp {B : Nat} {w w' : World} {v : Value} {l : List Nat} (h : Rs w v l) (k : Kp B w w') : Rs w' v l :=
  ⟨h.1, h.2.1, h.2.2.elim .inl fun ⟨x, cap, e, hc, hx⟩ => .inr ⟨x, cap, e, hc, fun i hi => k.2.1 _ _ (hx i hi)⟩⟩
theorem Lit.kp {B B' : Nat} {w w' : World} {v : Value} {l : List Nat} (h : Lit B w v l) (k : Kp B' w w') : Lit B w' v l := by
  obtain ⟨h1, h2, g, fr, hB, rfl, hg⟩ := h
  obtain ⟨fr', e⟩ := k.2.2 g _ _ _ hg
  exact ⟨h1, h2, g, fr', hB, rfl, e⟩
theorem Bss.kp {B : Nat} {w w' : World} {v : Value} {ll : List (List Nat)} (h : Bss w v ll) (k : Kp B w w') : Bss w' v ll := by
  obtain ⟨a, cap, rfl, hl, h⟩ := h
  refine ⟨_, cap, rfl, hl, fun hne => ?_⟩
  obtain ⟨b, off, rfl, hc⟩ := h hne
  refine ⟨b, off, rfl, fun i hi => ?_⟩
  obtain ⟨u, hu, hb⟩ := hc i hi
  exact ⟨u, k.2.1 _ _ hu, hb.kp k⟩

section
variable {ops : Array Oper} {K : Act → World → Prop} {V : World} {B n : Nat} {listed : Array Bool} {a : Act} {w : World}
def stepB (ops : Array Oper) (a : Act) (i : Nat) (d : Tmp) : Bool :=
  (match (opn ops i).dst with | some d' => Nat.beq d' d | none => false) && Region.wanted (opn ops i) (yielded ops a.tmps)
/-- A literal of bytes is laid. -/
theorem k_lit {i : Nat} (d : Tmp) (l : List Nat) (m : Nat) (hst : stepB ops a i d = true) (hall : (l.all fun x => decide (x < 256)) = true) (hm : Nat.beq m l.length = true) (h63 : Nat.ble m 9223372036854775807 = true) (h0 : Below B V w) (hB : B ≤ V.heap.size)
    (hrun : (execOp a.eval (opn ops i)).run Try.prog w = .ok (.value (.slice (some ⟨w.heap.size, 0, none⟩) m m)) (w.alloc (.cells (l.map bv).toArray 5)))
    (h : ∀ (w' : World) (g : Nat), Kp B w w' → Below B V w' → Lit B w' (.slice (some ⟨g, 0, none⟩) m m) l → wpAnyH Try.prog .any ops (nq K) (fun w' => Below B V w') n (listed.setIfInBounds i true) (a.put (some d) (.slice (some ⟨g, 0, none⟩) m m)) w') :
    HStep Try.prog .any ops (nq K) (fun w' => Below B V w') n listed a w i (opn ops i) := by
  unfold stepB at hst
  simp only [Bool.and_eq_true] at hst
  have hm := Nat.eq_of_beq_eq_true hm
  have hwB : B ≤ w.heap.size := Nat.le_trans hB h0.size
  exact HStep.lit (some d) (dst_at hst.1) hst.2 B m l (fun x hx => by simpa using (List.all_eq_true.1 hall) x hx) (by have := Nat.le_of_ble_eq_true h63; omega) hm hwB hrun (fun w' k => h0.trans (k.mono hwB))
    (fun w' g k hl => h w' g (Kp.of_below hwB k) (h0.trans (k.mono hwB)) hl)
/-- A literal of bytes is marked. -/
theorem k_mark {i : Nat} (d : Tmp) (x : Operand) (v : Value) (l : List Nat) (hst : stepB ops a i d = true) (ho : (opn ops i).op = .convert 23 23 x) (hx : a.eval x = v) (hv : Lit B w v l) (h0 : Below B V w)
    (h : ∀ w', Kp B w w' → Below B V w' → Rs w' v l → wpAnyH Try.prog .any ops (nq K) (fun w' => Below B V w') n (listed.setIfInBounds i true) (a.put (some d) v) w') : HStep Try.prog .any ops (nq K) (fun w' => Below B V w') n listed a w i (opn ops i) := by
  unfold stepB at hst
  simp only [Bool.and_eq_true] at hst
  exact HStep.mark (some d) (dst_at hst.1) hst.2 B x v l ho hx hv (fun w' k => h0.trans k.1) (fun w' k hr => h w' (Kp.of_marked k) (h0.trans k.1) hr)
theorem k_lists1 {i : Nat} (d : Tmp) (x : Operand) (u : Value) (l : List Nat) (hst : stepB ops a i d = true) (ho : (opn ops i).op = .buildSlice 35 1 #[(0, x)]) (hx : a.eval x = u) (hu : Rs w u l) (h0 : Below B V w) (hB : B ≤ V.heap.size)
    (h : ∀ (w' : World) (v : Value), Kp B w w' → Below B V w' → Bss w' v [l] → wpAnyH Try.prog .any ops (nq K) (fun w' => Below B V w') n (listed.setIfInBounds i true) (a.put (some d) v) w') : HStep Try.prog .any ops (nq K) (fun w' => Below B V w') n listed a w i (opn ops i) := by
  unfold stepB at hst
  simp only [Bool.and_eq_true] at hst
  have hwB : B ≤ w.heap.size := Nat.le_trans hB h0.size
  exact HStep.lists1 (some d) (dst_at hst.1) hst.2 x u l ho hx hu (fun w' k => h0.trans (k.mono hwB)) (fun w' v k hb => h w' v (Kp.of_below hwB k) (h0.trans (k.mono hwB)) hb)
end
attribute [irreducible] stepB
end Go.Proofs.Ythfbcpbjnfdnkaa
