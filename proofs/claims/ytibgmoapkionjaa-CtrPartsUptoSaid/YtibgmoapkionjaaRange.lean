/- A range over a function whose iterator keeps a counter of its own in a cell; regions and loads in a round. No function of the program. -/
import Derived.RangeFuncNested
import Derived.RangeFuncBound
import Derived.RangeFuncCalls
import Derived.RangeFuncLeaves
import Derived.OwnWalkIn
import Derived.TacticsInMore
import Derived.LoopNIn
import Derived.LoopIn
import Derived.Test.YtibgmoapkionjaaRegB
namespace Go.Proofs.Ytibgmoapkionjaa
open Go.RowKit Go.Deep

/-! ### one operation, as in a function's own frame -/
section
variable {P : Program} {l n : Nat}
def plainO (o : Oper) : Bool := match o.op with | .defer _ => false | _ => true
theorem plainO_at {o : Oper} (h : plainO o = true) : ∀ c, o.op ≠ .defer c := fun c e => by
  unfold plainO at h; rw [e] at h; cases h
theorem oper_in {o : Oper} {a : Act} {w : World} {K K' : Act → World → Prop} {Q : Exit → Act → World → Prop} (hp : plainO o = true) (hK : ∀ a w, K a w → K' a w) (h : o.wp P a w K Q) :
    o.wpIn (Fence.wide.inRound l) n P a w K' Q := by
  unfold Oper.wp at h
  unfold Oper.wpIn
  refine ⟨fun _ _ => trivial, ?_⟩
  rw [Oper.semAt_plain _ _ _ (plainO_at hp)]
  generalize (execOp a.eval o).run P w = r at h ⊢
  cases r with
  | ok x w' =>
    cases x <;> simp only [Oper.upon, Oper.uponIn] at h ⊢
    case value => exact hK _ _ h
    case skip => exact hK _ _ h
    case defer => exact hK _ _ h
    case enter f args =>
      refine ⟨fun hh => by simp [Fence.wide] at hh, CallsIn.inRound l (callsIn_wide.2 (h.mono fun e w'' he => ?_))⟩
      cases e with
      | returned v => exact hK _ _ he
      | panicked c => exact he
      | outgrown => exact he
    case row row args => exact ⟨fun hh => by simp [Fence.wide] at hh, fun c cs _ => let ⟨v, w'', r, st⟩ := h c cs; ⟨v, w'', hK _ _ r, stepsIn_wide.2 st⟩⟩
  | halt x w' => cases x <;> simp only [Oper.upon, Oper.uponIn] at h ⊢ <;> exact h
theorem any_in {ops : Array Oper} {Q : Exit → Act → World → Prop} {md : Region.Mode} (hQ : ¬ LetsOut Q) (hp : ∀ o, o ∈ ops → plainO o = true) :
    ∀ (fuel : Nat) (listed : Array Bool) (a : Act) (w : World), wpAny P md ops Q fuel listed a w → wpAnyIn (Fence.wide.inRound l) n P md ops Q fuel listed a w
  | 0, _, _, _, h => h
  | fuel + 1, listed, a, w, h => ⟨h.1, fun i hi => by
      have h2 := h.2 i hi
      unfold wpOp at h2
      unfold wpOpIn
      cases ho : ops[i]? with
      | none =>
        simp only [ho] at h2 ⊢
        exact any_in hQ hp fuel _ _ _ h2
      | some o =>
        simp only [ho] at h2 ⊢
        have hm : o ∈ ops := Array.mem_of_getElem? ho
        by_cases hw : Region.wanted o (yielded ops a.tmps) = true
        · simp only [hw, if_true] at h2 ⊢
          exact oper_in (hp o hm) (any_in hQ hp fuel _) (h2.resolve_right fun h => hQ h.2)
        · simp only [hw] at h2 ⊢
          exact ⟨fun _ _ => trivial, any_in hQ hp fuel _ _ _ h2⟩⟩
/-- A drawn region in a round, by the steps of a region under a name. -/
theorem wp_regIn {ops0 : Array Oper} {id : Nat} {Q : Exit → Act → World → Prop} {a : Act} {w : World} (f : Func) (k m : Nat) (S : World → Prop) (hr : reg f k = ops0) (hn : (reg f k).size = m) (hm : P.follows .mixedOrders = true) (hp : (reg f k).all plainO = true) (hS : S (w.drewN 1))
    (h : ∀ K : Act → World → Prop, (∀ a w, Q .normal a w → K a w) → S (w.drewN 1) → wpAnyH P .any (reg f k) (nq K) S m (Array.replicate m false) a (w.drewN 1)) : (Code.region id ops0 true).wpIn (Fence.wide.inRound l) n P Q a w := by
  subst hr; subst hn
  refine wpIn_mono (Q := nq (Q .normal)) (wpIn_region_any hm (any_in (fun hf => by obtain ⟨_, _, hf⟩ := hf; exact hf) (fun o ho => Array.all_eq_true_iff_forall_mem.1 hp o ho) _ _ _ _ (wpAny_of_held _ _ _ _ (h _ (fun _ _ h => h) hS)))) (fun e a w h => ?_)
  cases e <;> first | exact h | exact (h : False).elim
/-- A law of the walk, carried out in a round. -/
theorem listIn_of_law {ops : Array Oper} {rest : List Oper} {o : Oper} {a : Act} {w : World} {Q : Exit → Act → World → Prop} (hgd : o.guard = none) (hp : plainO o = true)
    (h : ∀ K : Act → World → Prop, (∀ a w, wpListIn (Fence.wide.inRound l) n P ops Q rest a w → K a w) → wpList P #[] (lawQ K Q) [{ o with guard := none }] a w) : wpListIn (Fence.wide.inRound l) n P ops Q (o :: rest) a w :=
  wpListIn_plain hgd fun K hK => oper_in hp (fun _ _ h => h) (wp_of_law (h K hK))
theorem wpListIn_load_row {F : Fence} {ops : Array Oper} {rest : List Oper} {o : Oper} {a : Act} {w : World} {Q : Exit → Act → World → Prop} (hgd : o.guard = none) (ty : TypeId) (x : Operand) (ho : o.op = .load ty x)
    (g : Nat) (hx : a.eval x = .pointer (some ⟨g, 0, none⟩)) (t : TypeId) (cs : Array Value) (fr : Nat × Nat) (d : TypeDesc) (hg : w.heap[g]? = some (.cells cs t fr))
    (hu : P.underlying ty = some d) (hd : (match d with | .struct _ | .array _ _ => true | _ => false) = true) (hi : (P.info? ty).map (·.size) = some cs.size)
    (h : wpListIn F n P ops Q rest (a.put o.dst (.agg cs)) w) : wpListIn F n P ops Q (o :: rest) a w := by
  refine wpListIn_plain hgd fun K hK => ?_
  unfold Oper.wpIn
  refine ⟨?_, ?_⟩
  · simp [Oper.about, ho]
  · rw [Oper.semAt_plain F _ _ (by rw [ho]; intro c hc'; cases hc')]
    unfold execOp
    simp only [ho, hx, Instr.loadAt, Instr.sureAddr, Sem.run_bind, Sem.run_pure, Result.andThen_ok, run_loadVar_row w g t ty cs fr d hg hu hd hi]
    exact hK _ _ h
end

/-! ### the law -/
section
variable {n : Nat} {P : Program}
/-- What a round leaves of what lies from block B on and holds no cells. -/
def Keeps2 (B : Nat) (W W' : World) : Prop := W.heap.size ≤ W'.heap.size ∧ ∀ k o, B ≤ k → W.heap[k]? = some o → o.isCells = false → W'.heap[k]? = some o
theorem Keeps2.refl (B : Nat) (W : World) : Keeps2 B W W := ⟨Nat.le_refl _, fun _ _ _ h _ => h⟩
theorem Keeps2.trans {B : Nat} {X Y Z : World} (h : Keeps2 B X Y) (k : Keeps2 B Y Z) : Keeps2 B X Z := ⟨Nat.le_trans h.1 k.1, fun i o hB hi ho => k.2 i o hB (h.2 i o hB hi ho) ho⟩
theorem Keeps2.grown {B : Nat} {W W' : World} {r : Option Nat} (h : W.grownBy W' r) (hr : ∀ g, r = some g → ∃ o : Obj, W.heap[g]? = some o ∧ o.isCells = true) : Keeps2 B W W' :=
  ⟨h.size, fun k o _ hk ho => (h.block k (Array.getElem?_eq_some_iff.1 hk).1 (fun e => by
    obtain ⟨o', h1, h2⟩ := hr k e.symm
    rw [hk] at h1; cases h1; rw [ho] at h2; cases h2)).trans hk⟩
/-- Nothing but blocks that hold no cells and lie from B on has turned. -/
def Book (B : Nat) (W W' : World) : Prop := ∃ r : Option Nat, W.grownBy W' r ∧ ∀ g, r = some g → B ≤ g ∧ ∃ o : Obj, W.heap[g]? = some o ∧ o.isCells = false

/-- The blocks Pk lie as they lay. -/
def SameAt (Pk : Nat → Prop) (W W' : World) : Prop := ∀ k, Pk k → W'.heap[k]? = W.heap[k]?
theorem SameAt.refl (Pk : Nat → Prop) (W : World) : SameAt Pk W W := fun _ _ => rfl
theorem SameAt.trans {Pk : Nat → Prop} {X Y Z : World} (h : SameAt Pk X Y) (k : SameAt Pk Y Z) : SameAt Pk X Z := fun i hi => (k i hi).trans (h i hi)
/-- How a round may be left: it goes on, or the function returns. -/
def roundEnd (B : Nat) (Pk : Nat → Prop) (I' Ix : World → Prop) (W : World) : Exit → Act → World → Prop
  | .normal, _, W' => Keeps2 B W W' ∧ SameAt Pk W W' ∧ I' W'
  | .ret, _, W' => Keeps2 B W W' ∧ Ix W'
  | _, _, _ => False

/-- A range over a function that never ends by itself; the state between two rounds is I j. The iterator's own steps are T. -/
theorem range_ret {g : Operand} {ps : Array Tmp} {assign body : Code} {Q : Exit → Act → World → Prop} {a : Act} {w : World} {gf : Nat} {lb : Array Value} (hg : a.eval g = .func (.func gf) #[] lb) (eg : ∀ args w, (callFunc gf args).run P w = .ok (.enter gf args) w)
    (encs : Nat → Array Value) (hps : ∀ j, (encs j).size = ps.size) (T : World → World → Prop) (I : Nat → World → Prop) (Ix : World → Prop) (Pk : Nat → Prop) (hPk : ∀ k, Pk k → k < w.heap.size)
    (hiter : ∀ (l : Nat) (J : Nat → World → Prop) (Jx : World → Prop) (W : World), SameAt Pk w W → (∀ j A B, J j A → T A B → J j B) → (∀ j A, J j A → I j A) →
      (∀ j W1, J j W1 → YieldAt Fence.wide (n - 1 - 1) P l (encs j) W1 fun e W' => (e = .returned (.bool true) ∧ J (j + 1) W' ∧ SameAt Pk W1 W') ∨ (e = .returned (.bool false) ∧ Jx W')) → J 0 W →
      CallsIn Fence.wide (n - 1) P gf (#[.func (.yield l) #[] #[]] ++ lb) W fun e W' => (∃ v, e = .returned v) ∧ Jx W')
    (hT : ∀ A B, T A B → ∀ k, w.heap.size ≤ k → k < A.heap.size → B.heap[k]? = A.heap[k]?) (hIT : ∀ j A B, I j A → T A B → I j B)
    (hI : ∀ j A B, I j A → Book w.heap.size A B → I j B) (hIx : ∀ A B, Ix A → Book w.heap.size A B → Ix B) (h0 : I 0 w)
    (hround : ∀ (l j : Nat) (W : World), I j W → w.heap.size ≤ l → l < W.heap.size → ∃ Ax : Act → World → Prop,
      (∀ K : Act → World → Prop, (∀ a' W', Ax a' W' → Keeps2 w.heap.size W W' → SameAt Pk W W' → K a' W') → assign.wpIn (Fence.wide.inRound l) (n - 1 - 1) P (Exit.then K (fun _ _ _ => False)) { tmps := (ps.zip (encs j)).foldl (fun t (p, v) => t.setIfInBounds p v) a.tmps, defers := [] } W) ∧
      (∀ a' A B, Ax a' A → Book w.heap.size A B → Ax a' B) ∧
      (∀ a' W', Ax a' W' → body.wpIn (Fence.wide.inRound l) (n - 1 - 1) P (roundEnd w.heap.size Pk (I (j + 1)) Ix W') a' W'))
    (hstop : ∀ (D : Nat) (W : World), w.heap.size ≤ D → Ix W → W.heap[D]? = some (.deferred (some [])) → Code.ret.wpIn Fence.wide n P Q { a with defers := { target := .collected D, args := #[] } :: a.defers } W) :
    (Code.rangeFunc g ps assign body).wpIn Fence.wide n P Q a w := by
  refine wpIn_rangeFunc ?_
  intro fn _
  obtain ⟨rec, hrec⟩ : ∃ rec : LoopState → Option Code → Loop, rec = fun st pe => { state := st, pending := pe, fn, tmps := a.tmps, params := ps, assign, body, defers := w.heap.size } := ⟨_, rfl⟩
  obtain ⟨V, hV⟩ : ∃ V, V = (w.alloc (.deferred (some []))).alloc (.loop (rec .ready none)) := ⟨_, rfl⟩
  have vL : V.heap[w.heap.size + 1]? = some (.loop (rec .ready none)) := by
    rw [hV]; have := World.alloc_heap_new (w.alloc (.deferred (some []))) (.loop (rec .ready none)); rwa [World.size_alloc] at this
  have vD : V.heap[w.heap.size]? = some (.deferred (some [])) := by
    rw [hV]; exact (Below.heap_alloc _ _ _ (by simp)).trans (World.alloc_heap_new w _)
  have vI : I 0 V := by
    rw [hV]
    exact hI 0 _ _ (hI 0 _ _ h0 ⟨none, World.grownBy_alloc _ _ none, fun _ e => by cases e⟩) ⟨none, World.grownBy_alloc _ _ none, fun _ e => by cases e⟩
  refine ⟨w.heap.size + 1, [{ target := .collected w.heap.size, args := #[] }], V, { target := .fn (.func gf) lb, args := #[.func (.yield (w.heap.size + 1)) #[] #[]] }, V, gf, #[.func (.yield (w.heap.size + 1)) #[] #[]] ++ lb, V, ?_, ?_, fun _ _ => trivial, ?_, fun h => by simp [Fence.wide] at h, ?_⟩
  · rw [hV, hrec]; exact run_enterLoop_outer _ _ _ _ _
  · simp only [resolve, hg]; simp [go_sem]
  · simp [invoke, go_sem, eg]
  have book : ∀ (A : World) (o o' : Obj), A.heap[w.heap.size + 1]? = some o → o.isCells = false → Book w.heap.size A (A.putObj (w.heap.size + 1) o') := fun A o o' h ho => ⟨some _, grownBy_putObj' _ _ _, fun g e => by cases e; exact ⟨by omega, o, h, ho⟩⟩
  refine (hiter (w.heap.size + 1)
    (fun j W => I j W ∧ W.heap[w.heap.size + 1]? = some (.loop (rec .ready none)) ∧ W.heap[w.heap.size]? = some (.deferred (some [])))
    (fun W => Ix W ∧ W.heap[w.heap.size + 1]? = some (.loop (rec .done (some .ret))) ∧ W.heap[w.heap.size]? = some (.deferred (some [])))
    V (by rw [hV]; exact fun k hk => (Below.heap_alloc _ _ k (by have := hPk k hk; simp; omega)).trans (Below.heap_alloc w _ k (hPk k hk))) (fun j A B h t => ⟨hIT j A B h.1 t, (hT A B t _ (by omega) (Array.getElem?_eq_some_iff.1 h.2.1).1).trans h.2.1, (hT A B t _ (Nat.le_refl _) (Array.getElem?_eq_some_iff.1 h.2.2).1).trans h.2.2⟩)
    (fun j A h => h.1) ?_ ⟨vI, vL, vD⟩).mono ?_
  · rintro j W ⟨hi, hl, hk⟩
    have hlt : w.heap.size + 1 < W.heap.size := (Array.getElem?_eq_some_iff.1 hl).1
    have hy := run_yield (P := P) (args := encs j) hl (by rw [hrec]; exact hps j)
    rw [hrec] at hy
    obtain ⟨Ax, ha, hAx, hb⟩ := hround (w.heap.size + 1) j W hi (by omega) hlt
    refine ⟨fn, _, assign, body, hy, roundIn_of_wpIn trivial (ha _ fun a' W1 hx hk1 hs1 => ⟨_, run_beginRound (hk1.2 _ _ (by omega) hl rfl) (by rw [hrec]), ?_⟩)⟩
    have hl1 := hk1.2 _ _ (by omega) hl rfl
    have hd1 := hk1.2 _ _ (Nat.le_refl _) hk rfl
    have hlt1 : w.heap.size + 1 < W1.heap.size := (Array.getElem?_eq_some_iff.1 hl1).1
    have hl2 : (W1.putObj (w.heap.size + 1) (.loop { rec .ready none with state := .busy })).heap[w.heap.size + 1]? = some (.loop { rec .ready none with state := .busy }) := World.putObj_heap_same hlt1
    have hk2 : (W1.putObj (w.heap.size + 1) (.loop { rec .ready none with state := .busy })).heap[w.heap.size]? = some (.deferred (some [])) := (World.putObj_heap_other (by omega)).trans hd1
    refine wpIn_mono (hb a' _ (hAx _ _ _ hx (book W1 _ _ hl1 rfl))) ?_
    have fin : ∀ (jump : Option Code) (W3 : World), Keeps2 w.heap.size (W1.putObj (w.heap.size + 1) (.loop { rec .ready none with state := .busy })) W3 →
        (Instr.endRound (w.heap.size + 1) jump).run P W3 = .ok (.bool jump.isNone) (W3.putObj (w.heap.size + 1) (.loop (rec (if jump.isNone then .ready else .done) jump))) ∧
        W3.heap[w.heap.size + 1]? = some (.loop { rec .ready none with state := .busy }) ∧
        (W3.putObj (w.heap.size + 1) (.loop (rec (if jump.isNone then .ready else .done) jump))).heap[w.heap.size + 1]? = some (.loop (rec (if jump.isNone then .ready else .done) jump)) ∧
        (W3.putObj (w.heap.size + 1) (.loop (rec (if jump.isNone then .ready else .done) jump))).heap[w.heap.size]? = some (.deferred (some [])) := fun jump W3 k3 => by
      have hl3 := k3.2 _ _ (by omega) hl2 rfl
      have := run_endRound (P := P) jump hl3
      rw [hrec] at this ⊢
      exact ⟨this, by rw [hrec] at hl3; exact hl3, World.putObj_heap_same (Array.getElem?_eq_some_iff.1 hl3).1, (World.putObj_heap_other (by omega)).trans (k3.2 _ _ (Nat.le_refl _) hk2 rfl)⟩
    rintro e a3 W3 hp
    cases e with
    | normal =>
      obtain ⟨k3, hs3, hi3⟩ := hp
      obtain ⟨hr, hl3, hl4, hk4⟩ := fin none W3 k3
      have far : ∀ (A : World) (o : Obj), SameAt Pk A (A.putObj (w.heap.size + 1) o) := fun A o k hk => World.putObj_heap_other (by have := hPk k hk; omega)
      exact ⟨_, _, hr, .inl ⟨rfl, ⟨hI _ _ _ hi3 (book W3 _ _ hl3 rfl), hl4, hk4⟩, ((hs1.trans (far W1 _)).trans hs3).trans (far W3 _)⟩⟩
    | ret =>
      obtain ⟨k3, hi3⟩ := hp
      obtain ⟨hr, hl3, hl4, hk4⟩ := fin (some .ret) W3 k3
      exact ⟨_, _, hr, .inr ⟨rfl, hIx _ _ hi3 (book W3 _ _ hl3 rfl), hl4, hk4⟩⟩
    | exit id => exact (hp : False).elim
    | goto t => exact (hp : False).elim
    | panic ch => exact (hp : False).elim
    | outgrown => exact (hp : False).elim
  · rintro e W2 ⟨⟨v, rfl⟩, hi, hl, hk⟩
    refine ⟨some .ret, _, by have := run_endLoop (P := P) hl (by rw [hrec]; simp); rw [hrec] at this; exact this, ?_⟩
    exact hstop _ _ (Nat.le_refl _) (hIx _ _ hi (book W2 _ _ hl rfl)) ((World.putObj_heap_other (by omega)).trans hk)
end
end Go.Proofs.Ytibgmoapkionjaa
