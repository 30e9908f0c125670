/- Steps of a drawn region that lays blocks, marks them and appends, in whatever order: which blocks are kept. No function of the program. -/
import Derived.Test.YthfbcpbjnfdnkaaReg
import Derived.Test.YthfbcpbjnfdnkaaMemC
import Derived.Test.YthfbcpbjnfdnkaaArrB
namespace Go.Proofs.Ythfbcpbjnfdnkaa
open Go.RowKit Go.Deep

/-- Nothing below B has turned; of what was there, block r alone may have turned (but for marks). -/
def Kq (B : Nat) (r : Option Nat) (w w' : World) : Prop :=
  Below B w w' ∧ w.heap.size ≤ w'.heap.size ∧ (∀ p v, r ≠ some p.block → w.cell? p = some v → w'.cell? p = some v) ∧ ∀ (k : Nat) (c : Array Value) (t : TypeId) (fr : Nat × Nat), r ≠ some k → w.heap[k]? = some (Obj.cells c t fr) → ∃ fr' : Nat × Nat, w'.heap[k]? = some (Obj.cells c t fr')
theorem Kq.of_below {B : Nat} {r : Option Nat} {w w' : World} (hB : B ≤ w.heap.size) (h : Below w.heap.size w w') : Kq B r w w' :=
  ⟨h.mono hB, h.size, fun p v _ hp => (h.cell (World.block_lt_of_cell? w _ hp)).trans hp, fun k _ _ fr _ hk => ⟨fr, (h.block k (Array.getElem?_eq_some_iff.1 hk).1).trans hk⟩⟩
theorem Kq.of_kp {B : Nat} {w w' : World} (h : Kp B w w') : Kq B none w w' := ⟨h.1, h.1.size, fun p v _ hp => h.2.1 p v hp, fun k c t fr _ hk => h.2.2 k c t fr hk⟩
theorem Kq.of_grown {B : Nat} {r : Option Nat} {w w' : World} (hB : B ≤ w.heap.size) (h : w.grownBy w' r) (hr : ∀ g, r = some g → B ≤ g) : Kq B r w w' :=
  ⟨below_only (Below.refl B w) hB h hr, h.size, fun p v hne hp => by
      have hlt := World.block_lt_of_cell? w _ hp
      exact (World.cell?_of_block (h.block p.block hlt (fun e => hne e.symm))).trans hp,
    fun k c t fr hne hk => ⟨fr, (h.block k (Array.getElem?_eq_some_iff.1 hk).1 (fun e => hne e.symm)).trans hk⟩⟩
theorem Rs.kq {B : Nat} {r : Option Nat} {w w' : World} {v : Value} {l : List Nat} (h : Rs w v l) (k : Kq B r w w') (hne : r = none ∨ r ≠ v.ownBlock) : Rs w' v l :=
  ⟨h.1, h.2.1, h.2.2.elim .inl fun ⟨x, cap, e, hc, hx⟩ => .inr ⟨x, cap, e, hc, fun i hi => k.2.2.1 _ _ (fun er => by
    rcases hne with h0 | h0
    · rw [h0] at er; cases er
    · exact h0 (er.trans (by rw [e]; simp only [Value.ownBlock, Addr.add]; split <;> rfl))) (hx i hi)⟩⟩
/-- Block g holds just these cells. -/
def Blk (w : World) (g : Nat) (C : Array Value) (t : TypeId) : Prop := ∃ fr : Nat × Nat, w.heap[g]? = some (Obj.cells C t fr)
theorem Blk.kq {B : Nat} {r : Option Nat} {w w' : World} {g : Nat} {C : Array Value} {t : TypeId} (h : Blk w g C t) (k : Kq B r w w') (hne : r ≠ some g) : Blk w' g C t := by
  obtain ⟨fr, h⟩ := h
  exact k.2.2.2 g C t fr hne h
theorem Blk.lt {w : World} {g : Nat} {C : Array Value} {t : TypeId} (h : Blk w g C t) : g < w.heap.size := by
  obtain ⟨fr, h⟩ := h
  exact (Array.getElem?_eq_some_iff.1 h).1
theorem Blk.cell {w : World} {g i : Nat} {C : Array Value} {t : TypeId} {v : Value} (h : Blk w g C t) (hi : C[i]? = some v) : w.cell? ⟨g, i, none⟩ = some v := by
  obtain ⟨fr, h⟩ := h
  simp [World.cell?, h, hi]
theorem Blk.lit {w : World} {B g n : Nat} {l : List Nat} (h : Blk w g (l.map bv).toArray 5) (hall : AllB l) (h63 : l.length ≤ 9223372036854775807) (hB : B ≤ g) (hn : n = l.length) : Lit B w (.slice (some ⟨g, 0, none⟩) n n) l := by
  obtain ⟨fr, h⟩ := h
  subst hn
  exact ⟨hall, h63, g, fr, hB, rfl, h⟩
theorem Own.kq {B base : Nat} {r : Option Nat} {w w' : World} {v : Value} {l : List Nat} (h : Own w base v l) (k : w.grownBy w' r) (hne : v.ownBlock = none ∨ v.ownBlock ≠ r) : Own w' base v l := h.only k hne
theorem Blk.bs {w : World} {g n : Nat} {l : List Nat} (h : Blk w g (l.map bv).toArray 5) (hall : AllB l) (h63 : l.length ≤ 9223372036854775807) (hn : n = l.length) : Bs w (.slice (some ⟨g, 0, none⟩) n n) l := by
  subst hn
  exact bs_mk hall rfl (Nat.le_refl _) h63 h.lt fun i hi => h.cell (by simp [hi, List.getD])
/-- A list of byte slices out of its block. -/
theorem Blk.bss {w : World} {g n : Nat} {us : List Value} {ll : List (List Nat)} (h : Blk w g us.toArray 23) (hn : n = ll.length) (hl : us.length = ll.length) (h63 : ll.length ≤ 9223372036854775807) (hr : ∀ i u, us[i]? = some u → Rs w u (ll.getD i [])) :
    Bss w (.slice (some ⟨g, 0, none⟩) n n) ll := by
  subst hn
  refine ⟨_, ll.length, rfl, h63, fun _ => ⟨g, 0, rfl, fun i hi => ?_⟩⟩
  have hi' : i < us.length := by omega
  exact ⟨us[i], by rw [Nat.zero_add]; exact h.cell (by simp [hi']), hr i _ (List.getElem?_eq_getElem hi')⟩
theorem Blk.bss1 {w : World} {g : Nat} {u : Value} {l : List Nat} (h : Blk w g #[u] 23) (hr : Rs w u l) : Bss w (.slice (some ⟨g, 0, none⟩) 1 1) [l] :=
  Blk.bss (us := [u]) h rfl rfl (by simp) fun i y hy => by
    match i with
    | 0 => simp at hy; subst hy; exact hr
    | _ + 1 => simp at hy
theorem Blk.bss2 {w : World} {g : Nat} {u v : Value} {l m : List Nat} (h : Blk w g #[u, v] 23) (hr : Rs w u l) (hs : Rs w v m) : Bss w (.slice (some ⟨g, 0, none⟩) 2 2) [l, m] :=
  Blk.bss (us := [u, v]) h rfl rfl (by simp) fun i y hy => by
    match i with
    | 0 => simp at hy; subst hy; exact hr
    | 1 => simp at hy; subst hy; exact hs
    | _ + 2 => simp at hy
/-- Bytes of the call's own that are not nil: where they lie. -/
def OwnAt (w : World) (B g : Nat) (l : List Nat) (c : Nat) : Prop := B ≤ g ∧ g < w.heap.size ∧ Own w B (.slice (some ⟨g, 0, none⟩) l.length c) l
theorem OwnAt.of_raw {w : World} {B g n : Nat} {l : List Nat} (h : w.heap[g]? = some (Obj.cells (l.map bv).toArray 5 (0, 0))) (hall : AllB l) (hB : B ≤ g) (h63 : l.length ≤ 9223372036854775807) (hn : n = l.length) : OwnAt w B g l n := by
  subst hn
  exact ⟨hB, (Array.getElem?_eq_some_iff.1 h).1, hall, by simp, .inr ⟨g, l.length, (l.map bv).toArray, rfl, hB, h, Nat.le_refl _, h63, by simp, by simp [List.take_of_length_le]⟩⟩
theorem OwnAt.rs {w : World} {B g c : Nat} {l : List Nat} (h : OwnAt w B g l c) : Rs w (.slice (some ⟨g, 0, none⟩) l.length c) l := h.2.2.bs.rs

theorem OwnAt.kq {w w' : World} {B g c : Nat} {r : Option Nat} {l : List Nat} (h : OwnAt w B g l c) (k : w.grownBy w' r) (hne : r ≠ some g) : OwnAt w' B g l c :=
  ⟨h.1, Nat.lt_of_lt_of_le h.2.1 k.size, h.2.2.only k (.inr (fun e => hne e.symm))⟩

section
variable {P : Program} {ops : Array Oper} {K : Act → World → Prop} {S : World → Prop} {n : Nat} {listed : Array Bool} {a : Act} {w : World}
/-- A load of a whole array is taken first. -/
theorem reg_load (i : Nat) (d : Tmp) (hB : takeB ops listed a i d = true) (ty : TypeId) (x : Operand) (ho : (opn ops i).op = .load ty x) (ad : Addr) (hx : a.eval x = .pointer (some ad)) (cs : Array Value) (ds : TypeDesc)
    (hc : ∀ w, S w → ∀ j v, cs[j]? = some v → w.cell? (ad.add j) = some v) (hu : P.underlying ty = some ds) (hd : (match ds with | .struct _ | .array _ _ => true | _ => false) = true) (hz : (P.info? ty).map (·.size) = some cs.size) (hS : S w)
    (h : wpAnyH P .any ops (nq K) S n (listed.setIfInBounds i true) (a.put (some d) (.agg cs)) w) : wpAnyH P .any ops (nq K) S (n + 1) listed a w := by
  refine reg_take i d (.agg cs) hB (fun w' hw' => ?_) hS h
  unfold execOp
  simp only [ho, hx, Instr.loadAt, Instr.sureAddr, Sem.run_bind, Sem.run_pure, Result.andThen_ok, run_loadVar_arr w' ad ty cs ds (hc w' hw') hu hd hz]
theorem run_neqIn_arr {w : World} {o : Oper} {a : Act} {t e ty : TypeId} {k k' : IntKind} {n : Nat} (f g : Nat → Nat) {x y : Operand} (ho : o.op = .binOp .neq t x y ty) (hx : a.eval x = .agg (arr k n f)) (hy : a.eval y = .agg (arr k n g))
    (ht : P.underlying t = some (.array n e)) (he : P.underlying e = some (.int k')) (hc : P.cellsOf e = 1) (hm : P.eqGuardType P.depth t = false) : (execOp a.eval o).run P w = .ok (.value (.bool (!sameArr n f g))) w := by
  unfold execOp
  simp only [ho, hx, hy, Sem.run_bind, run_eqGuard_agg w .neq t x y _ _ hm, Result.andThen_ok, run_neq_struct, run_equalIn_arr w f g ht he hc, Sem.run_pure]
end

section
variable {ops : Array Oper} {K : Act → World → Prop} {V : World} {B n : Nat} {listed : Array Bool} {a : Act} {w : World}
/-- A block is laid: a literal, a list, a variable. -/
theorem q_lay {i : Nat} (d : Tmp) (vf : Nat → Value) (C : Array Value) (t : TypeId) (hst : stepB ops a i d = true) (h0 : Below B V w) (hB : B ≤ V.heap.size)
    (hrun : (execOp a.eval (opn ops i)).run Try.prog w = .ok (.value (vf w.heap.size)) (w.alloc (.cells C t)))
    (h : ∀ (w' : World) (g : Nat), B ≤ g → g = w.heap.size → w'.heap.size = w.heap.size + 1 → Kq B none w w' → w.grownBy w' none → Below B V w' → w'.heap[g]? = some (Obj.cells C t (0, 0)) → wpAnyH Try.prog .any ops (nq K) (fun w' => Below B V w') n (listed.setIfInBounds i true) (a.put (some d) (vf g)) w') :
    HStep Try.prog .any ops (nq K) (fun w' => Below B V w') n listed a w i (opn ops i) := by
  unfold stepB at hst
  simp only [Bool.and_eq_true] at hst
  have hwB : B ≤ w.heap.size := Nat.le_trans hB h0.size
  have k : Below w.heap.size w (w.alloc (.cells C t)) := (Below.refl _ _).alloc (Nat.le_refl _) _
  exact HStep.value (some d) (dst_at hst.1) hst.2 _ _ hrun (h0.trans (k.mono hwB)) (h _ _ hwB rfl (by simp) (Kq.of_below hwB k) (only_of_below k none) (h0.trans (k.mono hwB)) (heap_alloc_new _ _))
/-- A literal of bytes is marked. -/
theorem q_mark {i : Nat} (d : Tmp) (x : Operand) (g m : Nat) (l : List Nat) (hst : stepB ops a i d = true) (ho : (opn ops i).op = .convert 23 23 x) (hx : a.eval x = .slice (some ⟨g, 0, none⟩) m m) (hv : Blk w g (l.map bv).toArray 5) (hall : (l.all fun x => decide (x < 256)) = true) (hm : Nat.beq m l.length = true) (h63 : Nat.ble m 9223372036854775807 = true) (hg : B ≤ g) (h0 : Below B V w)
    (h : ∀ w', w'.heap.size = w.heap.size → Kq B none w w' → w.grownBy w' (some g) → Below B V w' → wpAnyH Try.prog .any ops (nq K) (fun w' => Below B V w') n (listed.setIfInBounds i true) (a.put (some d) (.slice (some ⟨g, 0, none⟩) m m)) w') : HStep Try.prog .any ops (nq K) (fun w' => Below B V w') n listed a w i (opn ops i) := by
  unfold stepB at hst
  simp only [Bool.and_eq_true] at hst
  have hm := Nat.eq_of_beq_eq_true hm
  obtain ⟨fr, hv⟩ := hv
  have hr := run_mark w _ g m m fr hv
  have hmk := freeze_marked (B := B) w g (l.map bv).toArray.size _ _ _ hv hg
  have hz : (w.freeze ⟨g, (l.map bv).toArray.size, none⟩ 1).heap.size = w.heap.size := by
    unfold World.freeze
    rw [if_neg (by decide)]
    simp
  have hgr : w.grownBy (w.freeze ⟨g, (l.map bv).toArray.size, none⟩ 1) (some g) := ⟨hmk.1.os, hmk.1.tape, hmk.1.output, by rw [hz]; exact Nat.le_refl _, fun i _ hne => freeze_heap w g _ i (fun e => hne (by rw [e]))⟩
  refine HStep.value (some d) (dst_at hst.1) hst.2 _ _ ?_ (h0.trans hmk.1) (h _ hz (Kq.of_kp (Kp.of_marked hmk)) hgr (h0.trans hmk.1))
  unfold execOp
  simp only [ho, hx, Sem.run_bind, Sem.run_pure, Result.andThen_ok, hr]
/-- Bytes are appended to bytes of the call's own. -/
theorem q_append {i : Nat} (d : Tmp) (s x : Operand) (g c : Nat) (l : List Nat) (x' : Value) (l2 : List Nat) (hst : stepB ops a i d = true) (ho : (opn ops i).op = .call { callee := .builtin .append, args := #[s, x], argTypes := #[23, 23] })
    (hs : a.eval s = .slice (some ⟨g, 0, none⟩) l.length c) (hx : a.eval x = x') (hown : OwnAt w B g l c) (hsrc : Bs w x' l2) (hbytes : l.length + l2.length ≤ 140737488355328) (h0 : Below B V w) (hB : B ≤ V.heap.size)
    (h : ∀ (w' : World) (g' c' : Nat), (g' = g ∨ w.heap.size ≤ g') → Kq B (some g) w w' → w.grownBy w' (some g) → Below B V w' → OwnAt w' B g' (l ++ l2) c' → wpAnyH Try.prog .any ops (nq K) (fun w' => Below B V w') n (listed.setIfInBounds i true) (a.put (some d) (.slice (some ⟨g', 0, none⟩) (l ++ l2).length c')) w') :
    HStep Try.prog .any ops (nq K) (fun w' => Below B V w') n listed a w i (opn ops i) := by
  unfold stepB at hst
  simp only [Bool.and_eq_true] at hst
  have hwB : B ≤ w.heap.size := Nat.le_trans hB h0.size
  obtain ⟨hBg, hgw, hown⟩ := hown
  have hd := dst_at hst.1
  refine HStep.of_law #[] hst.2 fun K' hK' => ?_
  have fin : ∀ v' w', Own w' B v' (l ++ l2) → v' ≠ .slice none 0 0 → Moved w (.slice (some ⟨g, 0, none⟩) l.length c) v' → w.grownBy w' (some g) → K' (a.put (opn ops i).dst v') w' := by
    intro v' w' ho' hnn hmv hgr
    rcases ho'.cases with ⟨hv', _⟩ | ⟨g', c', rfl, hb', hg', _, _, _, _⟩
    · exact absurd hv' hnn
    have k := Kq.of_grown hwB hgr (fun q hq => by cases hq; exact hBg)
    have hS := h0.trans k.1
    refine hK' _ _ hS ?_
    rw [hd]
    refine h w' g' c' ?_ k hgr hS ⟨hb', hg', ho'⟩
    rcases hmv with hm | ⟨q, hq, hw⟩
    · exact .inl (by simpa [Value.ownBlock] using hm)
    · exact .inr (by simp [Value.ownBlock] at hq; omega)
  rcases hsrc.cases with ⟨rfl, rfl⟩ | ⟨b, off, cp, rfl, h1, h2, hb, hc⟩
  · obtain ⟨i0, hi, hz0, hz1, hz2⟩ := info_parts info_u8
    refine wpList_append_own_none rfl s x 23 ho B 5 i0 1 Try.underlying23 hi _ l.length (l.map bv) hs hown.2 hx ?_
    exact fin _ w (by rw [List.append_nil]; exact hown) (by simp) (.inl rfl) (only_refl _ _)
  · refine wpList_append_moved0 rfl s x ho B _ l hs hown b off cp l2 hx hsrc.1 hc hbytes hwB ?_
    intro v' w' ho' hmv hgr
    refine fin v' w' ho' (fun e => ?_) hmv hgr
    rcases hmv with hm | ⟨q, hq, _⟩
    · rw [e] at hm; simp [Value.ownBlock] at hm
    · rw [e] at hq; simp [Value.ownBlock] at hq
end
end Go.Proofs.Ythfbcpbjnfdnkaa
