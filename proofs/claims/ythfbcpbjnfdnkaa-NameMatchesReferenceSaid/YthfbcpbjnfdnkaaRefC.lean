/- The reference's reader: fail, Take. -/
import Derived.Test.YthfbcpbjnfdnkaaRefA
import Derived.Test.YthfbcpbjnfdnkaaRegC
import Derived.Handy
import Derived.Deep.Cut
namespace Go.Proofs.Ythfbcpbjnfdnkaa
open Go.RowKit Go.Deep

/-! ### slices of an argument -/
def fromV (a : Option Addr) (len cap n : Nat) : Value := .slice (if cap = n then a else a.map (·.add (n * 1))) (len - n) (cap - n)
def uptoV (a : Option Addr) (cap n : Nat) : Value := .slice (if cap = 0 then a else a.map (·.add (0 * 1))) (n - 0) (cap - 0)
theorem elemU8 : Try.prog.underlying 23 = some (.slice (Try.prog.elem 23)) := by kernel_rfl
theorem sizeU8 : (Try.prog.info? 5).map (·.size) = some 1 := by kernel_rfl
theorem run_from (w : World) (ad : Option Addr) (len cap n : Nat) (hn : n ≤ len) : (Instr.slice 23 (.slice ad len cap) (some (.int .i64 n)) none none).run Try.prog w = .ok (fromV ad len cap n) w := by
  unfold fromV
  have h1 : (0 : Int) ≤ (n : Int) ∧ (n : Int) ≤ (len : Int) := by omega
  simp [Instr.slice, Instr.sliceBounds, Instr.sliceBound, run_underlying Try.underlying23, run_sizeOf, go_sem, h1, sizeU8]
  intro h; omega
theorem run_upto (w : World) (ad : Option Addr) (len cap n : Nat) (hn : n ≤ cap) : (Instr.slice 23 (.slice ad len cap) none (some (.int .i64 n)) none).run Try.prog w = .ok (uptoV ad cap n) w := by
  unfold uptoV
  have h1 : (0 : Int) ≤ (n : Int) ∧ (n : Int) ≤ (cap : Int) := by omega
  simp [Instr.slice, Instr.sliceBounds, Instr.sliceBound, run_underlying Try.underlying23, run_sizeOf, go_sem, h1, sizeU8]
  intro h; omega
theorem exec_from {o : Oper} {a : Act} {w : World} {x y : Operand} {ad : Option Addr} {len cap n : Nat} (ho : o.op = .slice 23 x (some y) none none) (hx : a.eval x = .slice ad len cap) (hy : a.eval y = .int .i64 n) (hn : n ≤ len) :
    (execOp a.eval o).run Try.prog w = .ok (.value (fromV ad len cap n)) w := by
  unfold execOp
  simp only [ho, hx, hy, Option.map_some, Option.map_none, Sem.run_bind, Sem.run_pure, run_sliceAt_slice _ 23 _ _ _ _ elemU8, Result.andThen_ok, run_from w ad len cap n hn]
theorem exec_upto {o : Oper} {a : Act} {w : World} {x y : Operand} {ad : Option Addr} {len cap n : Nat} (ho : o.op = .slice 23 x none (some y) none) (hx : a.eval x = .slice ad len cap) (hy : a.eval y = .int .i64 n) (hn : n ≤ cap) :
    (execOp a.eval o).run Try.prog w = .ok (.value (uptoV ad cap n)) w := by
  unfold execOp
  simp only [ho, hx, hy, Option.map_some, Option.map_none, Sem.run_bind, Sem.run_pure, run_sliceAt_slice _ 23 _ _ _ _ elemU8, Result.andThen_ok, run_upto w ad len cap n hn]
theorem Rs.cap {w : World} {a : Option Addr} {n cap : Nat} {l : List Nat} (h : Rs w (.slice a n cap) l) : n = l.length ∧ n ≤ cap ∧ (a = none → n = 0 ∧ cap = 0) := by
  rcases h.2.2 with ⟨e, rfl⟩ | ⟨x, c, e, hc, _⟩
  · simp only [Value.slice.injEq] at e
    obtain ⟨rfl, rfl, rfl⟩ := e
    simp
  · simp only [Value.slice.injEq] at e
    obtain ⟨rfl, rfl, rfl⟩ := e
    exact ⟨rfl, hc.1, fun h => by cases h⟩
theorem Rs.fromV {w : World} {a : Option Addr} {cap n : Nat} {l : List Nat} (h : Rs w (.slice a l.length cap) l) (hn : n ≤ l.length) : Rs w (fromV a l.length cap n) (l.drop n) := by
  have hal := AllB.drop h.1 n
  have h63 := h.2.1
  unfold Proofs.Ythfbcpbjnfdnkaa.fromV
  rcases h.2.2 with ⟨e, rfl⟩ | ⟨x, c, e, hc, hcell⟩
  · simp only [Value.slice.injEq] at e
    obtain ⟨rfl, _, rfl⟩ := e
    obtain rfl : n = 0 := by simpa using hn
    exact ⟨hal, by simp, .inl ⟨by simp, by simp⟩⟩
  · simp only [Value.slice.injEq] at e
    obtain ⟨rfl, _, rfl⟩ := e
    refine ⟨hal, by rw [List.length_drop]; omega, .inr ⟨if cap = n then x else x.add (n * 1), cap - n, ?_, ⟨by rw [List.length_drop]; omega, by omega⟩, ?_⟩⟩
    · rw [List.length_drop]
      split <;> rfl
    · intro i hi
      rw [List.length_drop] at hi
      rw [if_neg (by omega), getD_drop]
      have := hcell (n + i) (by omega)
      rw [← this]
      congr 1
      by_cases h1 : n = 0 <;> by_cases h2 : i = 0 <;> simp [Addr.add, Nat.add_assoc, h1, h2]
theorem Rs.uptoV {w : World} {a : Option Addr} {cap n : Nat} {l : List Nat} (h : Rs w (.slice a l.length cap) l) (hn : n ≤ l.length) : Rs w (uptoV a cap n) (l.take n) := by
  have hal := AllB.take h.1 n
  have h63 := h.2.1
  have hlt : (l.take n).length = n := by rw [List.length_take]; omega
  unfold Proofs.Ythfbcpbjnfdnkaa.uptoV
  rcases h.2.2 with ⟨e, rfl⟩ | ⟨x, c, e, hc, hcell⟩
  · simp only [Value.slice.injEq] at e
    obtain ⟨rfl, _, rfl⟩ := e
    obtain rfl : n = 0 := by simpa using hn
    exact ⟨hal, by simp, .inl ⟨by simp, by simp⟩⟩
  · simp only [Value.slice.injEq] at e
    obtain ⟨rfl, _, rfl⟩ := e
    refine ⟨hal, by omega, .inr ⟨if cap = 0 then x else x.add (0 * 1), cap - 0, ?_, ⟨by omega, by omega⟩, ?_⟩⟩
    · rw [hlt]
      split <;> rfl
    · intro i hi
      rw [hlt] at hi
      rw [if_neg (by omega), getD_take _ _ _ hi]
      have := hcell i (by omega)
      rw [← this]
      rfl

section
variable {ops : Array Oper} {K : Act → World → Prop} {V : World} {B n : Nat} {listed : Array Bool} {a : Act} {w : World}
/-- Bytes of an argument are appended to bytes of the call's own. -/
theorem q_append_rs {i : Nat} (d : Tmp) (s x : Operand) (g c : Nat) (l : List Nat) (x' : Value) (l2 : List Nat) (hst : stepB ops a i d = true) (ho : (opn ops i).op = .call { callee := .builtin .append, args := #[s, x], argTypes := #[23, 23] })
    (hs : a.eval s = .slice (some ⟨g, 0, none⟩) l.length c) (hx : a.eval x = x') (hBg : B ≤ g) (B2 : Nat) (hown : Own w B2 (.slice (some ⟨g, 0, none⟩) l.length c) l) (hB2 : B2 ≤ w.heap.size) (hsrc : Rs w x' l2) (hbytes : l.length + l2.length ≤ 140737488355328) (h0 : Below B V w) (hB : B ≤ V.heap.size)
    (h : ∀ (w' : World) (v' : Value), Own w' B2 v' (l ++ l2) → Kq B (some g) w w' → w.grownBy w' (some g) → Below B V w' → wpAnyH Try.prog .any ops (nq K) (fun w' => Below B V w') n (listed.setIfInBounds i true) (a.put (some d) v') w') :
    HStep Try.prog .any ops (nq K) (fun w' => Below B V w') n listed a w i (opn ops i) := by
  unfold stepB at hst
  simp only [Bool.and_eq_true] at hst
  have hwB : B ≤ w.heap.size := Nat.le_trans hB h0.size
  have hd := dst_at hst.1
  refine HStep.of_law #[] hst.2 fun K' hK' => ?_
  refine wpList_append_rs rfl s x ho B2 _ l hs hown x' l2 hx hsrc hbytes hB2 ?_
  intro v' w' ho' hgr
  have k := Kq.of_grown hwB hgr (fun q hq => by cases hq; exact hBg)
  have hS := h0.trans k.1
  refine hK' _ _ hS ?_
  rw [hd]
  exact h w' v' ho' k hgr hS
end

theorem exec_load_sl {o : Oper} {a : Act} {w : World} (x : Operand) (ad : Addr) (p : Option Addr) (m c : Nat) (ho : o.op = .load 23 x) (hx : a.eval x = .pointer (some ad)) (hc : w.cell? ad = some (.slice p m c)) :
    (execOp a.eval o).run Try.prog w = .ok (.value (.slice p m c)) w := by
  unfold execOp
  simp only [ho, hx]
  have hz : ((Try.prog).info? 23).map (·.size) = some 1 := by kernel_rfl
  have hu := Try.underlying23
  go_simp
theorem only_setRow0 (w : World) (g : Nat) (cs : Array Value) : w.grownBy (w.setRow g cs) (some g) :=
  ⟨rfl, rfl, rfl, by simp, fun k _ hk => by
    have : g ≠ k := fun e => hk (by rw [e])
    simp [World.setRow, Array.getElem?_modify, this]⟩

/-- A reader of the reference. -/
abbrev rdv (v : Value) (bad : Bool) : Value := .agg #[v, .bool bad]
theorem infoRd : (Try.prog.info? 40).map (·.size) = some 2 := by kernel_rfl
theorem results_cell_tmp2 {P : Program} {fn : Func} {p q : Tmp} {ty : TypeId} (h : fn.results = #[.cell p ty, .tmp q]) (tmps : Array Value) (w : World) (g : Nat) (t : TypeId) (cs : Array Value) (fr : Nat × Nat) (d : TypeDesc)
    (hp : tmps.getD p undef = .pointer (some ⟨g, 0, none⟩)) (hg : w.heap[g]? = some (.cells cs t fr))
    (hu : P.underlying ty = some d) (hd : (match d with | .struct _ | .array _ _ => true | _ => false) = true) (hi : (P.info? ty).map (·.size) = some cs.size) :
    (results fn tmps).run P w = .ok (.tuple #[.agg cs, tmps.getD q undef]) w := by
  have hp' : tmps[p]?.getD undef = .pointer (some ⟨g, 0, none⟩) := by simpa using hp
  simp [results, h, hp', asAddr, run_loadVar_row w g t ty cs fr d hg hu hd hi]
def RetT (w0 : World) (x : Wir.R × List Nat) (w : World) (e : Ending) (w' : World) : Prop :=
  ∃ u y, e = .returned (.tuple #[rdv u x.1.bad, y]) ∧ Rs w0 u x.1.l ∧ Own w' w.heap.size y x.2 ∧ Below w.heap.size w w'

set_option maxRecDepth 100000 in
set_option maxHeartbeats 400000 in
theorem reffail (w : World) :
    Calls Try.prog 47 #[] w fun e w' => e = .returned (rdv (.slice none 0 0) true) ∧ Below w.heap.size w w' := by
  go_enter Try.func47, Try.ntmps47
  go_wp2_with fail
  go_returns
  exact ⟨rfl, (Below.refl _ _).alloc (Nat.le_refl _) _⟩

/-- What every function of two results of which the first is a reader does ahead: two new blocks. -/
theorem rd_two (w : World) (cs zs : Array Value) (t t' : TypeId) :
    Below w.heap.size w ((w.alloc (.cells cs t)).alloc (.cells zs t')) ∧ ((w.alloc (.cells cs t)).alloc (.cells zs t')).heap[w.heap.size]? = some (.cells cs t (0, 0)) ∧
      ((w.alloc (.cells cs t)).alloc (.cells zs t')).heap[w.heap.size + 1]? = some (.cells zs t' (0, 0)) ∧ ((w.alloc (.cells cs t)).alloc (.cells zs t')).heap.size = w.heap.size + 2 := by
  refine ⟨((Below.refl _ _).alloc (Nat.le_refl _) _).alloc (by simp) _, ?_, ?_, by simp⟩
  · rw [heap_alloc_old _ _ (by simp)]
    exact heap_alloc_new _ _
  · exact heap_alloc2_new _ _ _

set_option maxRecDepth 100000 in
set_option maxHeartbeats 400000 in
theorem reftake_bad (w0 : World) (v : Value) (l : List Nat) (bad : Bool) (n : Int) (w : World) (h : Rs w v l) (hb : bad = true ∨ n < 0 ∨ (l.length : Int) < n) :
    Calls Try.prog 25 #[rdv v bad, .int .i64 n] w (RetT w0 (Wir.failed, []) w) := by
  obtain ⟨a, cap, rfl⟩ := h.form
  clear h
  have H2 := Lib.hid (rd_two w #[.slice a l.length cap, .bool bad] #[.slice none 0 0, .bool false] 40 40)
  have key : (bad = true) ∨ (bad = false ∧ decide (n < 0) = true) ∨ (bad = false ∧ decide (n < 0) = false ∧ decide ((l.length : Int) < n) = true) := by
    cases bad
    · by_cases h1 : n < 0
      · exact .inr (.inl ⟨rfl, by simpa using h1⟩)
      · exact .inr (.inr ⟨rfl, by simpa using h1, by rcases hb with h | h | h <;> first | (cases h; done) | omega | (simpa using h)⟩)
    · exact .inl rfl
  clear hb
  rcases key with rfl | ⟨rfl, d1⟩ | ⟨rfl, d1, d2⟩
  all_goals
    go_enter Try.func25, Try.ntmps25
    go_wp2_with fail
    refine (reffail _).mono ?_
    rintro e w1 ⟨rfl, hb1⟩
    have hr := (hb1.block (w.heap.size + 1) (by rw [H2.out.2.2.2]; omega)).trans H2.out.2.2.1
    have B1 := Lib.hid (H2.out.1.trans (hb1.mono (by rw [H2.out.2.2.2]; omega)))
    clear hb1
    obtain ⟨c0, c1, f0, f1⟩ := two_cells hr
    have sz : w.heap.size + 1 < w1.heap.size := by
      have := (Array.getElem?_eq_some_iff.1 hr).1
      exact this
    have HR := Lib.hid hr; clear hr
    go_wp2_with fail
    exact bodyPost_ret (results_cell_tmp2 rfl _ _ (w.heap.size + 1) _ _ (0, 0) _ rfl (two_set1 (two_set0 HR.out)) rfl rfl infoRd) rfl ⟨_, _, rfl, (Bs.nil _).rs, Own.nil _ _, (B1.out.setCell (by simp) _).setCell (by simp) _⟩

attribute [local irreducible] wpAnyH in
set_option maxRecDepth 100000 in
set_option maxHeartbeats 400000 in
theorem reftake_ok (w0 : World) (v : Value) (l : List Nat) (n : Nat) (w : World) (h : Rs w0 v l) (hb : Below w0.heap.size w0 w) (hn : n ≤ l.length) (hl : l.length ≤ 140737488355328) :
    Calls Try.prog 25 #[rdv v false, .int .i64 n] w (RetT w0 (⟨l.drop n, false⟩, l.take n) w) := by
  obtain ⟨a, cap, rfl⟩ := h.form
  have hcap := (h.cap).2.1
  have H := Lib.hid (h.below hb)
  have H0 := Lib.hid (h.fromV hn); clear h hb
  have H2 := Lib.hid (rd_two w #[.slice a l.length cap, .bool false] #[.slice none 0 0, .bool false] 40 40)
  have d1 : decide ((n : Int) < 0) = false := by simp
  have d2 : decide ((l.length : Int) < (n : Int)) = false := by simp; omega
  go_enter Try.func25, Try.ntmps25
  go_upto_region 3 with fail
  obtain ⟨V, hV⟩ : ∃ V, V = (w.alloc (.cells #[.slice a l.length cap, .bool false] 40)).alloc (.cells #[.slice none 0 0, .bool false] 40) := ⟨_, rfl⟩
  rw [← hV]
  have VB : Below w.heap.size w V := by rw [hV]; exact H2.out.1
  have VS : V.heap.size = w.heap.size + 2 := by rw [hV]; exact H2.out.2.2.2
  have V0 : V.heap[w.heap.size]? = some (.cells #[.slice a l.length cap, .bool false] 40 (0, 0)) := by rw [hV]; exact H2.out.2.1
  have V1 : V.heap[w.heap.size + 1]? = some (.cells #[.slice none 0 0, .bool false] 40 (0, 0)) := by rw [hV]; exact H2.out.2.2.1
  clear hV
  have LD : ∀ w', Below (w.heap.size + 1) V w' → w'.cell? ⟨w.heap.size, 0, none⟩ = some (.slice a l.length cap) := fun w' h => by
    have := (h.block w.heap.size (by omega)).trans V0
    simp [World.cell?, this]
  refine wp_reg Try.f25 3 13 (fun w' => Below (w.heap.size + 1) V w') (by kernel_rfl) (by kernel_rfl) (by kernel_rfl) (below_drewN (Below.refl _ _) 1) (fun K hK h0 => ?_)
  refine reg_cast (listed' := #[false, false, false, false, false, false, false, false, false, false, false, false, false]) (by kernel_rfl) rfl ?_
  have HF := Lib.hid hK; clear hK
  refine reg_take 0 20 (.pointer (some ⟨w.heap.size, 0, none⟩)) (by kernel_rfl) (fun _ _ => by kernel_rfl) h0 ?_
  simp only [Act.put, List.setIfInBounds_toArray, List.set_cons_zero, List.set_cons_succ]
  refine reg_take 1 21 (.slice a l.length cap) (by kernel_rfl) (fun w' h => exec_load_sl (.tmp 20) ⟨w.heap.size, 0, none⟩ a l.length cap (by kernel_rfl) (by kernel_rfl) (LD w' h)) h0 ?_
  simp only [Act.put, List.setIfInBounds_toArray, List.set_cons_zero, List.set_cons_succ]
  refine reg_take 2 22 (.int .i64 n) (by kernel_rfl) (fun _ _ => by kernel_rfl) h0 ?_
  simp only [Act.put, List.setIfInBounds_toArray, List.set_cons_zero, List.set_cons_succ]
  refine reg_take 3 23 (fromV a l.length cap n) (by kernel_rfl) (fun _ _ => exec_from (x := .tmp 21) (y := .tmp 22) (by kernel_rfl) (by kernel_rfl) (by kernel_rfl) hn) h0 ?_
  simp only [Act.put, List.setIfInBounds_toArray, List.set_cons_zero, List.set_cons_succ]
  generalize hfv : fromV a l.length cap n = fv at H0 ⊢
  refine reg_take 4 24 (.agg #[fv, .bool false]) (by kernel_rfl) (fun _ _ => by kernel_rfl) h0 ?_
  simp only [Act.put, List.setIfInBounds_toArray, List.set_cons_zero, List.set_cons_succ]
  refine reg_take 6 26 (.pointer (some ⟨w.heap.size, 0, none⟩)) (by kernel_rfl) (fun _ _ => by kernel_rfl) h0 ?_
  simp only [Act.put, List.setIfInBounds_toArray, List.set_cons_zero, List.set_cons_succ]
  refine reg_take 7 27 (.slice a l.length cap) (by kernel_rfl) (fun w' h => exec_load_sl (.tmp 26) ⟨w.heap.size, 0, none⟩ a l.length cap (by kernel_rfl) (by kernel_rfl) (LD w' h)) h0 ?_
  simp only [Act.put, List.setIfInBounds_toArray, List.set_cons_zero, List.set_cons_succ]
  refine reg_take 8 28 (.int .i64 n) (by kernel_rfl) (fun _ _ => by kernel_rfl) h0 ?_
  simp only [Act.put, List.setIfInBounds_toArray, List.set_cons_zero, List.set_cons_succ]
  refine reg_take 9 29 (uptoV a cap n) (by kernel_rfl) (fun _ _ => exec_upto (x := .tmp 27) (y := .tmp 28) (len := l.length) (by kernel_rfl) (by kernel_rfl) (by kernel_rfl) (by omega)) h0 ?_
  simp only [Act.put, List.setIfInBounds_toArray, List.set_cons_zero, List.set_cons_succ]
  have RU : ∀ w', Below (w.heap.size + 1) V w' → Rs w' (uptoV a cap n) (l.take n) := fun w' h => (H.out.below (VB.trans (h.mono (by omega)))).uptoV hn
  have hone : (#[fv, .bool false] : Array Value).all (·.oneCell') = true := by rw [← hfv]; simp [fromV, Value.oneCell']
  clear hfv
  generalize uptoV a cap n = uv at RU ⊢
  have hB : w.heap.size + 1 ≤ V.heap.size := by omega
  refine reg_one 5 (by kernel_rfl) (by kernel_rfl) (q_lay 25 (fun g => .slice (some ⟨g, 0, none⟩) 0 0) (([] : List Nat).map bv).toArray 5 (by kernel_rfl) h0 hB (by kernel_rfl) ?_)
  intro w1 g1 hB1 hg hz kq gr h0 hr
  have V2 := (gr.block (w.heap.size + 1) (by show _ < V.heap.size; omega) (by simp)).trans V1
  have hg2 : V.heap.size ≤ g1 := by rw [hg]; exact Nat.le_refl _
  have f5 := OwnAt.of_raw (l := []) hr AllB.nil hg2 (by decide) rfl
  simp only [Act.put, List.setIfInBounds_toArray, List.set_cons_zero, List.set_cons_succ]
  refine reg_one 10 (by kernel_rfl) (by kernel_rfl) (q_append_rs 30 (.tmp 25) (.tmp 29) g1 0 [] uv (l.take n) (by kernel_rfl) (by kernel_rfl) (by kernel_rfl) (by kernel_rfl) (by omega) V.heap.size f5.2.2 (by omega) (RU _ h0) (by rw [List.length_take]; simp; omega) h0 hB ?_)
  intro w2 v2 ho2 kq gr h0
  have V3 := (gr.block (w.heap.size + 1) (by omega) (by simp; omega)).trans V2
  simp only [Act.put, List.setIfInBounds_toArray, List.set_cons_zero, List.set_cons_succ]
  refine reg_one 11 (by kernel_rfl) (by kernel_rfl) (q_row 40 (.tmp 4) (.tmp 24) (w.heap.size + 1) #[fv, .bool false] 40 #[.slice none 0 0, .bool false] (by kernel_rfl) (by kernel_rfl) (by kernel_rfl) (by kernel_rfl) V3 infoRd rfl hone (Nat.le_refl _) h0 ?_)
  intro h0 V4
  simp only [Act.put, List.setIfInBounds_toArray, List.set_cons_zero, List.set_cons_succ]
  refine reg_take 12 5 (v2) (by kernel_rfl) (fun _ _ => by kernel_rfl) h0 ?_
  simp only [Act.put, List.setIfInBounds_toArray, List.set_cons_zero, List.set_cons_succ]
  refine reg_done (by kernel_rfl) (HF.out _ _ ?_)
  have ho3 := ho2.only (only_setRow0 w2 (w.heap.size + 1) #[fv, .bool false]) (by
    cases hv : v2.ownBlock with
    | none => exact .inl rfl
    | some q => exact .inr (fun e => by have := (ho2.lt q hv).1; cases e; omega))
  have B3 : Below w.heap.size w (w2.setRow (w.heap.size + 1) #[fv, .bool false]) := VB.trans (h0.mono (by omega))
  clear HF
  go_wp2_with fail
  exact bodyPost_ret (results_cell_tmp2 rfl _ _ (w.heap.size + 1) _ _ (0, 0) _ rfl V4 rfl rfl infoRd) rfl ⟨_, _, rfl, H0.out, ho3.mono (by omega), B3⟩

theorem reftake_any (w0 : World) (v : Value) (r : Wir.R) (n : Int) (w : World) (h : Rs w0 v r.l) (hbw : Below w0.heap.size w0 w) (hl : r.l.length ≤ 140737488355328) :
    Calls Try.prog 25 #[rdv v r.bad, .int .i64 n] w (RetT w0 (Wir.take r n) w) := by
  obtain ⟨l, bad⟩ := r
  by_cases hb : bad = true ∨ n < 0 ∨ (l.length : Int) < n
  · have e : Wir.take ⟨l, bad⟩ n = (Wir.failed, []) := by
      unfold Wir.take
      split
      · rfl
      · unfold Wir.next
        rw [if_pos (by
          rcases hb with h | h | h
          · exact .inl h
          · omega
          · right; show l.length < n.toNat; omega)]
        rfl
    rw [e]
    exact reftake_bad w0 v l bad n w (h.below hbw) hb
  · obtain ⟨m, rfl⟩ := Int.eq_ofNat_of_zero_le (show 0 ≤ n by omega)
    obtain rfl : bad = false := by cases bad <;> simp_all
    have e : Wir.take ⟨l, false⟩ (m : Int) = (⟨l.drop m, false⟩, l.take m) := by
      unfold Wir.take
      rw [if_neg (by omega)]
      unfold Wir.next
      rw [if_neg (by simp; omega)]
      rfl
    rw [e]
    exact reftake_ok w0 v l m w h hbw (by omega) hl
end Go.Proofs.Ythfbcpbjnfdnkaa
