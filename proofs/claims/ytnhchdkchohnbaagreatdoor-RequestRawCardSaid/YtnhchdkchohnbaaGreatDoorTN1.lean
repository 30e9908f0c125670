/- Merged by program out of: RefC RefD WireMathB NameMath NameMathB NameA NameB NameC NameD. -/
import Derived.Test.YtnhchdkchohnbaaGreatDoorTM1
import Derived.Test.YtnhchdkchohnbaaGreatDoorTM2
import Derived.Test.YtnhchdkchohnbaaGreatDoorTM3
import Derived.Test.YtnhchdkchohnbaaGreatDoorTM4
import Derived.Test.YtnhchdkchohnbaaGreatDoorTM5
import Derived.Test.YtnhchdkchohnbaaGreatDoorTM6
import Derived.Test.YtnhchdkchohnbaaGreatDoorTM7
import Derived.Test.YtnhchdkchohnbaaGreatDoorTM8
import Derived.Test.YtnhchdkchohnbaaGreatDoorTM9
import Derived.Handy
import Derived.Deep.Cut
import Derived.Lib.OthersKept
import Derived.WalkKit
import Derived.BigCall
import Derived.BigQuiet
import Derived.Laws.IdiomStrings
import Derived.WalkMore
/- The reference's reader: fail, Take. -/
namespace Go.Proofs.YtnhchdkchohnbaaGreatDoor
open Go.RowKit Go.Deep

/-! ### slices of an argument -/
def fromV (a : Option Addr) (len cap n : Nat) : Value := .slice (if cap = n then a else a.map (·.add (n * 1))) (len - n) (cap - n)
def uptoV (a : Option Addr) (cap n : Nat) : Value := .slice (if cap = 0 then a else a.map (·.add (0 * 1))) (n - 0) (cap - 0)
theorem elemU8 : Tryz.prog.underlying 24 = some (.slice (Tryz.prog.elem 24)) := by kernel_rfl
theorem run_from (w : World) (ad : Option Addr) (len cap n : Nat) (hn : n ≤ len) : (Instr.slice 24 (.slice ad len cap) (some (.int .i64 n)) none none).run Tryz.prog w = .ok (fromV ad len cap n) w := by
  unfold fromV
  have h1 : (0 : Int) ≤ (n : Int) ∧ (n : Int) ≤ (len : Int) := by omega
  simp [Instr.slice, Instr.sliceBounds, Instr.sliceBound, run_underlying Tryz.underlying24, go_sem, h1]
  intro h; omega
theorem run_upto (w : World) (ad : Option Addr) (len cap n : Nat) (hn : n ≤ cap) : (Instr.slice 24 (.slice ad len cap) none (some (.int .i64 n)) none).run Tryz.prog w = .ok (uptoV ad cap n) w := by
  unfold uptoV
  have h1 : (0 : Int) ≤ (n : Int) ∧ (n : Int) ≤ (cap : Int) := by omega
  simp [Instr.slice, Instr.sliceBounds, Instr.sliceBound, run_underlying Tryz.underlying24, go_sem, h1]
  intro h; omega
theorem exec_from {o : Oper} {a : Act} {w : World} {x y : Operand} {ad : Option Addr} {len cap n : Nat} (ho : o.op = .slice 24 x (some y) none none) (hx : a.eval x = .slice ad len cap) (hy : a.eval y = .int .i64 n) (hn : n ≤ len) :
    (execOp a.eval o).run Tryz.prog w = .ok (.value (fromV ad len cap n)) w := by
  unfold execOp
  simp only [ho, hx, hy, Option.map_some, Option.map_none, Sem.run_bind, Sem.run_pure, run_sliceAt_slice _ 24 _ _ _ _ elemU8, Result.andThen_ok, run_from w ad len cap n hn]
theorem exec_upto {o : Oper} {a : Act} {w : World} {x y : Operand} {ad : Option Addr} {len cap n : Nat} (ho : o.op = .slice 24 x none (some y) none) (hx : a.eval x = .slice ad len cap) (hy : a.eval y = .int .i64 n) (hn : n ≤ cap) :
    (execOp a.eval o).run Tryz.prog w = .ok (.value (uptoV ad cap n)) w := by
  unfold execOp
  simp only [ho, hx, hy, Option.map_some, Option.map_none, Sem.run_bind, Sem.run_pure, run_sliceAt_slice _ 24 _ _ _ _ elemU8, Result.andThen_ok, run_upto w ad len cap n hn]
theorem Rs.cap {w : World} {a : Option Addr} {n cap : Nat} {l : List Nat} (h : Rs w (.slice a n cap) l) : n = l.length ∧ n ≤ cap ∧ (a = none → n = 0 ∧ cap = 0) := by
  rcases h.2.2 with ⟨e, rfl⟩ | ⟨x, c, e, hc, _⟩
  · simp only [Value.slice.injEq] at e
    obtain ⟨rfl, rfl, rfl⟩ := e
    simp
  · simp only [Value.slice.injEq] at e
    obtain ⟨rfl, rfl, rfl⟩ := e
    exact ⟨rfl, hc.1, fun h => by cases h⟩
theorem Rs.fromV {w : World} {a : Option Addr} {cap n : Nat} {l : List Nat} (h : Rs w (.slice a l.length cap) l) (hn : n ≤ l.length) : Rs w (fromV a l.length cap n) (l.drop n) := by
  have hal := AllB.drop h.1 n
  have h63 := h.2.1
  unfold Proofs.YtnhchdkchohnbaaGreatDoor.fromV
  rcases h.2.2 with ⟨e, rfl⟩ | ⟨x, c, e, hc, hcell⟩
  · simp only [Value.slice.injEq] at e
    obtain ⟨rfl, _, rfl⟩ := e
    obtain rfl : n = 0 := by simpa using hn
    exact ⟨hal, by simp, .inl ⟨by simp, by simp⟩⟩
  · simp only [Value.slice.injEq] at e
    obtain ⟨rfl, _, rfl⟩ := e
    refine ⟨hal, by rw [List.length_drop]; omega, .inr ⟨if cap = n then x else x.add (n * 1), cap - n, ?_, ⟨by rw [List.length_drop]; omega, by omega⟩, ?_⟩⟩
    · rw [List.length_drop]
      split <;> rfl
    · intro i hi
      rw [List.length_drop] at hi
      rw [if_neg (by omega), getD_drop]
      have := hcell (n + i) (by omega)
      rw [← this]
      congr 1
      by_cases h1 : n = 0 <;> by_cases h2 : i = 0 <;> simp [Addr.add, Nat.add_assoc, h1, h2]
theorem Rs.uptoV {w : World} {a : Option Addr} {cap n : Nat} {l : List Nat} (h : Rs w (.slice a l.length cap) l) (hn : n ≤ l.length) : Rs w (uptoV a cap n) (l.take n) := by
  have hal := AllB.take h.1 n
  have h63 := h.2.1
  have hlt : (l.take n).length = n := by rw [List.length_take]; omega
  unfold Proofs.YtnhchdkchohnbaaGreatDoor.uptoV
  rcases h.2.2 with ⟨e, rfl⟩ | ⟨x, c, e, hc, hcell⟩
  · simp only [Value.slice.injEq] at e
    obtain ⟨rfl, _, rfl⟩ := e
    obtain rfl : n = 0 := by simpa using hn
    exact ⟨hal, by simp, .inl ⟨by simp, by simp⟩⟩
  · simp only [Value.slice.injEq] at e
    obtain ⟨rfl, _, rfl⟩ := e
    refine ⟨hal, by omega, .inr ⟨if cap = 0 then x else x.add (0 * 1), cap - 0, ?_, ⟨by omega, by omega⟩, ?_⟩⟩
    · rw [hlt]
      split <;> rfl
    · intro i hi
      rw [hlt] at hi
      rw [if_neg (by omega), getD_take _ _ _ hi]
      have := hcell i (by omega)
      rw [← this]
      rfl

section
variable {ops : Array Oper} {K : Act → World → Prop} {V : World} {B n : Nat} {listed : Array Bool} {a : Act} {w : World}
theorem q_append_rs {i : Nat} (d : Tmp) (s x : Operand) (g c : Nat) (l : List Nat) (x' : Value) (l2 : List Nat) (hst : stepB ops a i d = true) (ho : (opn ops i).op = .call { callee := .builtin .append, args := #[s, x], argTypes := #[24, 24] })
    (hs : a.eval s = .slice (some ⟨g, 0, none⟩) l.length c) (hx : a.eval x = x') (hBg : B ≤ g) (B2 : Nat) (hown : Own w B2 (.slice (some ⟨g, 0, none⟩) l.length c) l) (hB2 : B2 ≤ w.heap.size) (hsrc : Rs w x' l2) (hbytes : l.length + l2.length ≤ 140737488355328) (h0 : Below B V w) (hB : B ≤ V.heap.size)
    (h : ∀ (w' : World) (v' : Value), Own w' B2 v' (l ++ l2) → Kq B (some g) w w' → w.grownBy w' (some g) → Below B V w' → wpAnyH Tryz.prog .any ops (nq K) (fun w' => Below B V w') n (listed.setIfInBounds i true) (a.put (some d) v') w') :
    HStep Tryz.prog .any ops (nq K) (fun w' => Below B V w') n listed a w i (opn ops i) := by
  unfold stepB at hst
  simp only [Bool.and_eq_true] at hst
  have hwB : B ≤ w.heap.size := Nat.le_trans hB h0.size
  have hd := dst_at hst.1
  refine HStep.of_law #[] hst.2 fun K' hK' => ?_
  refine wpList_append_rs rfl s x ho B2 _ l hs hown x' l2 hx hsrc hbytes hB2 ?_
  intro v' w' ho' hgr
  have k := Kq.of_grown hwB hgr (fun q hq => by cases hq; exact hBg)
  have hS := h0.trans k.1
  refine hK' _ _ hS ?_
  rw [hd]
  exact h w' v' ho' k hgr hS
end

theorem exec_load_sl {o : Oper} {a : Act} {w : World} (x : Operand) (ad : Addr) (p : Option Addr) (m c : Nat) (ho : o.op = .load 24 x) (hx : a.eval x = .pointer (some ad)) (hc : w.cell? ad = some (.slice p m c)) :
    (execOp a.eval o).run Tryz.prog w = .ok (.value (.slice p m c)) w := by
  unfold execOp
  simp only [ho, hx]
  have hz : ((Tryz.prog).info? 24).map (·.size) = some 1 := by kernel_rfl
  have hu := Tryz.underlying24
  go_simp
theorem only_setRow0 (w : World) (g : Nat) (cs : Array Value) : w.grownBy (w.setRow g cs) (some g) :=
  ⟨rfl, rfl, rfl, by simp, fun k _ hk => by
    have : g ≠ k := fun e => hk (by rw [e])
    simp [World.setRow, Array.getElem?_modify, this]⟩

abbrev rdv (v : Value) (bad : Bool) : Value := .agg #[v, .bool bad]
set_option maxRecDepth 100000 in
theorem infoRd : (Tryz.prog.info? 87).map (·.size) = some 2 := by kernel_rfl
theorem results_cell_tmp2 {P : Program} {fn : Func} {p q : Tmp} {ty : TypeId} (h : fn.results = #[.cell p ty, .tmp q]) (tmps : Array Value) (w : World) (g : Nat) (t : TypeId) (cs : Array Value) (fr : Nat × Nat) (d : TypeDesc)
    (hp : tmps.getD p undef = .pointer (some ⟨g, 0, none⟩)) (hg : w.heap[g]? = some (.cells cs t fr))
    (hu : P.underlying ty = some d) (hd : (match d with | .struct _ | .array _ _ => true | _ => false) = true) (hi : (P.info? ty).map (·.size) = some cs.size) :
    (results fn tmps).run P w = .ok (.tuple #[.agg cs, tmps.getD q undef]) w := by
  have hp' : tmps[p]?.getD undef = .pointer (some ⟨g, 0, none⟩) := by simpa using hp
  simp [results, h, hp', asAddr, run_loadVar_row w g t ty cs fr d hg hu hd hi]
def RetT (w0 : World) (x : Wir.R × List Nat) (w : World) (e : Ending) (w' : World) : Prop :=
  ∃ u y, e = .returned (.tuple #[rdv u x.1.bad, y]) ∧ Rs w0 u x.1.l ∧ Own w' w.heap.size y x.2 ∧ Below w.heap.size w w'

set_option maxRecDepth 100000 in
set_option maxHeartbeats 400000 in
theorem reffail (w : World) :
    Calls Tryz.prog 84 #[] w fun e w' => e = .returned (rdv (.slice none 0 0) true) ∧ Below w.heap.size w w' := by
  go_enter Tryz.func84, Tryz.ntmps84
  go_wp2_with fail
  go_returns
  exact ⟨rfl, (Below.refl _ _).alloc (Nat.le_refl _) _⟩

theorem rd_two (w : World) (cs zs : Array Value) (t t' : TypeId) :
    Below w.heap.size w ((w.alloc (.cells cs t)).alloc (.cells zs t')) ∧ ((w.alloc (.cells cs t)).alloc (.cells zs t')).heap[w.heap.size]? = some (.cells cs t (0, 0)) ∧
      ((w.alloc (.cells cs t)).alloc (.cells zs t')).heap[w.heap.size + 1]? = some (.cells zs t' (0, 0)) ∧ ((w.alloc (.cells cs t)).alloc (.cells zs t')).heap.size = w.heap.size + 2 := by
  refine ⟨((Below.refl _ _).alloc (Nat.le_refl _) _).alloc (by simp) _, ?_, ?_, by simp⟩
  · rw [heap_alloc_old _ _ (by simp)]
    exact heap_alloc_new _ _
  · exact heap_alloc2_new _ _ _

set_option maxRecDepth 100000 in
set_option maxHeartbeats 400000 in
theorem reftake_bad (w0 : World) (v : Value) (l : List Nat) (bad : Bool) (n : Int) (w : World) (h : Rs w v l) (hb : bad = true ∨ n < 0 ∨ (l.length : Int) < n) :
    Calls Tryz.prog 85 #[rdv v bad, .int .i64 n] w (RetT w0 (Wir.failed, []) w) := by
  obtain ⟨a, cap, rfl⟩ := h.form
  clear h
  have H2 := Lib.hid (rd_two w #[.slice a l.length cap, .bool bad] #[.slice none 0 0, .bool false] 87 87)
  have key : (bad = true) ∨ (bad = false ∧ decide (n < 0) = true) ∨ (bad = false ∧ decide (n < 0) = false ∧ decide ((l.length : Int) < n) = true) := by
    cases bad
    · by_cases h1 : n < 0
      · exact .inr (.inl ⟨rfl, by simpa using h1⟩)
      · exact .inr (.inr ⟨rfl, by simpa using h1, by rcases hb with h | h | h <;> first | (cases h; done) | omega | (simpa using h)⟩)
    · exact .inl rfl
  clear hb
  rcases key with rfl | ⟨rfl, d1⟩ | ⟨rfl, d1, d2⟩
  all_goals
    go_enter Tryz.func85, Tryz.ntmps85
    go_wp2_with fail
    refine (reffail _).mono ?_
    rintro e w1 ⟨rfl, hb1⟩
    have hr := (hb1.block (w.heap.size + 1) (by rw [H2.out.2.2.2]; omega)).trans H2.out.2.2.1
    have B1 := Lib.hid (H2.out.1.trans (hb1.mono (by rw [H2.out.2.2.2]; omega)))
    clear hb1
    obtain ⟨c0, c1, f0, f1⟩ := two_cells hr
    have sz : w.heap.size + 1 < w1.heap.size := by
      have := (Array.getElem?_eq_some_iff.1 hr).1
      exact this
    have HR := Lib.hid hr; clear hr
    go_wp2_with fail
    exact bodyPost_ret (results_cell_tmp2 rfl _ _ (w.heap.size + 1) _ _ (0, 0) _ rfl (two_set1 (two_set0 HR.out)) rfl rfl infoRd) rfl ⟨_, _, rfl, (Bs.nil _).rs, Own.nil _ _, (B1.out.setCell (by simp) _).setCell (by simp) _⟩

attribute [local irreducible] wpAnyH in
set_option maxRecDepth 100000 in
set_option maxHeartbeats 400000 in
theorem reftake_ok (w0 : World) (v : Value) (l : List Nat) (n : Nat) (w : World) (h : Rs w0 v l) (hb : Below w0.heap.size w0 w) (hn : n ≤ l.length) (hl : l.length ≤ 140737488355328) :
    Calls Tryz.prog 85 #[rdv v false, .int .i64 n] w (RetT w0 (⟨l.drop n, false⟩, l.take n) w) := by
  obtain ⟨a, cap, rfl⟩ := h.form
  have hcap := (h.cap).2.1
  have H := Lib.hid (h.below hb)
  have H0 := Lib.hid (h.fromV hn); clear h hb
  have H2 := Lib.hid (rd_two w #[.slice a l.length cap, .bool false] #[.slice none 0 0, .bool false] 87 87)
  have d1 : decide ((n : Int) < 0) = false := by simp
  have d2 : decide ((l.length : Int) < (n : Int)) = false := by simp; omega
  go_enter Tryz.func85, Tryz.ntmps85
  go_upto_region 3 with fail
  obtain ⟨V, hV⟩ : ∃ V, V = (w.alloc (.cells #[.slice a l.length cap, .bool false] 87)).alloc (.cells #[.slice none 0 0, .bool false] 87) := ⟨_, rfl⟩
  rw [← hV]
  have VB : Below w.heap.size w V := by rw [hV]; exact H2.out.1
  have VS : V.heap.size = w.heap.size + 2 := by rw [hV]; exact H2.out.2.2.2
  have V0 : V.heap[w.heap.size]? = some (.cells #[.slice a l.length cap, .bool false] 87 (0, 0)) := by rw [hV]; exact H2.out.2.1
  have V1 : V.heap[w.heap.size + 1]? = some (.cells #[.slice none 0 0, .bool false] 87 (0, 0)) := by rw [hV]; exact H2.out.2.2.1
  clear hV
  have LD : ∀ w', Below (w.heap.size + 1) V w' → w'.cell? ⟨w.heap.size, 0, none⟩ = some (.slice a l.length cap) := fun w' h => by
    have := (h.block w.heap.size (by omega)).trans V0
    simp [World.cell?, this]
  refine wp_reg Tryz.f85 3 13 (fun w' => Below (w.heap.size + 1) V w') (by kernel_rfl) (by kernel_rfl) (by kernel_rfl) (below_drewN (Below.refl _ _) 1) (fun K hK h0 => ?_)
  refine reg_cast (listed' := #[false, false, false, false, false, false, false, false, false, false, false, false, false]) (by kernel_rfl) rfl ?_
  have HF := Lib.hid hK; clear hK
  refine reg_take 0 20 (.pointer (some ⟨w.heap.size, 0, none⟩)) (by kernel_rfl) (fun _ _ => by kernel_rfl) h0 ?_
  simp only [Act.put, List.setIfInBounds_toArray, List.set_cons_zero, List.set_cons_succ]
  refine reg_take 1 21 (.slice a l.length cap) (by kernel_rfl) (fun w' h => exec_load_sl (.tmp 20) ⟨w.heap.size, 0, none⟩ a l.length cap (by kernel_rfl) (by kernel_rfl) (LD w' h)) h0 ?_
  simp only [Act.put, List.setIfInBounds_toArray, List.set_cons_zero, List.set_cons_succ]
  refine reg_take 2 22 (.int .i64 n) (by kernel_rfl) (fun _ _ => by kernel_rfl) h0 ?_
  simp only [Act.put, List.setIfInBounds_toArray, List.set_cons_zero, List.set_cons_succ]
  refine reg_take 3 23 (fromV a l.length cap n) (by kernel_rfl) (fun _ _ => exec_from (x := .tmp 21) (y := .tmp 22) (by kernel_rfl) (by kernel_rfl) (by kernel_rfl) hn) h0 ?_
  simp only [Act.put, List.setIfInBounds_toArray, List.set_cons_zero, List.set_cons_succ]
  generalize hfv : fromV a l.length cap n = fv at H0 ⊢
  refine reg_take 4 24 (.agg #[fv, .bool false]) (by kernel_rfl) (fun _ _ => by kernel_rfl) h0 ?_
  simp only [Act.put, List.setIfInBounds_toArray, List.set_cons_zero, List.set_cons_succ]
  refine reg_take 6 26 (.pointer (some ⟨w.heap.size, 0, none⟩)) (by kernel_rfl) (fun _ _ => by kernel_rfl) h0 ?_
  simp only [Act.put, List.setIfInBounds_toArray, List.set_cons_zero, List.set_cons_succ]
  refine reg_take 7 27 (.slice a l.length cap) (by kernel_rfl) (fun w' h => exec_load_sl (.tmp 26) ⟨w.heap.size, 0, none⟩ a l.length cap (by kernel_rfl) (by kernel_rfl) (LD w' h)) h0 ?_
  simp only [Act.put, List.setIfInBounds_toArray, List.set_cons_zero, List.set_cons_succ]
  refine reg_take 8 28 (.int .i64 n) (by kernel_rfl) (fun _ _ => by kernel_rfl) h0 ?_
  simp only [Act.put, List.setIfInBounds_toArray, List.set_cons_zero, List.set_cons_succ]
  refine reg_take 9 29 (uptoV a cap n) (by kernel_rfl) (fun _ _ => exec_upto (x := .tmp 27) (y := .tmp 28) (len := l.length) (by kernel_rfl) (by kernel_rfl) (by kernel_rfl) (by omega)) h0 ?_
  simp only [Act.put, List.setIfInBounds_toArray, List.set_cons_zero, List.set_cons_succ]
  have RU : ∀ w', Below (w.heap.size + 1) V w' → Rs w' (uptoV a cap n) (l.take n) := fun w' h => (H.out.below (VB.trans (h.mono (by omega)))).uptoV hn
  have hone : (#[fv, .bool false] : Array Value).all (·.oneCell') = true := by rw [← hfv]; simp [fromV, Value.oneCell']
  clear hfv
  generalize uptoV a cap n = uv at RU ⊢
  have hB : w.heap.size + 1 ≤ V.heap.size := by omega
  refine reg_one 5 (by kernel_rfl) (by kernel_rfl) (q_lay 25 (fun g => .slice (some ⟨g, 0, none⟩) 0 0) (([] : List Nat).map bv).toArray 5 (by kernel_rfl) h0 hB (by kernel_rfl) ?_)
  intro w1 g1 hB1 hg hz kq gr h0 hr
  have V2 := (gr.block (w.heap.size + 1) (by show _ < V.heap.size; omega) (by simp)).trans V1
  have hg2 : V.heap.size ≤ g1 := by rw [hg]; exact Nat.le_refl _
  have f5 := OwnAt.of_raw (l := []) hr AllB.nil hg2 (by decide) rfl
  simp only [Act.put, List.setIfInBounds_toArray, List.set_cons_zero, List.set_cons_succ]
  refine reg_one 10 (by kernel_rfl) (by kernel_rfl) (q_append_rs 30 (.tmp 25) (.tmp 29) g1 0 [] uv (l.take n) (by kernel_rfl) (by kernel_rfl) (by kernel_rfl) (by kernel_rfl) (by omega) V.heap.size f5.2.2 (by omega) (RU _ h0) (by rw [List.length_take]; simp; omega) h0 hB ?_)
  intro w2 v2 ho2 kq gr h0
  have V3 := (gr.block (w.heap.size + 1) (by omega) (by simp; omega)).trans V2
  simp only [Act.put, List.setIfInBounds_toArray, List.set_cons_zero, List.set_cons_succ]
  refine reg_one 11 (by kernel_rfl) (by kernel_rfl) (q_row 87 (.tmp 4) (.tmp 24) (w.heap.size + 1) #[fv, .bool false] 87 #[.slice none 0 0, .bool false] (by kernel_rfl) (by kernel_rfl) (by kernel_rfl) (by kernel_rfl) V3 infoRd rfl hone (Nat.le_refl _) h0 ?_)
  intro h0 V4
  simp only [List.setIfInBounds_toArray, List.set_cons_zero, List.set_cons_succ]
  refine reg_take 12 5 (v2) (by kernel_rfl) (fun _ _ => by kernel_rfl) h0 ?_
  simp only [Act.put, List.setIfInBounds_toArray, List.set_cons_zero, List.set_cons_succ]
  refine reg_done (by kernel_rfl) (HF.out _ _ ?_)
  have ho3 := ho2.only (only_setRow0 w2 (w.heap.size + 1) #[fv, .bool false]) (by
    cases hv : v2.ownBlock with
    | none => exact .inl rfl
    | some q => exact .inr (fun e => by have := (ho2.lt q hv).1; cases e; omega))
  have B3 : Below w.heap.size w (w2.setRow (w.heap.size + 1) #[fv, .bool false]) := VB.trans (h0.mono (by omega))
  clear HF
  go_wp2_with fail
  exact bodyPost_ret (results_cell_tmp2 rfl _ _ (w.heap.size + 1) _ _ (0, 0) _ rfl V4 rfl rfl infoRd) rfl ⟨_, _, rfl, H0.out, ho3.mono (by omega), B3⟩

theorem reftake_any (w0 : World) (v : Value) (r : Wir.R) (n : Int) (w : World) (h : Rs w0 v r.l) (hbw : Below w0.heap.size w0 w) (hl : r.l.length ≤ 140737488355328) :
    Calls Tryz.prog 85 #[rdv v r.bad, .int .i64 n] w (RetT w0 (Wir.take r n) w) := by
  obtain ⟨l, bad⟩ := r
  by_cases hb : bad = true ∨ n < 0 ∨ (l.length : Int) < n
  · have e : Wir.take ⟨l, bad⟩ n = (Wir.failed, []) := by
      unfold Wir.take
      split
      · rfl
      · unfold Wir.next
        rw [if_pos (by
          rcases hb with h | h | h
          · exact .inl h
          · omega
          · right; show l.length < n.toNat; omega)]
        rfl
    rw [e]
    exact reftake_bad w0 v l bad n w (h.below hbw) hb
  · obtain ⟨m, rfl⟩ := Int.eq_ofNat_of_zero_le (show 0 ≤ n by omega)
    obtain rfl : bad = false := by cases bad <;> simp_all
    have e : Wir.take ⟨l, false⟩ (m : Int) = (⟨l.drop m, false⟩, l.take m) := by
      unfold Wir.take
      rw [if_neg (by omega)]
      unfold Wir.next
      rw [if_neg (by simp; omega)]
      rfl
    rw [e]
    exact reftake_ok w0 v l m w h hbw (by omega) hl
end Go.Proofs.YtnhchdkchohnbaaGreatDoor
/- The reference's reader: Number, String. -/
namespace Go.Proofs.YtnhchdkchohnbaaGreatDoor
open Go.RowKit Go.Deep

def Wir.num (r : Wir.R) (k : Int) : Wir.R × Nat := ((Wir.number r k).1, (Wir.number r k).2.getD 0)
def RetN (w0 : World) (x : Wir.R × Nat) (w : World) (e : Ending) (w' : World) : Prop :=
  ∃ u, e = .returned (.tuple #[rdv u x.1.bad, .int .u64 x.2]) ∧ Rs w0 u x.1.l ∧ Below w.heap.size w w'

set_option maxRecDepth 100000 in
set_option maxHeartbeats 400000 in
theorem refnum_out (w0 : World) (v : Value) (l : List Nat) (bad : Bool) (k : Int) (w : World) (h : Rs w v l) (hk : k < 1 ∨ 8 < k) :
    Calls Tryz.prog 50 #[rdv v bad, .int .i64 k] w (RetN w0 (Wir.failed, 0) w) := by
  obtain ⟨a, cap, rfl⟩ := h.form
  clear h
  have H2 := Lib.hid (rd_two w #[.slice a l.length cap, .bool bad] #[.slice none 0 0, .bool false] 87 87)
  have key : decide (k < 1) = true ∨ (decide (k < 1) = false ∧ decide (8 < k) = true) := by
    by_cases h1 : k < 1
    · exact .inl (by simpa using h1)
    · exact .inr ⟨by simpa using h1, by simp; omega⟩
  clear hk
  rcases key with d1 | ⟨d1, d2⟩
  all_goals
    go_enter Tryz.func50, Tryz.ntmps50
    go_wp2_with fail
    refine (reffail _).mono ?_
    rintro e w1 ⟨rfl, hb1⟩
    have hr := (hb1.block (w.heap.size + 1) (by rw [H2.out.2.2.2]; omega)).trans H2.out.2.2.1
    have B1 := Lib.hid (H2.out.1.trans (hb1.mono (by rw [H2.out.2.2.2]; omega)))
    clear hb1
    obtain ⟨c0, c1, f0, f1⟩ := two_cells hr
    have sz : w.heap.size + 1 < w1.heap.size := by
      have := (Array.getElem?_eq_some_iff.1 hr).1
      exact this
    have HR := Lib.hid hr; clear hr
    go_wp2_with fail
    exact bodyPost_ret (results_cell_tmp2 rfl _ _ (w.heap.size + 1) _ _ (0, 0) _ rfl (two_set1 (two_set0 HR.out)) rfl rfl infoRd) rfl ⟨_, rfl, (Bs.nil _).rs, (B1.out.setCell (by simp) _).setCell (by simp) _⟩

set_option maxRecDepth 100000 in
set_option maxHeartbeats 800000 in
theorem refnum_in (w0 : World) (v : Value) (r : Wir.R) (k : Nat) (w : World) (h : Rs w0 v r.l) (hbw : Below w0.heap.size w0 w) (hl : r.l.length ≤ 140737488355328) (hk1 : 1 ≤ k) (hk8 : k ≤ 8) :
    Calls Tryz.prog 50 #[rdv v r.bad, .int .i64 k] w (RetN w0 ((Wir.take r k).1, Wir.be (Wir.take r k).2) w) := by
  obtain ⟨a, cap, rfl⟩ := h.form
  have H2 := Lib.hid (rd_two w #[.slice a r.l.length cap, .bool r.bad] #[.slice none 0 0, .bool false] 87 87)
  have TK : ∀ w1, Below w.heap.size w w1 → Calls Tryz.prog 85 #[rdv (.slice a r.l.length cap) r.bad, .int .i64 k] w1 (RetT w0 (Wir.take r k) w1) := fun w1 hb => reftake_any w0 _ r k w1 h (hbw.trans (hb.mono hbw.size)) hl
  clear h hbw
  have hlen : (Wir.take r k).2.length ≤ 8 := by
    unfold Wir.take Wir.next
    split
    · simp
    · split
      · simp
      · simp [List.length_take]; omega
  generalize r.bad = bad at *
  generalize r.l.length = len at *
  generalize Wir.take r k = t at *
  obtain ⟨⟨sl, sb⟩, b⟩ := t
  have TK := Lib.hid TK
  have d1 : decide ((k : Int) < 1) = false := by simp; omega
  have d2 : decide (8 < (k : Int)) = false := by simp; omega
  go_enter Tryz.func50, Tryz.ntmps50
  go_wp2_with fail
  refine (TK.out _ H2.out.1).mono ?_
  rintro e w1 ⟨u, y, rfl, hu, hy, hb1⟩
  have hr := (hb1.block (w.heap.size + 1) (by rw [H2.out.2.2.2]; omega)).trans H2.out.2.2.1
  have B1 := Lib.hid (H2.out.1.trans (hb1.mono (by rw [H2.out.2.2.2]; omega)))
  have HY := Lib.hid hy.bs
  have HU := Lib.hid hu
  obtain ⟨ya, yc, rfl⟩ := hy.form
  obtain ⟨ua, uc, rfl⟩ := hu.form
  clear hb1 hy hu
  have HR := Lib.hid hr; clear hr
  go_wp2_with fail
  have M : Below w.heap.size w (w1.alloc (.cells #[.slice ua sl.length uc, .bool sb] 87)) ∧ (w1.alloc (.cells #[.slice ua sl.length uc, .bool sb] 87)).heap[w1.heap.size]? = some (.cells #[.slice ua sl.length uc, .bool sb] 87 (0, 0)) ∧
      (w1.alloc (.cells #[.slice ua sl.length uc, .bool sb] 87)).heap[w.heap.size + 1]? = some (.cells #[.slice none 0 0, .bool false] 87 (0, 0)) ∧
      Rs (w1.alloc (.cells #[.slice ua sl.length uc, .bool sb] 87)) (.slice ya b.length yc) b := by
    have hlt := (Array.getElem?_eq_some_iff.1 HR.out).1
    have hb : Below w1.heap.size w1 (w1.alloc (.cells #[.slice ua sl.length uc, .bool sb] 87)) := (Below.refl _ _).alloc (Nat.le_refl _) _
    exact ⟨B1.out.trans (hb.mono B1.out.size), heap_alloc_new _ _, (hb.block _ hlt).trans HR.out, HY.out.rs.below hb⟩
  have M := Lib.hid M
  clear HR B1 HY TK H2
  generalize w1.alloc (.cells #[.slice ua sl.length uc, .bool sb] 87) = W at M ⊢
  generalize w1.heap.size = g at M ⊢
  go_loopw [8, 9] (fun x i wr => ∃ j : Nat, j ≤ b.length ∧ x = .int .u64 ↑(Wir.be (b.take j)) ∧ i = .int .i64 j ∧ wr = W) (fun _ i _ => b.length - (intOf i).toNat)
  case atStart => exact ⟨0, by omega, by simp [Wir.be], rfl, rfl⟩
  case round =>
    obtain ⟨j, hj, rfl, rfl, rfl⟩ := hrel
    by_cases hlt : j < b.length
    · obtain ⟨yb, yo, rfl, hc⟩ := M.out.2.2.2.at (k := j) hlt
      have c := hc j hlt
      clear hc
      have hx := M.out.2.2.2.1.get j
      have hsn := Lib.hid (Wir.be_snoc b j hlt)
      have hbl := Wir.be_lt b M.out.2.2.2.1 j (by omega)
      have hbp : 256 ^ j ≤ 72057594037927936 := by
        have : 256 ^ j ≤ 256 ^ 7 := Nat.pow_le_pow_right (by omega) (by omega)
        exact Nat.le_trans this (by decide)
      generalize b.getD j 0 = q at c hx hsn
      have hbl : Wir.be (b.take j) < 72057594037927936 := by omega
      clear hbp
      generalize Wir.be (b.take j) = z at hbl hsn ⊢
      have lj : (j : Int) < (b.length : Int) := by omega
      go_wp2_with fail
      go_roundw
      case rel => exact ⟨j + 1, by omega, by rw [hsn.out]; go_num, by go_num, by first | rfl | trivial⟩
      case measure => simp [intOf]; omega
    · obtain rfl : j = b.length := by omega
      have hd : decide ((b.length : Int) < (b.length : Int)) = false := by simp
      rw [List.take_length]
      obtain ⟨s0, s1, _, _⟩ := two_cells M.out.2.1
      obtain ⟨c0, c1, f0, f1⟩ := two_cells M.out.2.2.1
      have hbl := Wir.be_lt b M.out.2.2.2.1 b.length (by omega)
      rw [List.take_length] at hbl
      have hbp : 256 ^ b.length ≤ 18446744073709551616 := by
        have : 256 ^ b.length ≤ 256 ^ 8 := Nat.pow_le_pow_right (by omega) (by omega)
        exact Nat.le_trans this (by decide)
      have hbl : Wir.be b < 18446744073709551616 := by omega
      clear hbp
      clear hlt hj
      go_wp2_with fail
      exact bodyPost_ret (results_cell_tmp2 rfl _ _ (w.heap.size + 1) _ _ (0, 0) _ rfl (two_set1 (two_set0 M.out.2.2.1)) rfl rfl infoRd) rfl ⟨_, rfl, HU.out, (M.out.1.setCell (by simp) _).setCell (by simp) _⟩

theorem refnum_any (w0 : World) (v : Value) (r : Wir.R) (k : Int) (w : World) (h : Rs w0 v r.l) (hbw : Below w0.heap.size w0 w) (hl : r.l.length ≤ 140737488355328) :
    Calls Tryz.prog 50 #[rdv v r.bad, .int .i64 k] w (RetN w0 (Wir.num r k) w) := by
  by_cases hk : k < 1 ∨ 8 < k
  · have e : Wir.num r k = (Wir.failed, 0) := by unfold Wir.num Wir.number; rw [if_pos hk]; rfl
    rw [e]
    exact refnum_out w0 v r.l r.bad k w (h.below hbw) hk
  · obtain ⟨m, rfl⟩ := Int.eq_ofNat_of_zero_le (show 0 ≤ k by omega)
    have e : Wir.num r (m : Int) = ((Wir.take r m).1, Wir.be (Wir.take r m).2) := by
      unfold Wir.num Wir.number Wir.take
      rw [if_neg hk, if_neg (by omega)]
      cases (Wir.next r (m : Int).toNat).2 <;> rfl
    rw [e]
    exact refnum_in w0 v r m w h hbw hl (by omega) (by omega)

theorem string_take (r : Wir.R) (k : Int) : Wir.string r k = if (Wir.num r k).1.bad then (Wir.failed, []) else Wir.take (Wir.num r k).1 ((Wir.num r k).2 : Int) := by
  unfold Wir.string Wir.num Wir.number
  by_cases hk : k < 1 ∨ 8 < k
  · rw [if_pos hk]; simp [Wir.failed]
  · rw [if_neg hk]
    unfold Wir.next
    by_cases hb : r.bad = true ∨ r.l.length < k.toNat
    · rw [if_pos hb]; simp [Wir.failed]
    · rw [if_neg hb]
      simp [Wir.take, Wir.next]
      intro h; omega
theorem num_len (r : Wir.R) (k : Int) : (Wir.num r k).1.l.length ≤ r.l.length := by
  unfold Wir.num Wir.number
  by_cases hk : k < 1 ∨ 8 < k
  · rw [if_pos hk]; simp [Wir.failed]
  · rw [if_neg hk]
    unfold Wir.next
    by_cases hb : r.bad = true ∨ r.l.length < k.toNat
    · rw [if_pos hb]; simp [Wir.failed]
    · rw [if_neg hb]; simp
theorem num_lt (r : Wir.R) (k : Int) (h : AllB r.l) : (Wir.num r k).2 < 18446744073709551616 := by
  unfold Wir.num
  cases hn : (Wir.number r k).2 with
  | none => simp
  | some n => exact number_lt h hn

set_option maxRecDepth 100000 in
set_option maxHeartbeats 800000 in
theorem refstr_any (w0 : World) (v : Value) (r : Wir.R) (k : Int) (w : World) (h : Rs w0 v r.l) (hbw : Below w0.heap.size w0 w) (hl : r.l.length ≤ 140737488355328) :
    Calls Tryz.prog 83 #[rdv v r.bad, .int .i64 k] w (RetT w0 (Wir.string r k) w) := by
  obtain ⟨a, cap, rfl⟩ := h.form
  have H2 := Lib.hid (rd_two w #[.slice a r.l.length cap, .bool r.bad] #[.slice none 0 0, .bool false] 87 87)
  have NM : ∀ w1, Below w.heap.size w w1 → Calls Tryz.prog 50 #[rdv (.slice a r.l.length cap) r.bad, .int .i64 k] w1 (RetN w0 (Wir.num r k) w1) := fun w1 hb => refnum_any w0 _ r k w1 h (hbw.trans (hb.mono hbw.size)) hl
  have NM := Lib.hid NM
  have BW := Lib.hid hbw
  have hlt64 := num_lt r k h.1
  clear h hbw
  go_enter Tryz.func83, Tryz.ntmps83
  go_wp2_with fail
  refine (NM.out _ H2.out.1).mono ?_
  rintro e w1 ⟨u, rfl, hu, hb1⟩
  have hr := (hb1.block (w.heap.size + 1) (by rw [H2.out.2.2.2]; omega)).trans H2.out.2.2.1
  have B1 := Lib.hid (H2.out.1.trans (hb1.mono (by rw [H2.out.2.2.2]; omega)))
  have HU := Lib.hid hu
  obtain ⟨ua, uc, rfl⟩ := hu.form
  clear hb1 hu
  have HR := Lib.hid hr; clear hr
  have M : Below w.heap.size w (w1.alloc (.cells #[.slice ua (Wir.num r k).1.l.length uc, .bool (Wir.num r k).1.bad] 87)) ∧
      (w1.alloc (.cells #[.slice ua (Wir.num r k).1.l.length uc, .bool (Wir.num r k).1.bad] 87)).heap[w1.heap.size]? = some (.cells #[.slice ua (Wir.num r k).1.l.length uc, .bool (Wir.num r k).1.bad] 87 (0, 0)) ∧
      (w1.alloc (.cells #[.slice ua (Wir.num r k).1.l.length uc, .bool (Wir.num r k).1.bad] 87)).heap[w.heap.size + 1]? = some (.cells #[.slice none 0 0, .bool false] 87 (0, 0)) := by
    have hlt := (Array.getElem?_eq_some_iff.1 HR.out).1
    have hb : Below w1.heap.size w1 (w1.alloc (.cells #[.slice ua (Wir.num r k).1.l.length uc, .bool (Wir.num r k).1.bad] 87)) := (Below.refl _ _).alloc (Nat.le_refl _) _
    exact ⟨B1.out.trans (hb.mono B1.out.size), heap_alloc_new _ _, (hb.block _ hlt).trans HR.out⟩
  have M := Lib.hid M
  have hnl : (Wir.num r k).1.l.length ≤ 140737488355328 := Nat.le_trans (num_len r k) hl
  have hn64 := hlt64
  clear hlt64
  have hst := string_take r k
  generalize (Wir.num r k).2 = n at *
  generalize (Wir.num r k).1 = s at *
  obtain ⟨sl, sb⟩ := s
  have hT : ∀ w', Below w.heap.size w w' → Calls Tryz.prog 85 #[rdv (.slice ua sl.length uc) sb, .int .i64 n] w' (RetT w0 (Wir.take ⟨sl, sb⟩ n) w') := fun w' hb => reftake_any w0 _ ⟨sl, sb⟩ n w' HU.out (BW.out.trans (hb.mono BW.out.size)) hnl
  have HT := Lib.hid hT; clear hT
  have HST := Lib.hid hst; clear hst
  clear NM HR B1 BW
  by_cases hc : sb = true ∨ sl.length < n
  · have hst2 : Wir.string r k = (Wir.failed, []) := by
      rw [HST.out]
      split
      · rfl
      · unfold Wir.take Wir.next
        rw [if_neg (by omega), if_pos (by rcases hc with h | h; exact .inl h; right; simpa using h)]
        rfl
    have HS2 := Lib.hid hst2; clear hst2
    have key : sb = true ∨ (sb = false ∧ sl.length < n) := by
      cases sb
      · exact .inr ⟨rfl, by rcases hc with h | h; cases h; exact h⟩
      · exact .inl rfl
    clear hc
    rcases key with rfl | ⟨rfl, d1⟩
    all_goals
      go_wp2_with fail
      refine (reffail _).mono ?_
      rintro e w2 ⟨rfl, hb2⟩
      have hr := (hb2.block (w.heap.size + 1) ((Array.getElem?_eq_some_iff.1 M.out.2.2).1)).trans M.out.2.2
      have B2 := Lib.hid (M.out.1.trans (hb2.mono M.out.1.size))
      clear hb2
      obtain ⟨c0, c1, f0, f1⟩ := two_cells hr
      have HR := Lib.hid hr; clear hr
      go_wp2_with fail
      rw [HS2.out]
      exact bodyPost_ret (results_cell_tmp2 rfl _ _ (w.heap.size + 1) _ _ (0, 0) _ rfl (two_set1 (two_set0 HR.out)) rfl rfl infoRd) rfl ⟨_, _, rfl, (Bs.nil _).rs, Own.nil _ _, (B2.out.setCell (by simp) _).setCell (by simp) _⟩
  · obtain rfl : sb = false := by cases sb <;> simp_all
    have hc : n ≤ sl.length := by omega
    have d1 : decide ((sl.length : Int) < (n : Int)) = false := by simp; omega
    have d3 : decide (sl.length < n) = false := by simp; omega
    have hst2 : Wir.string r k = Wir.take ⟨sl, false⟩ n := by rw [HST.out]; rfl
    have HS2 := Lib.hid hst2; clear hst2
    go_wp2_with fail
    refine (HT.out _ M.out.1).mono ?_
    rintro e w2 ⟨u2, y2, rfl, hu2, hy2, hb2⟩
    have hr := (hb2.block (w.heap.size + 1) ((Array.getElem?_eq_some_iff.1 M.out.2.2).1)).trans M.out.2.2
    have B2 := Lib.hid (M.out.1.trans (hb2.mono M.out.1.size))
    have HY := Lib.hid hy2
    have HU2 := Lib.hid hu2
    obtain ⟨ya, yc, rfl⟩ := hy2.form
    obtain ⟨u2a, u2c, rfl⟩ := hu2.form
    have HN : Hid ((Value.slice ya _ yc).ownBlock = none ∨ (Value.slice ya _ yc).ownBlock ≠ some (w.heap.size + 1)) := Lib.hid (by
      cases hv : (Value.slice ya _ yc).ownBlock with
      | none => exact .inl rfl
      | some q => exact .inr (fun e => by
          have h1 := (hy2.lt q hv).1
          have h2 := (Array.getElem?_eq_some_iff.1 M.out.2.2).1
          cases e; omega))
    clear hb2 hy2 hu2
    obtain ⟨c0, c1, f0, f1⟩ := two_cells hr
    have HR := Lib.hid hr; clear hr
    go_wp2_with fail
    rw [HS2.out]
    exact bodyPost_ret (results_cell_tmp2 rfl _ _ (w.heap.size + 1) _ _ (0, 0) _ rfl (two_set1 (two_set0 HR.out)) rfl rfl infoRd) rfl ⟨_, _, rfl, HU2.out, ((HY.out.only (only_set (only_set (only_refl _ _) 0 _) 1 _) (HN.out)).mono (by have := M.out.1.size; simpa using this)), (B2.out.setCell (by simp) _).setCell (by simp) _⟩
end Go.Proofs.YtnhchdkchohnbaaGreatDoor
/- Plain mathematics: what was put is read again. No program in sight. -/
namespace Wir
theorem next_app (l t : List Nat) : next ⟨l ++ t, false⟩ l.length = (⟨t, false⟩, some l) := by
  unfold next
  rw [if_neg (by simp)]
  simp
theorem number_put {k : Int} {x : Nat} {l : List Nat} (h : putNumber k x = some l) (t : List Nat) : number ⟨l ++ t, false⟩ k = (⟨t, false⟩, some x) := by
  unfold putNumber at h
  split at h
  · cases h
  · rename_i hk
    split at h
    · rename_i hx
      simp at h
      subst h
      unfold number
      rw [if_neg hk]
      have hl : (enc k.toNat x).length = k.toNat := enc_length _ _
      have := next_app (enc k.toNat x) t
      rw [hl] at this
      rw [this]
      simp [be_enc _ _ hx]
    · cases h
theorem string_put {k : Int} {l m : List Nat} (h : putString k l = some m) (t : List Nat) : string ⟨m ++ t, false⟩ k = (⟨t, false⟩, l) := by
  unfold putString at h
  cases hp : putNumber k l.length with
  | none => rw [hp] at h; cases h
  | some hd =>
    rw [hp] at h
    simp at h
    subst h
    unfold string
    rw [List.append_assoc, number_put hp (l ++ t)]
    simp only [next_app]
    rfl
end Wir
/- Layer 11 in plain Lean: words, texts, the two parsers. No function of the program. -/
namespace Nam
abbrev W := List UInt8
structure N where
  realm : W
  parts : List W
def none0 : N := ⟨[], []⟩
def okc (c : UInt8) : Bool := decide (33 ≤ c) && decide (c ≤ 126)
def word (l : W) : Bool := decide (1 ≤ l.length) && decide (l.length ≤ 100) && l.all okc
def valid (n : N) : Bool := word n.realm && decide (1 ≤ n.parts.length) && decide (n.parts.length ≤ 8) && n.parts.all word
def esc (c : UInt8) : Bool := c == 47 || c == 64 || c == 92
def escape (l : W) : W := l.flatMap fun c => if esc c then [92, c] else [c]
def slashed : List W → W
  | [] => []
  | [p] => escape p
  | p :: q :: ps => escape p ++ 47 :: slashed (q :: ps)
def text (n : N) : W := if valid n then slashed n.parts ++ 64 :: escape n.realm else []
theorem escape_nil : escape [] = [] := rfl
theorem escape_cons (c : UInt8) (l : W) : escape (c :: l) = (if esc c then [92, c] else [c]) ++ escape l := rfl
/-! ### the program's parser -/
def scan : W → W → Option (W × W)
  | [], b => if word b then some (b, []) else none
  | c :: t, b =>
    if c = 47 ∨ c = 64 then (if word b then some (b, c :: t) else none)
    else if c = 92 then (match t with
      | [] => none
      | d :: t' => if esc d = false then none else if b.length = 100 then none else scan t' (b ++ [d]))
    else if b.length = 100 then none else scan t (b ++ [c])
def stop (r : W) : Prop := r = [] ∨ ∃ c t, r = c :: t ∧ (c = 47 ∨ c = 64)
theorem word_len {l : W} (h : word l = true) : 1 ≤ l.length ∧ l.length ≤ 100 := by
  unfold word at h
  simp only [Bool.and_eq_true, decide_eq_true_eq] at h
  exact h.1
theorem esc_iff (c : UInt8) : esc c = true ↔ c = 47 ∨ c = 64 ∨ c = 92 := by
  unfold esc; simp [or_assoc]
theorem scan_some : ∀ (s b w r : W), scan s b = some (w, r) → ∃ u, w = b ++ u ∧ s = escape u ++ r ∧ stop r ∧ word w = true
  | [], b, w, r, h => by
    unfold scan at h
    split at h
    · rename_i hw
      simp only [Option.some.injEq, Prod.mk.injEq] at h
      obtain ⟨rfl, rfl⟩ := h
      exact ⟨[], by simp, by simp [escape], .inl rfl, hw⟩
    · cases h
  | c :: t, b, w, r, h => by
    unfold scan at h
    split at h
    · rename_i hc
      split at h
      · rename_i hw
        simp only [Option.some.injEq, Prod.mk.injEq] at h
        obtain ⟨rfl, rfl⟩ := h
        exact ⟨[], by simp, by simp [escape], .inr ⟨c, t, rfl, hc⟩, hw⟩
      · cases h
    · rename_i hc
      split at h
      · rename_i h92
        match t, h with
        | [], h => cases h
        | d :: t', h =>
          dsimp only at h
          split at h
          · cases h
          · rename_i hd
            split at h
            · cases h
            · obtain ⟨u, h1, h2, h3, h4⟩ := scan_some t' (b ++ [d]) w r h
              have hd' : esc d = true := by cases hh : esc d with | true => rfl | false => exact absurd hh hd
              exact ⟨d :: u, by rw [h1]; simp, by rw [h2, escape_cons, if_pos hd', h92]; simp, h3, h4⟩
      · rename_i h92
        split at h
        · cases h
        · obtain ⟨u, h1, h2, h3, h4⟩ := scan_some t (b ++ [c]) w r h
          have he : esc c = false := by
            cases hh : esc c with
            | false => rfl
            | true => rcases (esc_iff c).1 hh with h | h | h
                      · exact absurd (.inl h) hc
                      · exact absurd (.inr h) hc
                      · exact absurd h h92
          exact ⟨c :: u, by rw [h1]; simp, by rw [h2, escape_cons, he]; simp, h3, h4⟩
theorem scan_of : ∀ (u b r : W), stop r → word (b ++ u) = true → scan (escape u ++ r) b = some (b ++ u, r)
  | [], b, r, hr, hw => by
    rw [List.append_nil] at hw ⊢
    rw [escape_nil, List.nil_append]
    rcases hr with rfl | ⟨c, t, rfl, hc⟩
    · unfold scan; rw [if_pos hw]
    · unfold scan; rw [if_pos hc, if_pos hw]
  | c :: u, b, r, hr, hw => by
    have hl := (word_len hw).2
    have hb : ¬ b.length = 100 := by simp at hl; omega
    have ih := scan_of u (b ++ [c]) r hr (by simpa using hw)
    rw [escape_cons]
    cases he : esc c with
    | true =>
      simp only [if_true, List.cons_append, List.nil_append]
      unfold scan
      rw [if_neg (by decide), if_pos rfl]
      dsimp only
      rw [if_neg (by rw [he]; decide), if_neg hb, ih]; simp
    | false =>
      simp only [Bool.false_eq_true, if_false, List.cons_append, List.nil_append]
      have h1 : ¬ (c = 47 ∨ c = 64) := fun h => by
        have := (esc_iff c).2 (h.elim .inl (fun h => .inr (.inl h))); rw [he] at this; cases this
      have h2 : ¬ c = 92 := fun h => by
        have := (esc_iff c).2 (.inr (.inr h)); rw [he] at this; cases this
      unfold scan
      rw [if_neg h1, if_neg h2, if_neg hb, ih]; simp
theorem scan_iff (s w r : W) : scan s [] = some (w, r) ↔ s = escape w ++ r ∧ stop r ∧ word w = true := by
  constructor
  · intro h
    obtain ⟨u, rfl, h2, h3, h4⟩ := scan_some s [] w r h
    exact ⟨by simpa using h2, h3, h4⟩
  · rintro ⟨rfl, h2, h3⟩
    simpa using scan_of w [] r h2 (by simpa using h3)

def parseK (fuel : Nat) (s : W) (ps : List W) : Option N := match fuel with
  | 0 => none
  | fuel + 1 => match scan s [] with
    | none => none
    | some (w, r) => if r = [] ∨ ps.length = 8 then none else match r with
      | [] => none
      | c :: t => if c = 64 then (match scan t [] with
          | some (x, []) => some ⟨x, ps ++ [w]⟩
          | _ => none) else parseK fuel t (ps ++ [w])
def parse (s : W) : Option N := parseK (s.length + 1) s []
theorem slashed_cons (p : W) (ps : List W) (h : ps ≠ []) : slashed (p :: ps) = escape p ++ 47 :: slashed ps := by
  cases ps with
  | nil => exact absurd rfl h
  | cons q qs => rfl
theorem parseK_some : ∀ (f : Nat) (s : W) (ps : List W) (n : N), ps.length ≤ 8 → parseK f s ps = some n → ∃ qs, qs ≠ [] ∧ n.parts = ps ++ qs ∧ s = slashed qs ++ 64 :: escape n.realm ∧ word n.realm = true ∧ qs.all word = true ∧ ps.length + qs.length ≤ 8
  | 0, _, _, _, _, h => by cases h
  | f + 1, s, ps, n, hps, h => by
    unfold parseK at h
    cases hs : scan s [] with
    | none => rw [hs] at h; cases h
    | some x =>
      obtain ⟨w, r⟩ := x
      rw [hs] at h
      obtain ⟨h1, h2, h3⟩ := (scan_iff s w r).1 hs
      dsimp only at h
      split at h
      · cases h
      · rename_i hr
        match r, h with
        | [], h => cases h
        | c :: t, h =>
          dsimp only at h
          split at h
          · rename_i hc
            cases hx : scan t [] with
            | none => rw [hx] at h; cases h
            | some y =>
              obtain ⟨x, r2⟩ := y
              rw [hx] at h
              match r2, h, hx with
              | [], h, hx =>
                simp only [Option.some.injEq] at h
                subst h
                obtain ⟨k1, _, k3⟩ := (scan_iff t x []).1 hx
                refine ⟨[w], by simp, rfl, ?_, k3, by simpa using h3, ?_⟩
                · rw [h1, k1, hc]; simp [slashed]
                · simp; omega
              | _ :: _, h, _ => cases h
          · rename_i hc
            obtain ⟨qs, k1, k2, k3, k4, k5, k6⟩ := parseK_some f t (ps ++ [w]) n (by simp; omega) h
            have hc47 : c = 47 := by
              rcases h2 with h2 | ⟨c', t', h2, h2'⟩
              · cases h2
              · cases h2
                rcases h2' with h | h
                · exact h
                · exact absurd h hc
            refine ⟨w :: qs, by simp, by rw [k2]; simp, ?_, k4, ?_, ?_⟩
            · rw [slashed_cons _ _ k1, h1, k3, hc47]; simp
            · simp only [List.all_cons, Bool.and_eq_true]; exact ⟨h3, k5⟩
            · simp at k6 ⊢; omega
theorem parseK_of : ∀ (qs : List W) (f : Nat) (ps : List W) (x : W), qs ≠ [] → word x = true → qs.all word = true → ps.length + qs.length ≤ 8 → (slashed qs ++ 64 :: escape x).length < f → parseK f (slashed qs ++ 64 :: escape x) ps = some ⟨x, ps ++ qs⟩
  | _, 0, _, _, _, _, _, _, h => absurd h (Nat.not_lt_zero _)
  | [], _, _, _, h, _, _, _, _ => absurd rfl h
  | [w], f + 1, ps, x, _, hx, hw, hl, hf => by
    have hw' : word w = true := by simpa using hw
    have hs : scan (escape w ++ 64 :: escape x) [] = some (w, 64 :: escape x) := (scan_iff _ _ _).2 ⟨rfl, .inr ⟨_, _, rfl, .inr rfl⟩, hw'⟩
    have ht : scan (escape x) [] = some (x, []) := (scan_iff _ _ _).2 ⟨by simp, .inl rfl, hx⟩
    unfold parseK
    show (match scan (escape w ++ 64 :: escape x) [] with | none => none | some (w, r) => _) = _
    rw [hs]
    dsimp only
    rw [if_neg (by simp at hl ⊢; omega), if_pos rfl, ht]
  | w :: q :: qs, f + 1, ps, x, _, hx, hw, hl, hf => by
    simp only [List.all_cons, Bool.and_eq_true] at hw
    have e : slashed (w :: q :: qs) ++ 64 :: escape x = escape w ++ 47 :: (slashed (q :: qs) ++ 64 :: escape x) := by rw [slashed_cons _ _ (by simp)]; simp
    have hs : scan (escape w ++ 47 :: (slashed (q :: qs) ++ 64 :: escape x)) [] = some (w, 47 :: (slashed (q :: qs) ++ 64 :: escape x)) := (scan_iff _ _ _).2 ⟨rfl, .inr ⟨_, _, rfl, .inl rfl⟩, hw.1⟩
    rw [e] at hf ⊢
    unfold parseK
    rw [hs]
    dsimp only
    rw [if_neg (by simp at hl ⊢; omega), if_neg (by decide)]
    rw [parseK_of (q :: qs) f (ps ++ [w]) x (by simp) hx (by simp only [List.all_cons, Bool.and_eq_true]; exact hw.2) (by simp at hl ⊢; omega) (by simp at hf ⊢; omega)]
    simp
theorem valid_iff (n : N) : valid n = true ↔ word n.realm = true ∧ n.parts ≠ [] ∧ n.parts.length ≤ 8 ∧ n.parts.all word = true := by
  unfold valid
  simp only [Bool.and_eq_true, decide_eq_true_eq]
  constructor
  · rintro ⟨⟨⟨a, b⟩, c⟩, d⟩
    exact ⟨a, by intro h; rw [h] at b; simp at b, c, d⟩
  · rintro ⟨a, b, c, d⟩
    refine ⟨⟨⟨a, ?_⟩, c⟩, d⟩
    cases h : n.parts with
    | nil => exact absurd h b
    | cons _ _ => simp
theorem parse_iff (s : W) (n : N) : parse s = some n ↔ valid n = true ∧ text n = s := by
  unfold parse
  constructor
  · intro h
    obtain ⟨qs, h1, h2, h3, h4, h5, h6⟩ := parseK_some _ _ _ _ (by simp) h
    have h2' : n.parts = qs := by simpa using h2
    have hv : valid n = true := (valid_iff n).2 ⟨h4, by rw [h2']; exact h1, by rw [h2']; simpa using h6, by rw [h2']; exact h5⟩
    exact ⟨hv, by unfold text; rw [if_pos hv, h2', h3]⟩
  · rintro ⟨hv, ht⟩
    obtain ⟨a, b, c, d⟩ := (valid_iff n).1 hv
    unfold text at ht
    rw [if_pos hv] at ht
    subst ht
    have := parseK_of n.parts ((slashed n.parts ++ 64 :: escape n.realm).length + 1) [] n.realm b a d (by simpa using c) (Nat.lt_succ_self _)
    rw [this]
    cases n; simp

/-! ### the reference's parser -/
def split (sign : UInt8) : W → W → List W
  | [], cur => [cur]
  | [c], cur => if c = 92 then [cur ++ [c]] else if c = sign then [cur, []] else [cur ++ [c]]
  | c :: d :: t, cur => if c = 92 then split sign t (cur ++ [c, d]) else if c = sign then cur :: split sign (d :: t) [] else split sign (d :: t) (cur ++ [c])
def plain : W → W
  | [] => []
  | [c] => [c]
  | c :: d :: t => if c = 92 then d :: plain t else c :: plain (d :: t)
def refParse (s : W) : Option N := match split 64 s [] with
  | [a, b] => (fun n : N => if valid n = true ∧ text n = s then some n else none) ⟨plain b, (split 47 a []).map plain⟩
  | _ => none
theorem split_step (sign : UInt8) (c : UInt8) (t cur : W) (h1 : c ≠ 92) (h2 : c ≠ sign) : split sign (c :: t) cur = split sign t (cur ++ [c]) := by
  cases t with
  | nil => unfold split; rw [if_neg h1, if_neg h2]
  | cons d t => conv => lhs; unfold split
                rw [if_neg h1, if_neg h2]
theorem split_sign (sign : UInt8) (t cur : W) (h : sign ≠ 92) : split sign (sign :: t) cur = cur :: split sign t [] := by
  cases t with
  | nil => unfold split; rw [if_neg h, if_pos rfl]
  | cons d t => conv => lhs; unfold split
                rw [if_neg h, if_pos rfl]
theorem split_back (sign d : UInt8) (t cur : W) : split sign (92 :: d :: t) cur = split sign t (cur ++ [92, d]) := by
  conv => lhs; unfold split
  rw [if_pos rfl]
theorem split_escape (sign : UInt8) (hs : sign = 47 ∨ sign = 64) : ∀ (w r cur : W), split sign (escape w ++ r) cur = split sign r (cur ++ escape w)
  | [], r, cur => by simp [escape]
  | c :: w, r, cur => by
    rw [escape_cons]
    cases he : esc c with
    | true =>
      simp only [if_true, List.cons_append, List.nil_append]
      rw [split_back, split_escape sign hs w r]; simp
    | false =>
      simp only [Bool.false_eq_true, if_false, List.cons_append, List.nil_append]
      have hn : ∀ x, x = 47 ∨ x = 64 ∨ x = 92 → c ≠ x := fun x hx hc => by
        have := (esc_iff c).2 (by rw [hc]; exact hx); rw [he] at this; cases this
      rw [split_step sign c _ _ (hn 92 (.inr (.inr rfl))) (hn sign (hs.elim .inl (fun h => .inr (.inl h)))), split_escape sign hs w r]; simp
theorem split_slashed64 : ∀ (ps : List W) (r cur : W), split 64 (slashed ps ++ r) cur = split 64 r (cur ++ slashed ps)
  | [], r, cur => by simp [slashed]
  | [p], r, cur => split_escape 64 (.inr rfl) p r cur
  | p :: q :: ps, r, cur => by
    rw [slashed_cons _ _ (by simp), List.append_assoc, split_escape 64 (.inr rfl), List.cons_append, split_step 64 47 _ _ (by decide) (by decide), split_slashed64 (q :: ps)]
    simp
theorem split_slashed47 : ∀ (ps : List W), ps ≠ [] → split 47 (slashed ps) [] = ps.map escape
  | [], h => absurd rfl h
  | [p], _ => by
    have := split_escape 47 (.inl rfl) p [] []
    simp only [List.append_nil, List.nil_append] at this
    show split 47 (escape p) [] = _
    rw [this]; rfl
  | p :: q :: ps, _ => by
    rw [slashed_cons _ _ (by simp), split_escape 47 (.inl rfl), split_sign 47 _ _ (by decide), split_slashed47 (q :: ps) (by simp)]
    simp
theorem plain_step (c : UInt8) (t : W) (h : c ≠ 92) : plain (c :: t) = c :: plain t := by
  cases t with
  | nil => rfl
  | cons d t => conv => lhs; unfold plain
                rw [if_neg h]
theorem plain_back (d : UInt8) (t : W) : plain (92 :: d :: t) = d :: plain t := by
  conv => lhs; unfold plain
  rw [if_pos rfl]
theorem plain_escape : ∀ w : W, plain (escape w) = w
  | [] => rfl
  | c :: w => by
    rw [escape_cons]
    cases he : esc c with
    | true =>
      simp only [if_true, List.cons_append, List.nil_append]
      rw [plain_back, plain_escape w]
    | false =>
      simp only [Bool.false_eq_true, if_false, List.cons_append, List.nil_append]
      rw [plain_step c _ (fun h => by have := (esc_iff c).2 (.inr (.inr h)); rw [he] at this; cases this), plain_escape w]
theorem refParse_iff (s : W) (n : N) : refParse s = some n ↔ valid n = true ∧ text n = s := by
  constructor
  · intro h
    unfold refParse at h
    split at h
    · dsimp only at h
      split at h
      · rename_i hh
        simp only [Option.some.injEq] at h
        subst h; exact hh
      · cases h
    · cases h
  · rintro ⟨hv, ht⟩
    obtain ⟨a, b, c, d⟩ := (valid_iff n).1 hv
    have ht' := ht
    unfold text at ht'
    rw [if_pos hv] at ht'
    have e : split 64 s [] = [slashed n.parts, escape n.realm] := by
      rw [← ht', split_slashed64, split_sign 64 _ _ (by decide)]
      have := split_escape 64 (.inr rfl) n.realm [] []
      simp only [List.append_nil, List.nil_append] at this
      rw [this]; simp [split]
    unfold refParse
    rw [e]
    dsimp only
    rw [split_slashed47 _ b, plain_escape, List.map_map, show (plain ∘ escape) = id from funext plain_escape, List.map_id]
    rw [if_pos ⟨hv, ht⟩]
theorem parse_ref (s : W) : parse s = refParse s := by
  cases h : parse s with
  | some n => exact ((refParse_iff s n).2 ((parse_iff s n).1 h)).symm
  | none =>
    cases h2 : refParse s with
    | none => rfl
    | some n => rw [(parse_iff s n).2 ((refParse_iff s n).1 h2)] at h; cases h
end Nam
/- Layer 11 in plain Lean: the bytes of a name, and reading them. No function of the program. -/
namespace Go.Proofs.YtnhchdkchohnbaaGreatDoor
namespace Nam
open _root_.Nam
def toN (l : W) : List Nat := l.map UInt8.toNat
def fromN (l : List Nat) : W := l.map UInt8.ofNat
theorem from_to (l : W) : fromN (toN l) = l := by
  unfold fromN toN
  rw [List.map_map]
  have : (UInt8.ofNat ∘ UInt8.toNat) = id := funext fun x => by simp
  rw [this, List.map_id]
theorem to_from (l : List Nat) (h : ∀ x, x ∈ l → x < 256) : toN (fromN l) = l := by
  unfold fromN toN
  rw [List.map_map]
  conv => rhs; rw [← List.map_id l]
  apply List.map_congr_left
  intro x hx
  have := h x hx
  simp; omega
theorem toN_length (l : W) : (toN l).length = l.length := by simp [toN]
theorem fromN_length (l : List Nat) : (fromN l).length = l.length := by simp [fromN]
theorem toN_all (l : W) : ∀ x, x ∈ toN l → x < 256 := fun x hx => by
  obtain ⟨c, _, rfl⟩ := List.mem_map.1 hx
  exact c.toNat_lt
def sized (l : W) : List Nat := l.length :: toN l
def bytes (n : N) : List Nat := sized n.realm ++ n.parts.length :: (n.parts.map sized).flatten
def loopR : Nat → Wir.R → List W → Wir.R × List W
  | 0, r, ps => (r, ps)
  | k + 1, r, ps => loopR k (Wir.string r 1).1 (ps ++ [fromN (Wir.string r 1).2])
def refRead (r : Wir.R) : Wir.R × Option N :=
  ((loopR (min (Wir.num (Wir.string r 1).1 1).2 9) (Wir.num (Wir.string r 1).1 1).1 []).1,
    if (loopR (min (Wir.num (Wir.string r 1).1 1).2 9) (Wir.num (Wir.string r 1).1 1).1 []).1.bad = true ∨ valid ⟨fromN (Wir.string r 1).2, (loopR (min (Wir.num (Wir.string r 1).1 1).2 9) (Wir.num (Wir.string r 1).1 1).1 []).2⟩ = false then none
    else some ⟨fromN (Wir.string r 1).2, (loopR (min (Wir.num (Wir.string r 1).1 1).2 9) (Wir.num (Wir.string r 1).1 1).1 []).2⟩)
theorem loopR_ext : ∀ (k : Nat) (r : Wir.R) (ps : List W), ∃ qs, (loopR k r ps).2 = ps ++ qs ∧ qs.length = k
  | 0, _, _ => ⟨[], by simp [loopR], rfl⟩
  | k + 1, r, ps => by
    obtain ⟨qs, h, hl⟩ := loopR_ext k (Wir.string r 1).1 (ps ++ [fromN (Wir.string r 1).2])
    exact ⟨fromN (Wir.string r 1).2 :: qs, by show (loopR k _ _).2 = _; rw [h]; simp, by simp [hl]⟩
theorem loopR_snoc : ∀ (k : Nat) (r : Wir.R) (ps : List W), loopR (k + 1) r ps = ((Wir.string (loopR k r ps).1 1).1, (loopR k r ps).2 ++ [fromN (Wir.string (loopR k r ps).1 1).2])
  | 0, _, _ => rfl
  | k + 1, r, ps => by
    show loopR (k + 1) (Wir.string r 1).1 (ps ++ [fromN (Wir.string r 1).2]) = _
    rw [loopR_snoc k]; rfl
theorem loopR_word {k j : Nat} {r : Wir.R} (hj : j < k) (h : word (fromN (Wir.string (loopR j r []).1 1).2) = false) : (loopR k r []).2.all word = false := by
  induction k with
  | zero => exact absurd hj (Nat.not_lt_zero _)
  | succ k ih =>
    rw [loopR_snoc]
    simp only [List.all_append, List.all_cons, List.all_nil, Bool.and_true]
    by_cases e : j = k
    · subst e; rw [h, Bool.and_false]
    · rw [ih (by omega), Bool.false_and]
theorem refRead_realm {r : Wir.R} (h : word (fromN (Wir.string r 1).2) = false) : (refRead r).2 = none := by
  unfold refRead
  exact if_pos (.inr (by unfold valid; simp [h]))
theorem refRead_number {r : Wir.R} (h : (Wir.num (Wir.string r 1).1 1).2 < 1 ∨ 8 < (Wir.num (Wir.string r 1).1 1).2) : (refRead r).2 = none := by
  unfold refRead
  refine if_pos (.inr ?_)
  obtain ⟨qs, h1, h2⟩ := loopR_ext (min (Wir.num (Wir.string r 1).1 1).2 9) (Wir.num (Wir.string r 1).1 1).1 []
  rw [List.nil_append] at h1
  rw [h1]
  unfold valid
  rcases h with h | h
  · have : ¬ 1 ≤ qs.length := by omega
    simp [this]
  · have : ¬ qs.length ≤ 8 := by omega
    simp [this]
theorem refRead_part {r : Wir.R} {k j : Nat} (hk : (Wir.num (Wir.string r 1).1 1).2 = k) (hk8 : k ≤ 8) (hj : j < k) (h : word (fromN (Wir.string (loopR j (Wir.num (Wir.string r 1).1 1).1 []).1 1).2) = false) : (refRead r).2 = none := by
  unfold refRead
  refine if_pos (.inr ?_)
  rw [hk, show min k 9 = k by omega]
  unfold valid
  dsimp only
  rw [loopR_word hj h, Bool.and_false]
theorem refRead_end {r : Wir.R} {k : Nat} (hw : word (fromN (Wir.string r 1).2) = true) (hk : (Wir.num (Wir.string r 1).1 1).2 = k) (hk1 : 1 ≤ k) (hk8 : k ≤ 8) (h : (loopR k (Wir.num (Wir.string r 1).1 1).1 []).2.all word = true) :
    refRead r = ((loopR k (Wir.num (Wir.string r 1).1 1).1 []).1, if (loopR k (Wir.num (Wir.string r 1).1 1).1 []).1.bad = true then none else some ⟨fromN (Wir.string r 1).2, (loopR k (Wir.num (Wir.string r 1).1 1).1 []).2⟩) := by
  unfold refRead
  rw [hk, show min k 9 = k by omega]
  obtain ⟨qs, h1, h2⟩ := loopR_ext k (Wir.num (Wir.string r 1).1 1).1 []
  rw [List.nil_append] at h1
  have hv : valid ⟨fromN (Wir.string r 1).2, (loopR k (Wir.num (Wir.string r 1).1 1).1 []).2⟩ = true := by
    unfold valid
    simp only [Bool.and_eq_true, decide_eq_true_eq]
    refine ⟨⟨⟨hw, ?_⟩, ?_⟩, h⟩
    · rw [h1]; omega
    · rw [h1]; omega
  rw [hv]
  simp

/-! ### reading the bytes of a name -/
theorem string_sized (l : W) (t : List Nat) (h : l.length < 256) : Wir.string ⟨sized l ++ t, false⟩ 1 = (⟨t, false⟩, toN l) := by
  refine Wir.string_put (k := 1) (l := toN l) (m := sized l) ?_ t
  unfold Wir.putString Wir.putNumber
  rw [toN_length, if_neg (by omega), if_pos (by simpa using h)]
  simp [Wir.enc, sized, Nat.mod_eq_of_lt h]
theorem num_one (k : Nat) (t : List Nat) (h : k < 256) : Wir.num ⟨k :: t, false⟩ 1 = (⟨t, false⟩, k) := by
  have e : Wir.putNumber 1 k = some [k] := by
    unfold Wir.putNumber
    rw [if_neg (by omega), if_pos (by simpa using h)]
    simp [Wir.enc, Nat.mod_eq_of_lt h]
  have := Wir.number_put e t
  unfold Wir.num
  rw [show ([k] ++ t : List Nat) = k :: t from rfl] at this
  rw [this]; rfl
theorem loopR_bytes : ∀ (qs : List W) (t : List Nat) (ps : List W), (∀ q, q ∈ qs → q.length < 256) → loopR qs.length ⟨(qs.map sized).flatten ++ t, false⟩ ps = (⟨t, false⟩, ps ++ qs)
  | [], t, ps, _ => by simp [loopR]
  | q :: qs, t, ps, h => by
    have e := string_sized q ((qs.map sized).flatten ++ t) (h q (by simp))
    show loopR qs.length (Wir.string ⟨(List.map sized (q :: qs)).flatten ++ t, false⟩ 1).1 _ = _
    have e2 : (List.map sized (q :: qs)).flatten ++ t = sized q ++ ((qs.map sized).flatten ++ t) := by simp
    rw [e2, e]
    dsimp only
    rw [from_to, loopR_bytes qs t _ (fun x hx => h x (by simp [hx]))]
    simp
theorem word_lt {l : W} (h : word l = true) : l.length < 256 := by have := word_len h; omega
theorem refRead_bytes (n : N) (t : List Nat) (hv : valid n = true) : refRead ⟨bytes n ++ t, false⟩ = (⟨t, false⟩, some n) := by
  obtain ⟨a, b, c, d⟩ := (valid_iff n).1 hv
  have e1 := string_sized n.realm (n.parts.length :: ((n.parts.map sized).flatten ++ t)) (word_lt a)
  have e0 : bytes n ++ t = sized n.realm ++ (n.parts.length :: ((n.parts.map sized).flatten ++ t)) := by simp [bytes]
  have e2 := num_one n.parts.length ((n.parts.map sized).flatten ++ t) (by omega)
  have e3 := loopR_bytes n.parts t [] (fun q hq => word_lt (List.all_eq_true.1 d q hq))
  have hp : 1 ≤ n.parts.length := by
    cases h : n.parts with
    | nil => exact absurd h b
    | cons _ _ => simp
  rw [e0]
  rw [refRead_end (k := n.parts.length) (by rw [e1]; dsimp only; rw [from_to]; exact a) (by rw [e1]; dsimp only; rw [e2]) hp c (by rw [e1]; dsimp only; rw [e2]; dsimp only; rw [e3]; simpa using d)]
  rw [e1]; dsimp only
  rw [e2]; dsimp only
  rw [e3, from_to]
  simp
theorem flat_len : ∀ (ps : List W), ps.all word = true → ((ps.map sized).flatten).length ≤ 101 * ps.length
  | [], _ => by simp
  | p :: ps, h => by
    simp only [List.all_cons, Bool.and_eq_true] at h
    have := flat_len ps h.2
    have hp := (word_len h.1).2
    simp only [List.map_cons, List.flatten_cons, List.length_append, List.length_cons, sized, toN_length]
    omega
theorem bytes_len {n : N} (hv : valid n = true) : (bytes n).length ≤ 910 := by
  obtain ⟨a, b, c, d⟩ := (valid_iff n).1 hv
  have := flat_len n.parts d
  have ha := (word_len a).2
  unfold bytes
  simp only [List.length_append, List.length_cons, sized, toN_length]
  omega
end Nam
end Go.Proofs.YtnhchdkchohnbaaGreatDoor
/- Layer 11: words, in the program and in the reference. -/
namespace Go.Proofs.YtnhchdkchohnbaaGreatDoor
open Go.RowKit Go.Deep

abbrev bl (s : ByteArray) : Nam.W := s.data.toList
theorem bl_length (s : ByteArray) : (bl s).length = s.size := rfl
theorem bl_get (s : ByteArray) (i : Nat) (h : i < s.size) : (s[i]'h) = (bl s).getD i 0 := by
  have : i < (bl s).length := by rw [bl_length]; exact h
  simp only [List.getD, List.getElem?_eq_getElem this, Option.getD_some]
  simp [bl]; rfl
theorem take_snoc (l : Nam.W) (i : Nat) (h : i < l.length) : l.take (i + 1) = l.take i ++ [l.getD i 0] := by
  rw [List.take_add_one]
  simp [List.getD, h]
theorem all_take_snoc (l : Nam.W) (p : UInt8 → Bool) (i : Nat) (h : i < l.length) : (l.take (i + 1)).all p = ((l.take i).all p && p (l.getD i 0)) := by
  rw [take_snoc l i h, List.all_append]; simp
theorem all_take_false (l : Nam.W) (p : UInt8 → Bool) (i : Nat) (h : i < l.length) (hp : p (l.getD i 0) = false) : l.all p = false := by
  rw [← List.take_append_drop (i + 1) l, List.all_append, all_take_snoc l p i h, hp]; simp
theorem word_short {s : ByteArray} (h : s.size < 1 ∨ 100 < s.size) : Nam.word (bl s) = false := by
  unfold Nam.word
  rw [bl_length]
  rcases h with h | h
  · have : ¬ 1 ≤ s.size := by omega
    simp [this]
  · have : ¬ s.size ≤ 100 := by omega
    simp [this]
theorem word_bad {s : ByteArray} {i : Nat} (h : i < s.size) (hp : Nam.okc ((bl s).getD i 0) = false) : Nam.word (bl s) = false := by
  unfold Nam.word
  rw [all_take_false _ _ i (by rw [bl_length]; exact h) hp, Bool.and_false]
theorem word_good {s : ByteArray} (h1 : ¬ s.size < 1) (h2 : ¬ 100 < s.size) (hp : ((bl s).take s.size).all Nam.okc = true) : Nam.word (bl s) = true := by
  unfold Nam.word
  rw [← bl_length, List.take_length] at hp
  rw [hp, bl_length]
  simp; omega
theorem okc_nat (c : UInt8) : Nam.okc c = (decide (33 ≤ c.toNat) && decide (c.toNat ≤ 126)) := by
  unfold Nam.okc
  congr 1
theorem only_iterAt {a w : World} {r : Option Nat} (h : a.grownBy w r) {k : Nat} (hk : a.heap.size ≤ k) (s : ByteArray) (pos : Nat) : a.grownBy (w.iterAt k s pos) r :=
  ⟨h.os, h.tape, h.output, by rw [Lib.iterAt_size]; exact h.size, fun i hi hn => (Lib.iterAt_other w k i s pos (by omega)).trans (h.block i hi hn)⟩

set_option maxRecDepth 100000 in
set_option maxHeartbeats 1000000 in
theorem word_any (s : ByteArray) (w : World) (hs : s.size ≤ maxLen) :
    Calls Tryz.prog 89 #[.string s] w fun e w' => e = .returned (.bool (Nam.word (bl s))) ∧ w.grownBy w' none := by
  unfold maxLen at hs
  by_cases h1 : s.size < 1
  · have HF := Lib.hid (word_short (.inl h1))
    go_enter Tryz.func89, Tryz.ntmps89
    go_wp2
    all_goals first | omega | skip
    all_goals (go_ret; exact ⟨by rw [HF.out]; rfl, only_refl _ _⟩)
  by_cases h2 : 100 < s.size
  · have HF := Lib.hid (word_short (.inr h2))
    go_enter Tryz.func89, Tryz.ntmps89
    go_wp2
    all_goals first | omega | skip
    all_goals (go_ret; exact ⟨by rw [HF.out]; rfl, only_refl _ _⟩)
  go_enter Tryz.func89, Tryz.ntmps89
  go_wp2
  all_goals first | omega | skip
  go_loopw [] (fun wr => ∃ pos, pos ≤ s.size ∧ wr.heap[w.heap.size]? = some (.stringIter s pos) ∧ w.grownBy wr none ∧ ((bl s).take pos).all Nam.okc = true) (fun wr => s.size - wr.iterPos w.heap.size)
  case atStart => exact ⟨0, Nat.zero_le _, World.iter_heap w s 0, only_alloc (only_refl _ _) _, rfl⟩
  case round =>
    obtain ⟨pos, hle, hit, hg, hall⟩ := hrel
    by_cases hp : pos < s.size
    · by_cases ha : (s[pos]'hp).toNat < 128
      · have hnx : ∀ ty, (Instr.next (.pointer (some ⟨w.heap.size, 0, none⟩)) true ty).run Tryz.prog wr = _ := fun ty => Lib.run_next_ascii_at wr w.heap.size s pos ty hit hp ha
        have hc := bl_get s pos hp
        rw [hc] at hnx
        have hit2 := Lib.iterAt_heap wr w.heap.size s pos (pos + 1) hit
        have hg2 := only_iterAt hg (Nat.le_refl _) s (pos + 1)
        by_cases hok : Nam.okc ((bl s).getD pos 0) = true
        · have hall2 : ((bl s).take (pos + 1)).all Nam.okc = true := by rw [all_take_snoc _ _ _ (by rw [bl_length]; exact hp), hall, hok]; rfl
          rw [okc_nat] at hok
          simp only [Bool.and_eq_true, decide_eq_true_eq] at hok
          generalize ((bl s).getD pos 0).toNat = c at hnx hok
          have HA := Lib.hid hall2
          clear hall hall2 hc ha
          go_wp2
          all_goals first | omega | skip
          go_roundw
          case rel => exact ⟨pos + 1, hp, hit2, hg2, HA.out⟩
          case measure =>
            simp only [World.iterPos, hit2, hit]
            omega
        · have hok' : Nam.okc ((bl s).getD pos 0) = false := by simpa using hok
          have HF := Lib.hid (word_bad hp hok')
          rw [okc_nat] at hok'
          simp only [Bool.and_eq_false_iff, decide_eq_false_iff_not] at hok'
          generalize ((bl s).getD pos 0).toNat = c at hnx hok'
          clear hall hc ha hok
          go_wp2
          all_goals first | omega | skip
          all_goals (go_ret; exact ⟨by rw [HF.out]; rfl, hg2⟩)
      · have hnx : ∀ ty, (Instr.next (.pointer (some ⟨w.heap.size, 0, none⟩)) true ty).run Tryz.prog wr = _ := fun ty => Lib.run_next_any_at wr w.heap.size s pos ty hit hp
        have hd := (decode_high s pos hp (by omega)).1
        have hc := bl_get s pos hp
        rw [hc] at ha
        have HF := Lib.hid (word_bad hp (by rw [okc_nat]; simp only [Bool.and_eq_false_iff, decide_eq_false_iff_not]; omega))
        have hg2 := only_iterAt hg (Nat.le_refl _) s (pos + (Utf8.decode s pos).2)
        generalize (Utf8.decode s pos).1 = c at hnx hd
        generalize (Utf8.decode s pos).2 = d at hnx hg2
        clear hall hc ha
        go_wp2
        all_goals first | omega | skip
        all_goals (go_ret; exact ⟨by rw [HF.out]; rfl, hg2⟩)
    · have hnx : ∀ ty, (Instr.next (.pointer (some ⟨w.heap.size, 0, none⟩)) true ty).run Tryz.prog wr = _ := fun ty => Lib.run_next_end_at wr w.heap.size s pos ty hit hp
      obtain rfl : pos = s.size := by omega
      have HF := Lib.hid (word_good h1 h2 hall)
      clear hall
      go_wp2
      go_ret
      exact ⟨by rw [HF.out]; rfl, hg⟩

theorem ix_run (s : ByteArray) (i : Nat) (h : i < s.size) (w : World) : (Instr.index 9 (.string s) (.int .i64 (i : Int))).run Tryz.prog w = .ok (.int .u8 ((bl s).getD i 0).toNat) w := by
  rw [run_index_string w _ s _ _ Tryz.underlying9, dif_pos ⟨by omega, by omega⟩]
  simp only [Int.toNat_natCast]
  rw [bl_get]
set_option maxRecDepth 100000 in
set_option maxHeartbeats 1000000 in
theorem refword_any (s : ByteArray) (w : World) (hs : s.size ≤ maxLen) :
    Calls Tryz.prog 78 #[.string s] w fun e w' => e = .returned (.bool (Nam.word (bl s))) ∧ w.grownBy w' none := by
  unfold maxLen at hs
  go_enter Tryz.func78, Tryz.ntmps78
  go_wp2
  go_loop [3] (fun i => ∃ j : Nat, j ≤ s.size ∧ i = .int .i64 j ∧ ((bl s).take j).all Nam.okc = true) (fun i => s.size - (intOf i).toNat)
  case atStart => exact ⟨0, Nat.zero_le _, rfl, rfl⟩
  case round =>
    obtain ⟨j, hle, rfl, hall⟩ := hrel
    by_cases hp : j < s.size
    · have hix := ix_run s j hp w
      by_cases hok : Nam.okc ((bl s).getD j 0) = true
      · have hall2 : ((bl s).take (j + 1)).all Nam.okc = true := by rw [all_take_snoc _ _ _ (by rw [bl_length]; exact hp), hall, hok]; rfl
        rw [okc_nat] at hok
        simp only [Bool.and_eq_true, decide_eq_true_eq] at hok
        generalize ((bl s).getD j 0).toNat = c at hix hok
        have HA := Lib.hid hall2
        clear hall hall2
        go_wp2
        all_goals first | omega | skip
        go_round
        case rel => exact ⟨j + 1, by omega, by go_num, HA.out⟩
        case measure => simp [intOf]; omega
      · have hok' : Nam.okc ((bl s).getD j 0) = false := by simpa using hok
        have HF := Lib.hid (word_bad hp hok')
        rw [okc_nat] at hok'
        simp only [Bool.and_eq_false_iff, decide_eq_false_iff_not] at hok'
        generalize ((bl s).getD j 0).toNat = c at hix hok'
        clear hall hok
        go_wp2
        all_goals first | omega | skip
        all_goals (go_ret; exact ⟨by rw [HF.out]; rfl, only_refl _ _⟩)
    · obtain rfl : j = s.size := by omega
      by_cases h1 : s.size < 1
      · have HF := Lib.hid (word_short (.inl h1))
        clear hall
        go_wp2
        all_goals first | omega | skip
        all_goals (go_ret; exact ⟨by rw [HF.out]; rfl, only_refl _ _⟩)
      by_cases h2 : 100 < s.size
      · have HF := Lib.hid (word_short (.inr h2))
        clear hall
        go_wp2
        all_goals first | omega | skip
        all_goals (go_ret; exact ⟨by rw [HF.out, show (false : Bool) = decide ((s.size : Int) ≤ 100) from (decide_eq_false (by omega)).symm]; rfl, only_refl _ _⟩)
      have HF := Lib.hid (word_good h1 h2 hall)
      clear hall
      go_wp2
      all_goals first | omega | skip
      all_goals (go_ret; exact ⟨by rw [HF.out, show (true : Bool) = decide ((s.size : Int) ≤ 100) from (decide_eq_true (by omega)).symm]; rfl, only_refl _ _⟩)
end Go.Proofs.YtnhchdkchohnbaaGreatDoor
/- Layer 11: slices of strings; Valid, in the program and in the reference. -/
namespace Go.Proofs.YtnhchdkchohnbaaGreatDoor
open Go.RowKit Go.Deep

def Ss (w : World) (v : Value) (ss : List ByteArray) : Prop :=
  (∀ s, s ∈ ss → s.size ≤ maxLen) ∧ ss.length ≤ 9223372036854775807 ∧ ((v = .slice none 0 0 ∧ ss = []) ∨ ∃ x cap, v = .slice (some x) ss.length cap ∧ (ss.length ≤ cap ∧ cap ≤ 9223372036854775807) ∧ ∀ i, i < ss.length → w.cell? (x.add i) = some (.string (ss.getD i ByteArray.empty)))
theorem Ss.nil (w : World) : Ss w (.slice none 0 0) [] := ⟨(fun _ h => by cases h), by simp, .inl ⟨rfl, rfl⟩⟩
theorem Ss.len {w : World} {v : Value} {ss : List ByteArray} (h : Ss w v ss) : ss.length ≤ 9223372036854775807 := h.2.1
theorem Ss.form {w : World} {v : Value} {ss : List ByteArray} (h : Ss w v ss) : ∃ a cap, v = .slice a ss.length cap := by
  rcases h.2.2 with ⟨e, rfl⟩ | ⟨x, cap, e, _⟩
  · exact ⟨none, 0, e⟩
  · exact ⟨some x, cap, e⟩
theorem Ss.below {w w' : World} {v : Value} {ss : List ByteArray} (h : Ss w v ss) (k : Below w.heap.size w w') : Ss w' v ss := by
  obtain ⟨h0, h1, h | ⟨x, cap, h, hcap, hc⟩⟩ := h
  · exact ⟨h0, h1, .inl h⟩
  · exact ⟨h0, h1, .inr ⟨x, cap, h, hcap, fun i hi => (k.cell (World.block_lt_of_cell? w _ (hc i hi))).trans (hc i hi)⟩⟩
theorem Ss.only {w w' : World} {v : Value} {ss : List ByteArray} (h : Ss w v ss) (k : w.grownBy w' none) : Ss w' v ss := h.below (below_of_only k)
theorem Ss.size {w : World} {v : Value} {ss : List ByteArray} (h : Ss w v ss) {i : Nat} (hi : i < ss.length) : (ss.getD i ByteArray.empty).size ≤ maxLen := by
  have e : ss.getD i ByteArray.empty = ss[i] := by simp [List.getD, hi]
  rw [e]; exact h.1 _ (List.getElem_mem hi)
theorem Ss.at {w : World} {a : Option Addr} {n cap : Nat} {ss : List ByteArray} (h : Ss w (.slice a n cap) ss) {k : Nat} (hk : k < ss.length) : ∃ b off, a = some ⟨b, off, none⟩ ∧ w.cell? ⟨b, off + k, none⟩ = some (.string (ss.getD k ByteArray.empty)) := by
  rcases h.2.2 with ⟨_, rfl⟩ | ⟨x, cap', e, _, hc⟩
  · simp at hk
  · simp only [Value.slice.injEq] at e
    obtain ⟨rfl, rfl, rfl⟩ := e
    obtain ⟨b, off, key⟩ := x
    have h0 := hc 0 (by omega)
    have hs : key = none := by simpa [Addr.add] using World.cell?_spot h0
    subst hs
    have h0 := hc k hk
    exact ⟨b, off, rfl, by rwa [Addr.add_lit] at h0⟩
def Hb (w : World) (b : Nat) (cs : Array Value) (t : TypeId) : Prop := w.heap[b]? = some (.cells cs t (0, 0))
theorem Hb.new (w : World) (cs : Array Value) (t : TypeId) : Hb (w.alloc (.cells cs t)) w.heap.size cs t := heap_alloc_new w _
theorem Hb.lt {w : World} {b : Nat} {cs : Array Value} {t : TypeId} (h : Hb w b cs t) : b < w.heap.size := (Array.getElem?_eq_some_iff.1 h).1
theorem Hb.keep {w w' : World} {b : Nat} {cs : Array Value} {t : TypeId} {r : Option Nat} (h : Hb w b cs t) (k : w.grownBy w' r) (hr : some b ≠ r) : Hb w' b cs t := (k.block b h.lt hr).trans h
theorem Hb.only {w w' : World} {b : Nat} {cs : Array Value} {t : TypeId} (h : Hb w b cs t) (k : w.grownBy w' none) : Hb w' b cs t := h.keep k (by simp)
theorem Hb.cell {w : World} {b : Nat} {cs : Array Value} {t : TypeId} (h : Hb w b cs t) {i : Nat} {v : Value} (hv : cs[i]? = some v) : w.cell? ⟨b, i, none⟩ = some v := (cell_of_row w b i cs t (0, 0) h).trans hv
theorem Hb.frozen {w : World} {b : Nat} {cs : Array Value} {t : TypeId} (h : Hb w b cs t) (i : Nat) : w.frozen? ⟨b, i, none⟩ = false := by
  unfold Hb at h
  simp [World.frozen?, h]
theorem Hb.alloc {w : World} {b : Nat} {cs : Array Value} {t : TypeId} (h : Hb w b cs t) (o : Obj) : Hb (w.alloc o) b cs t := (Below.heap_alloc w o b h.lt).trans h
def nm (r : ByteArray) (ss : List ByteArray) : Nam.N := ⟨bl r, ss.map bl⟩
theorem valid_realm {r : ByteArray} (ss : List ByteArray) (h : Nam.word (bl r) = false) : Nam.valid (nm r ss) = false := by
  unfold Nam.valid nm
  simp [h]
theorem valid_count {r : ByteArray} {ss : List ByteArray} (h : ss.length < 1 ∨ 8 < ss.length) : Nam.valid (nm r ss) = false := by
  unfold Nam.valid nm
  simp only [List.length_map]
  rcases h with h | h
  · have : ¬ 1 ≤ ss.length := by omega
    simp [this]
  · have : ¬ ss.length ≤ 8 := by omega
    simp [this]
theorem valid_part {r : ByteArray} {ss : List ByteArray} {i : Nat} (hi : i < ss.length) (h : Nam.word (bl (ss.getD i ByteArray.empty)) = false) : Nam.valid (nm r ss) = false := by
  unfold Nam.valid nm
  have : (ss.map bl).all Nam.word = false := by
    rw [List.all_eq_false]
    refine ⟨bl (ss.getD i ByteArray.empty), ?_, by rw [h]; simp⟩
    have e : ss.getD i ByteArray.empty = ss[i] := by simp [List.getD, hi]
    rw [e]
    exact List.mem_map.2 ⟨_, List.getElem_mem hi, rfl⟩
  dsimp only
  rw [this, Bool.and_false]
theorem valid_yes {r : ByteArray} {ss : List ByteArray} (hr : Nam.word (bl r) = true) (h : ¬ (ss.length < 1 ∨ 8 < ss.length)) (ha : ∀ i, i < ss.length → Nam.word (bl (ss.getD i ByteArray.empty)) = true) : Nam.valid (nm r ss) = true := by
  unfold Nam.valid nm
  have : (ss.map bl).all Nam.word = true := by
    rw [List.all_eq_true]
    intro x hx
    obtain ⟨y, hy, rfl⟩ := List.mem_map.1 hx
    obtain ⟨i, hi, rfl⟩ := List.getElem_of_mem hy
    have := ha i hi
    have e : ss.getD i ByteArray.empty = ss[i] := by simp [List.getD, hi]
    rwa [e] at this
  simp only [Bool.and_eq_true, decide_eq_true_eq, List.length_map]
  exact ⟨⟨⟨hr, by omega⟩, by omega⟩, this⟩

set_option maxRecDepth 100000 in
set_option maxHeartbeats 1000000 in
theorem valid_any (r : ByteArray) (hr : r.size ≤ maxLen) (v : Value) (ss : List ByteArray) (w : World) (h : Ss w v ss) :
    Calls Tryz.prog 69 #[.agg #[.string r, v]] w fun e w' => e = .returned (.bool (Nam.valid (nm r ss))) ∧ w.grownBy w' none := by
  obtain ⟨a, cap, rfl⟩ := h.form
  have H := Lib.hid h; clear h
  go_enter Tryz.func69, Tryz.ntmps69
  go_wp2_with (go_at_call 89; refine (word_any r _ hr).mono ?_)
  rintro e w1 ⟨rfl, h1⟩
  have hb1 := (Hb.new w #[Value.string r, Value.slice a ss.length cap] _).only h1
  have g1 := only_trans (only_alloc (only_refl w none) _) h1
  have c0 := hb1.cell (i := 0) rfl
  have c1 := hb1.cell (i := 1) rfl
  have hn := H.out.len
  cases hw : Nam.word (bl r)
  · have HF := Lib.hid (valid_realm ss hw)
    go_wp2_with fail
    go_ret
    exact ⟨by rw [HF.out]; rfl, g1⟩
  by_cases hl : ss.length < 1 ∨ 8 < ss.length
  · have HF := Lib.hid (valid_count (r := r) hl)
    clear h1
    go_wp2_with fail
    all_goals first | omega | skip
    all_goals (go_ret; exact ⟨by rw [HF.out]; rfl, g1⟩)
  clear h1
  go_wp2_with fail
  all_goals first | omega | skip
  clear c0 c1 hb1
  go_loopw [24] (fun x wr => ∃ j : Nat, j ≤ ss.length ∧ x = .int .i64 j ∧ w.grownBy wr none ∧ ∀ i, i < j → Nam.word (bl (ss.getD i ByteArray.empty)) = true) (fun x _ => ss.length - (intOf x).toNat)
  case atStart => exact ⟨0, Nat.zero_le _, rfl, g1, fun i hi => by omega⟩
  case round =>
    obtain ⟨j, hle, rfl, hg, hall⟩ := hrel
    by_cases hj : j < ss.length
    · obtain ⟨b, off, rfl, hc⟩ := (H.out.only hg).at hj
      have hsz := H.out.size hj
      generalize hs : ss.getD j ByteArray.empty = s at hc hsz
      have HS := Lib.hid hs; clear hs
      have HA := Lib.hid hall; clear hall
      go_wp2_with (go_at_call 89; refine (word_any s _ hsz).mono ?_)
      rintro e w2 ⟨rfl, h2⟩
      have g2 := only_trans hg h2
      cases hws : Nam.word (bl s)
      · have HF := Lib.hid (valid_part (r := r) hj (by rw [HS.out]; exact hws))
        go_wp2_with fail
        go_ret
        exact ⟨by rw [HF.out]; rfl, g2⟩
      · have HW := Lib.hid hws
        go_wp2_with fail
        all_goals first | omega | skip
        go_roundw
        case rel =>
          refine ⟨j + 1, by omega, by go_num, g2, fun i hi => ?_⟩
          by_cases e : i = j
          · subst e; rw [HS.out]; exact HW.out
          · exact HA.out i (by omega)
        case measure => simp [intOf]; omega
    · obtain rfl : j = ss.length := by omega
      have HF := Lib.hid (valid_yes hw hl hall)
      clear hall
      go_wp2_with fail
      all_goals first | omega | skip
      go_ret
      exact ⟨by rw [HF.out]; rfl, hg⟩
set_option maxRecDepth 100000 in
set_option maxHeartbeats 1000000 in
theorem refvalid_any (r : ByteArray) (hr : r.size ≤ maxLen) (v : Value) (ss : List ByteArray) (w : World) (h : Ss w v ss) :
    Calls Tryz.prog 44 #[.agg #[.string r, v]] w fun e w' => e = .returned (.bool (Nam.valid (nm r ss))) ∧ w.grownBy w' none := by
  obtain ⟨a, cap, rfl⟩ := h.form
  have H := Lib.hid h; clear h
  have hn := H.out.len
  go_enter Tryz.func44, Tryz.ntmps44
  go_wp2_with fail
  go_loopw [3] (fun x wr => ∃ j : Nat, j ≤ ss.length ∧ x = .int .i64 j ∧ w.grownBy wr none ∧ Hb wr w.heap.size #[Value.string r, Value.slice a ss.length cap] 29 ∧ ∀ i, i < j → Nam.word (bl (ss.getD i ByteArray.empty)) = true) (fun x _ => ss.length - (intOf x).toNat)
  case atStart => exact ⟨0, Nat.zero_le _, rfl, only_alloc (only_refl w none) _, Hb.new _ _ _, fun i hi => by omega⟩
  case round =>
    obtain ⟨j, hle, rfl, hg, hb, hall⟩ := hrel
    have c0 := hb.cell (i := 0) rfl
    have c1 := hb.cell (i := 1) rfl
    by_cases hj : j < ss.length
    · obtain ⟨b, off, rfl, hc⟩ := (H.out.only hg).at hj
      have hsz := H.out.size hj
      generalize hs : ss.getD j ByteArray.empty = s at hc hsz
      have HS := Lib.hid hs; clear hs
      have HA := Lib.hid hall; clear hall
      go_wp2_with (go_at_call 78; refine (refword_any s _ hsz).mono ?_)
      all_goals first | omega | skip
      rintro e w2 ⟨rfl, h2⟩
      have g2 := only_trans hg h2
      have hb2 := hb.only h2
      clear c0 c1
      cases hws : Nam.word (bl s)
      · have HF := Lib.hid (valid_part (r := r) hj (by rw [HS.out]; exact hws))
        go_wp2_with fail
        go_ret
        exact ⟨by rw [HF.out]; rfl, g2⟩
      · have HW := Lib.hid hws
        go_wp2_with fail
        all_goals first | omega | skip
        go_roundw
        case rel =>
          refine ⟨j + 1, by omega, by go_num, g2, hb2, fun i hi => ?_⟩
          by_cases e : i = j
          · subst e; rw [HS.out]; exact HW.out
          · exact HA.out i (by omega)
        case measure => simp [intOf]; omega
    · obtain rfl : j = ss.length := by omega
      have HA := Lib.hid hall; clear hall
      go_wp2_with (go_at_call 78; refine (refword_any r _ hr).mono ?_)
      all_goals first | omega | skip
      rintro e w2 ⟨rfl, h2⟩
      have g2 := only_trans hg h2
      have hb2 := hb.only h2
      clear c0 c1
      have c1 := hb2.cell (i := 1) rfl
      cases hw : Nam.word (bl r)
      · have HF := Lib.hid (valid_realm ss hw)
        go_wp2_with fail
        go_ret
        exact ⟨by rw [HF.out]; rfl, g2⟩
      by_cases hl : ss.length < 1 ∨ 8 < ss.length
      · have HF := Lib.hid (valid_count (r := r) hl)
        go_wp2_with fail
        all_goals first | omega | skip
        all_goals (go_ret; exact ⟨by rw [HF.out]; first | rfl | (rw [show (false : Bool) = decide ((ss.length : Int) < 9) from (decide_eq_false (by omega)).symm]; rfl), g2⟩)
      have HF := Lib.hid (valid_yes hw hl HA.out)
      go_wp2_with fail
      all_goals first | omega | skip
      all_goals (go_ret; exact ⟨by rw [HF.out, show (true : Bool) = decide ((ss.length : Int) < 9) from (decide_eq_true (by omega)).symm]; rfl, g2⟩)
end Go.Proofs.YtnhchdkchohnbaaGreatDoor
/- Layer 11: scan. -/
namespace Go.Proofs.YtnhchdkchohnbaaGreatDoor
open Go.RowKit Go.Deep

theorem str_run {w : World} {v : Value} {l : List Nat} (h : Bs w v l) : (convert 24 9 v).run Tryz.prog w = .ok (.string ⟨(Nam.fromN l).toArray⟩) w := by
  rcases h.cases with ⟨rfl, rfl⟩ | ⟨b, off, cap, rfl, _, _, _, hc⟩
  · exact run_convert_bytes_nil w 24 5 Tryz.underlying24 Tryz.underlying5 0 0 9 Tryz.underlying9
  · have := run_convert_bytes_back (P := Tryz.prog) w 24 9 5 ⟨b, off, none⟩ cap (Nam.fromN l) Tryz.underlying24 Tryz.underlying5 Tryz.underlying9 (fun j hj => by
      rw [Nam.fromN_length] at hj
      rw [Addr.add_lit, hc j hj]
      have hl := h.all _ (List.getElem_mem hj)
      simp [Nam.fromN, bv, List.getD, hj]
      omega)
    rwa [Nam.fromN_length] at this
end Go.Proofs.YtnhchdkchohnbaaGreatDoor
/- Layer 11: slices of strings of the call's own; Parse. -/
namespace Go.Proofs.YtnhchdkchohnbaaGreatDoor
open Go.RowKit Go.Deep

def OwnS (w : World) (base : Nat) (v : Value) (ss : List ByteArray) : Prop := (∀ s, s ∈ ss → s.size ≤ maxLen) ∧ w.ownsRow base 9 1 v ss.length (ss.map Value.string)
theorem OwnS.nil (w : World) (base : Nat) : OwnS w base (.slice none 0 0) [] := ⟨(fun _ h => by cases h), World.ownsRow_nil _ _ _ _⟩
theorem OwnS.lt {w : World} {base : Nat} {v : Value} {ss : List ByteArray} (h : OwnS w base v ss) : ∀ g, v.ownBlock = some g → base ≤ g ∧ g < w.heap.size := h.2.lt
theorem OwnS.only {w w' : World} {base : Nat} {v : Value} {ss : List ByteArray} {r : Option Nat} (h : OwnS w base v ss) (k : w.grownBy w' r) (hne : v.ownBlock = none ∨ v.ownBlock ≠ r) : OwnS w' base v ss := ⟨h.1, h.2.kept k hne⟩
theorem OwnS.below {w w' : World} {base : Nat} {v : Value} {ss : List ByteArray} (h : OwnS w base v ss) (k : Below w.heap.size w w') : OwnS w' base v ss := h.only (only_of_below k none) (by cases hv : v.ownBlock <;> simp)
theorem OwnS.mono {w : World} {base base' : Nat} {v : Value} {ss : List ByteArray} (h : OwnS w base v ss) (hb : base' ≤ base) : OwnS w base' v ss := by
  refine ⟨h.1, h.2.1, ?_⟩
  rcases h.2.2 with h' | ⟨g, cap, cur, h1, h2, h3⟩
  · exact .inl h'
  · exact .inr ⟨g, cap, cur, h1, Nat.le_trans hb h2, h3⟩
theorem OwnS.alloc {w : World} {base : Nat} {v : Value} {ss : List ByteArray} (h : OwnS w base v ss) (o : Obj) : OwnS (w.alloc o) base v ss := ⟨h.1, h.2.alloc o⟩
theorem OwnS.cases {w : World} {base : Nat} {v : Value} {ss : List ByteArray} (h : OwnS w base v ss) : (v = .slice none 0 0 ∧ ss = []) ∨ ∃ g cap, v = .slice (some ⟨g, 0, none⟩) ss.length cap ∧ base ≤ g ∧ g < w.heap.size ∧ ss.length ≤ cap ∧ cap ≤ 9223372036854775807 ∧
    ∀ i, i < ss.length → w.cell? ⟨g, i, none⟩ = some (.string (ss.getD i ByteArray.empty)) := by
  obtain ⟨h0, h1⟩ := h
  rcases h1.2 with ⟨rfl, hn⟩ | ⟨g, cap, cur, rfl, hb, hg, hn, hc, hs, ht⟩
  · exact .inl ⟨rfl, List.eq_nil_of_length_eq_zero hn⟩
  · refine .inr ⟨g, cap, rfl, hb, (Array.getElem?_eq_some_iff.1 hg).1, hn, hc, fun i hi => ?_⟩
    rw [h1.cellAt i (by omega)]
    simp [List.getD, hi]
theorem OwnS.ss {w : World} {base : Nat} {v : Value} {ss : List ByteArray} (h : OwnS w base v ss) : Ss w v ss := by
  rcases h.cases with ⟨rfl, rfl⟩ | ⟨g, cap, rfl, _, _, h1, h2, hc⟩
  · exact Ss.nil w
  · exact ⟨h.1, by omega, .inr ⟨⟨g, 0, none⟩, cap, rfl, ⟨h1, h2⟩, fun i hi => by rw [Addr.add_lit, Nat.zero_add]; exact hc i hi⟩⟩
theorem grown_set {w : World} {p : Addr} (u : Value) : w.grownBy (w.setCell p u) (some p.block) := only_setCell (only_refl w _) (.inl rfl) u
theorem OwnS.apart {w : World} {base : Nat} {v : Value} {ss : List ByteArray} (h : OwnS w base v ss) {b : Nat} (hb : b < base) : some b ≠ v.ownBlock := fun e => by have := (h.lt b e.symm).1; omega
theorem OwnS.setCell {w : World} {base : Nat} {v : Value} {ss : List ByteArray} (h : OwnS w base v ss) {p : Addr} (hp : p.block < base) (u : Value) : OwnS (w.setCell p u) base v ss := by
  refine h.only (grown_set u) ?_
  cases hv : v.ownBlock with
  | none => exact .inl rfl
  | some g => exact .inr (fun e => by have := (h.lt g hv).1; cases e; omega)
theorem Hb.set {w : World} {b : Nat} {cs : Array Value} {t : TypeId} (h : Hb w b cs t) (i : Nat) (u : Value) : Hb (w.setCell ⟨b, i, none⟩ u) b (cs.setIfInBounds i u) t := by
  unfold Hb at h ⊢
  simp [World.setCell, Array.getElem?_modify, h]
theorem Hb.far {w : World} {b : Nat} {cs : Array Value} {t : TypeId} (h : Hb w b cs t) {p : Addr} (hp : b ≠ p.block) (u : Value) : Hb (w.setCell p u) b cs t := (Below.heap_setCell w p u b hp).trans h
theorem Hb.two {w : World} {b : Nat} {x y : Value} {t : TypeId} (h : Hb w b #[x, y] t) (u : Value) :
    w.cell? ⟨b, 0, none⟩ = some x ∧ w.cell? ⟨b, 1, none⟩ = some y ∧ w.frozen? ⟨b, 0, none⟩ = false ∧ w.frozen? ⟨b, 1, none⟩ = false ∧ (w.setCell ⟨b, 0, none⟩ u).cell? ⟨b, 1, none⟩ = some y ∧ (w.setCell ⟨b, 0, none⟩ u).frozen? ⟨b, 1, none⟩ = false :=
  ⟨h.cell (i := 0) rfl, h.cell (i := 1) rfl, h.frozen 0, h.frozen 1, (h.set 0 u).cell (i := 1) rfl, (h.set 0 u).frozen 1⟩
set_option maxRecDepth 100000 in
theorem info_name : (Tryz.prog.info? 29).map (·.size) = some 2 := by kernel_rfl
set_option maxRecDepth 100000 in
theorem info_str : (Tryz.prog.info? 9).map (fun i => (i.zero, i.size, i.bytes)) = some (some (.string ⟨#[]⟩), 1, 16) := by kernel_rfl
theorem wpList_append_one {w : World} {ops : Array Oper} {rest : List Oper} {o : Oper} {a : Act} {Q : Exit → Act → World → Prop} (hgd : o.guard = none) (s x : Operand)
    (ho : o.op = .call { callee := .builtin .append, args := #[s, x], argTypes := #[27, 27] })
    (base : Nat) (v : Value) (ss : List ByteArray) (hs : a.eval s = v) (hown : OwnS w base v ss) (g : Nat) (t : ByteArray) (ht : t.size ≤ maxLen) (hx : a.eval x = .slice (some ⟨g, 0, none⟩) 1 1) (hc : w.cell? ⟨g, 0, none⟩ = some (.string t))
    (hn : ss.length ≤ 1000000) (hbase : base ≤ w.heap.size)
    (h : ∀ a' c' w', OwnS w' base (.slice a' (ss.length + 1) c') (ss ++ [t]) → w.grownBy w' v.ownBlock → wpList Tryz.prog ops Q rest (a.put o.dst (.slice a' (ss.length + 1) c')) w') : wpList Tryz.prog ops Q (o :: rest) a w := by
  obtain ⟨i0, hi, hz0, hz1, hz2⟩ := info_parts info_str
  refine wpList_append_own w hgd s x 27 ho base 9 i0 (.string ⟨#[]⟩) 1 16 Tryz.underlying27 hi hz0 hz1 hz2 rfl (by decide) v ss.length (ss.map Value.string) hs hown.2 ⟨g, 0, none⟩ 1 1 [.string t] hx (by simp) ?_ ?_ ?_ (by omega) hbase ?_
  · intro j u hj
    match j, hj with
    | 0, hj => simp at hj; subst hj; rw [Addr.add_lit]; exact hc
  · intro u hu
    simp at hu; subst hu; rfl
  · unfold maxLen; omega
  · intro v' w' h3 h4 _
    have hO : OwnS w' base v' (ss ++ [t]) := by
      refine ⟨fun s hs => ?_, ?_⟩
      · rcases List.mem_append.1 hs with hs | hs
        · exact hown.1 s hs
        · rw [List.mem_singleton.1 hs]; exact ht
      · rw [List.length_append, List.map_append]
        exact h3
    obtain ⟨a', c', e⟩ := hO.ss.form
    rw [List.length_append, List.length_singleton] at e
    subst e
    exact h a' c' w' hO h4

/-! ### the parser's steps -/
theorem fresh_set {w w2 : World} {r : Option Nat} (h : w.grownBy w2 r) {p : Addr} (hp : w.heap.size ≤ p.block) (u : Value) : w.grownBy (w2.setCell p u) r :=
  ⟨h.os, h.tape, h.output, by simpa [World.setCell] using h.size, fun i hi hne => (Below.heap_setCell w2 p u i (by rintro rfl; omega)).trans (h.block i hi hne)⟩
theorem results_cell_row_tmp {P : Program} {fn : Func} {p u : Tmp} {ty : TypeId} (h : fn.results = #[.cell p ty, .tmp u]) (tmps : Array Value) (w : World) (g : Nat) (t : TypeId) (cs : Array Value) (fr : Nat × Nat) (d : TypeDesc)
    (hp : tmps.getD p undef = .pointer (some ⟨g, 0, none⟩)) (hg : w.heap[g]? = some (.cells cs t fr))
    (hu : P.underlying ty = some d) (hd : (match d with | .struct _ | .array _ _ => true | _ => false) = true) (hi : (P.info? ty).map (·.size) = some cs.size) :
    (results fn tmps).run P w = .ok (.tuple #[.agg cs, tmps.getD u undef]) w := by
  rw [results_cell_tmp h, hp]
  simp [asAddr, Sem.run, Result.andThen, run_loadVar_row w g t ty cs fr d hg hu hd hi]

end Go.Proofs.YtnhchdkchohnbaaGreatDoor
