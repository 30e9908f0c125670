/- ctr.mask: walked. -/
import Derived.Test.YtibgmoapkionjaaCtrB
import Derived.Shelf.Abstract
namespace Go.Proofs.Ytibgmoapkionjaa
open Go.RowKit Go.Deep
attribute [local go_sem] Oper.semAt_some

set_option maxRecDepth 100000 in
set_option maxHeartbeats 2000000 in
theorem mask_nil (key nonce : Nat → Nat) (a : Int) (v : Value) (base : Nat) (w : World) (hown : Own w base v []) :
    Calls Try.prog 43 #[.agg (arr .u8 16 key), .agg (arr .u8 8 nonce), .int .i64 a, v] w fun e w' => e = .returned (.tuple #[]) ∧ Below w.heap.size w w' := by
  have hsz := arr_size .u8 16 key
  have hsz2 := arr_size .u8 8 nonce
  obtain ⟨va, vc, rfl⟩ := hown.form
  clear hown
  refine (callsIn_wide (n := 3)).1 (callsIn_of_wp_marks Try.func43 rfl trivial ?_ rfl)
  refine wpIn_wide.2 ?_
  simp only [Try.ntmps43, List.size_toArray, List.length_cons, List.length_nil, Nat.reduceAdd, Nat.reduceSub, Array.replicate_succ, Array.replicate_zero, List.push_toArray, List.append_toArray, List.nil_append, List.cons_append]
  go_wp2_with fail
  exact ⟨_, results_none rfl _ _ _, rfl, (((Below.refl _ _).alloc (Nat.le_refl _) _).alloc (by simp) _).alloc (by simp; omega) _⟩

theorem elemB : Try.prog.underlying 43 = some (.slice (Try.prog.elem 43)) := by kernel_rfl
theorem run_size_b (w : World) : (sizeOf (Try.prog.elem 43)).run Try.prog w = .ok 1 w := by kernel_rfl
theorem exec_index_bytes {o : Oper} {a : Act} {w : World} {x y : Operand} {b off len cap j : Nat} (ho : o.op = .indexAddr 43 x y) (hx : a.eval x = .slice (some ⟨b, off, none⟩) len cap) (hy : a.eval y = .int .i64 j) (hj : j < len) :
    (execOp a.eval o).run Try.prog w = .ok (.value (.pointer (some ⟨b, off + j, none⟩))) w := by
  unfold execOp
  have nj : 0 ≤ (j : Int) := by omega
  have lj : (j : Int) < (len : Int) := by omega
  simp only [ho, hx, hy, Sem.run_bind, Sem.run_pure, run_indexAt_slice _ _ _ _ _ _ _ elemB]
  rw [if_pos ⟨nj, lj⟩, run_size_b]
  simp only [Result.andThen_ok, Int.toNat_natCast, Addr.add_lit, Nat.mul_one]
theorem exec_index_a16 {o : Oper} {a : Act} {w : World} {x y : Operand} {b j : Nat} (ho : o.op = .indexAddr 22 x y) (hx : a.eval x = .pointer (some ⟨b, 0, none⟩)) (hy : a.eval y = .int .i64 j) (hj : j < 16) :
    (execOp a.eval o).run Try.prog w = .ok (.value (.pointer (some ⟨b, j, none⟩))) w := by
  unfold execOp
  have nj : 0 ≤ (j : Int) := by omega
  have lj : (j : Int) < 16 := by omega
  simp only [ho, hx, hy]
  go_simp
theorem exec_add_i64 {o : Oper} {a : Act} {w : World} (x y : Operand) (p q : Nat) (ho : o.op = .binOp .add 3 x y 3) (hx : a.eval x = .int .i64 (p : Int)) (hy : a.eval y = .int .i64 (q : Int)) (hb : p + q < 9223372036854775808) :
    (execOp a.eval o).run Try.prog w = .ok (.value (.int .i64 ((p + q : Nat) : Int))) w := by
  unfold execOp
  have hu := Try.underlying3
  have hw : IntKind.i64.wrap ((p : Int) + (q : Int)) = ((p + q : Nat) : Int) := by rw [IntWalk.i64_in _ (by omega)]; omega
  simp only [ho, hx, hy]
  go_simp
  first | done | simp [hw] | (simp; omega)
theorem exec_load_i64 {o : Oper} {a : Act} {w : World} (x : Operand) (ad : Addr) (v : Int) (ho : o.op = .load 3 x) (hx : a.eval x = .pointer (some ad)) (hc : w.cell? ad = some (.int .i64 v)) :
    (execOp a.eval o).run Try.prog w = .ok (.value (.int .i64 v)) w := by
  unfold execOp
  simp only [ho, hx]
  have hz : ((Try.prog).info? 3).map (·.size) = some 1 := by kernel_rfl
  have hu := Try.underlying3
  go_simp
theorem exec_load_sl {o : Oper} {a : Act} {w : World} (x : Operand) (ad : Addr) (p : Option Addr) (m c : Nat) (ho : o.op = .load 43 x) (hx : a.eval x = .pointer (some ad)) (hc : w.cell? ad = some (.slice p m c)) :
    (execOp a.eval o).run Try.prog w = .ok (.value (.slice p m c)) w := by
  unfold execOp
  simp only [ho, hx]
  have hz : ((Try.prog).info? 43).map (·.size) = some 1 := by kernel_rfl
  have hu := Try.underlying43
  go_simp
theorem exec_store_u8 {o : Oper} {a : Act} {w : World} (x y : Operand) (ad : Addr) (v old : Int) (ho : o.op = .store 5 x y) (hx : a.eval x = .pointer (some ad)) (hy : a.eval y = .int .u8 v) (hc : w.cell? ad = some (.int .u8 old)) (hf : w.frozen? ad = false) :
    (execOp a.eval o).run Try.prog w = .ok .skip (w.setCell ad (.int .u8 v)) := by
  unfold execOp
  simp only [ho, hx, hy]
  have hz : ((Try.prog).info? 5).map (·.size) = some 1 := by kernel_rfl
  have hu := Try.underlying5
  go_simp

/-- How much of l is done before round j, s bytes of the first block being skipped. -/
def Ctr.dn (s j : Nat) : Nat := if j = 0 then 0 else 16 * j - s
def Ctr.sk (s j : Nat) : Nat := if j = 0 then s else 0
theorem Ctr.pos {a q s j t : Nat} (hs : s = a % 16) (hq : q = a / 16) (ht : Ctr.sk s j + t < 16) : (a + (Ctr.dn s j + t)) / 16 = q + j ∧ (a + (Ctr.dn s j + t)) % 16 = Ctr.sk s j + t := by
  unfold Ctr.dn Ctr.sk at *
  by_cases h : j = 0
  · rw [if_pos h] at ht ⊢; rw [if_pos h]; omega
  · rw [if_neg h] at ht ⊢; rw [if_neg h]; omega
theorem Ctr.dn_next {s j : Nat} (hs : s < 16) : Ctr.dn s j + (16 - Ctr.sk s j) = Ctr.dn s (j + 1) ∧ Ctr.sk s (j + 1) = 0 ∧ Ctr.sk s j < 16 := by
  have e1 : Ctr.dn s (j + 1) = 16 * (j + 1) - s := by unfold Ctr.dn; rw [if_neg (by omega)]
  have e2 : Ctr.sk s (j + 1) = 0 := by unfold Ctr.sk; rw [if_neg (by omega)]
  rw [e1, e2]
  unfold Ctr.dn Ctr.sk
  by_cases h : j = 0
  · rw [if_pos h, if_pos h]; omega
  · rw [if_neg h, if_neg h]; omega
/-- Between two rounds of mask. -/
def CMI (key nonce : Nat → Nat) (a : Nat) (l : List Nat) (base g cap s : Nat) (w : World) (j : Nat) (wr : World) : Prop :=
  Ctr.dn s j < l.length ∧ wr.heap[w.heap.size + 2]? = some (.cells #[.slice (some ⟨g, Ctr.dn s j, none⟩) (l.length - Ctr.dn s j) (cap - Ctr.dn s j)] 43 (0, 0)) ∧ wr.heap[w.heap.size + 3]? = some (.cells #[.int .i64 (Ctr.sk s j : Int)] 3 (0, 0)) ∧
    Own wr base (.slice (some ⟨g, 0, none⟩) l.length cap) (Ctr.mask key nonce a l (Ctr.dn s j)) ∧ w.grownBy wr (some g)
/-- Behind the last round. -/
def MX (key nonce : Nat → Nat) (a : Nat) (l : List Nat) (base g cap : Nat) (w wr : World) : Prop := Own wr base (.slice (some ⟨g, 0, none⟩) l.length cap) (Ctr.crypt key nonce a l) ∧ w.grownBy wr (some g)

theorem grown_far {w A B : World} {g : Nat} {r : Option Nat} (h : w.grownBy A (some g)) (k : A.grownBy B r) (hr : ∀ b, r = some b → w.heap.size ≤ b) : w.grownBy B (some g) :=
  ⟨k.os.trans h.os, k.tape.trans h.tape, k.output.trans h.output, Nat.le_trans h.size k.size, fun i hi hne => (k.block i (Nat.lt_of_lt_of_le hi h.size) (fun e => by have := hr i e.symm; omega)).trans (h.block i hi hne)⟩
theorem CMI.turn {key nonce : Nat → Nat} {a : Nat} {l : List Nat} {base g cap s : Nat} {w A B : World} {j : Nat} {r : Option Nat} (h : CMI key nonce a l base g cap s w j A) (k : A.grownBy B r) (hgw : g < w.heap.size) (hr : ∀ b, r = some b → w.heap.size ≤ b ∧ b ≠ w.heap.size + 2 ∧ b ≠ w.heap.size + 3) : CMI key nonce a l base g cap s w j B :=
  ⟨h.1, (k.block _ (Array.getElem?_eq_some_iff.1 h.2.1).1 (fun e => by have := hr _ e.symm; omega)).trans h.2.1, (k.block _ (Array.getElem?_eq_some_iff.1 h.2.2.1).1 (fun e => by have := hr _ e.symm; omega)).trans h.2.2.1,
    h.2.2.2.1.only k (.inr (fun e => by have := hr g e.symm; omega)), grown_far h.2.2.2.2 k (fun b e => (hr b e).1)⟩
theorem MX.turn {key nonce : Nat → Nat} {a : Nat} {l : List Nat} {base g cap : Nat} {w A B : World} {r : Option Nat} (h : MX key nonce a l base g cap w A) (k : A.grownBy B r) (hgw : g < w.heap.size) (hr : ∀ b, r = some b → w.heap.size ≤ b) : MX key nonce a l base g cap w B :=
  ⟨h.1.only k (.inr (fun e => by have := hr g e.symm; omega)), grown_far h.2 k hr⟩

theorem Own.isCells {w : World} {base g n cap : Nat} {l : List Nat} (h : Own w base (.slice (some ⟨g, 0, none⟩) n cap) l) : ∃ o : Obj, w.heap[g]? = some o ∧ o.isCells = true := by
  rcases h.2.2 with ⟨h', _⟩ | ⟨g', cap', cur, h', _, hg, _⟩
  · simp at h'
  · simp only [Value.slice.injEq, Option.some.injEq, Addr.mk.injEq, and_true] at h'
    obtain ⟨rfl, -, -⟩ := h'
    exact ⟨_, hg, rfl⟩
theorem mask_close {B base g n cap : Nat} {w A wr : World} {x7 x8 u7 u8 : Value} {t7 t8 : TypeId} (hgw : g < w.heap.size) (hB : B = w.heap.size + 7) (hAB : w.heap.size + 7 ≤ A.heap.size) (hgt : A.grownBy wr (some g)) (hc : ∃ o : Obj, A.heap[g]? = some o ∧ o.isCells = true)
    (h7 : A.heap[w.heap.size + 2]? = some (.cells #[x7] t7 (0, 0))) (h8 : A.heap[w.heap.size + 3]? = some (.cells #[x8] t8 (0, 0))) (hwA : w.grownBy A (some g)) :
    Keeps2 B A ((wr.setCell ⟨w.heap.size + 2, 0, none⟩ u7).setCell ⟨w.heap.size + 3, 0, none⟩ u8) ∧ SameAt (fun k => k = w.heap.size + 4 ∨ k = w.heap.size + 5 ∨ k = w.heap.size + 6) A ((wr.setCell ⟨w.heap.size + 2, 0, none⟩ u7).setCell ⟨w.heap.size + 3, 0, none⟩ u8) ∧
      (∀ l, Own wr base (.slice (some ⟨g, 0, none⟩) n cap) l → Own ((wr.setCell ⟨w.heap.size + 2, 0, none⟩ u7).setCell ⟨w.heap.size + 3, 0, none⟩ u8) base (.slice (some ⟨g, 0, none⟩) n cap) l) ∧ w.grownBy ((wr.setCell ⟨w.heap.size + 2, 0, none⟩ u7).setCell ⟨w.heap.size + 3, 0, none⟩ u8) (some g) ∧
      ((wr.setCell ⟨w.heap.size + 2, 0, none⟩ u7).setCell ⟨w.heap.size + 3, 0, none⟩ u8).heap[w.heap.size + 2]? = some (.cells #[u7] t7 (0, 0)) ∧ ((wr.setCell ⟨w.heap.size + 2, 0, none⟩ u7).setCell ⟨w.heap.size + 3, 0, none⟩ u8).heap[w.heap.size + 3]? = some (.cells #[u8] t8 (0, 0)) := by
  have w7 : wr.heap[w.heap.size + 2]? = some (.cells #[x7] t7 (0, 0)) := (hgt.block _ (by omega) (by simp; omega)).trans h7
  have w8 : wr.heap[w.heap.size + 3]? = some (.cells #[x8] t8 (0, 0)) := (hgt.block _ (by omega) (by simp; omega)).trans h8
  have s7 : wr.grownBy (wr.setCell ⟨w.heap.size + 2, 0, none⟩ u7) (some (w.heap.size + 2)) := only_set (only_refl _ _) 0 _
  have n1 : w.heap.size + 3 ≠ w.heap.size + 2 := by omega
  have n2 : w.heap.size + 2 ≠ w.heap.size + 3 := by omega
  have v8 : (wr.setCell ⟨w.heap.size + 2, 0, none⟩ u7).heap[w.heap.size + 3]? = some (.cells #[x8] t8 (0, 0)) := (blk_setCell_other _ _ _ _ n1).trans w8
  have s8 : (wr.setCell ⟨w.heap.size + 2, 0, none⟩ u7).grownBy ((wr.setCell ⟨w.heap.size + 2, 0, none⟩ u7).setCell ⟨w.heap.size + 3, 0, none⟩ u8) (some (w.heap.size + 3)) := only_set (only_refl _ _) 0 _
  have v7 := one_setCell (u := u7) w7
  have e7 : ((wr.setCell ⟨w.heap.size + 2, 0, none⟩ u7).setCell ⟨w.heap.size + 3, 0, none⟩ u8).heap[w.heap.size + 2]? = some (.cells #[u7] t7 (0, 0)) := (blk_setCell_other _ _ _ _ n2).trans v7
  have e8 := one_setCell (u := u8) v8
  refine ⟨((Keeps2.grown hgt (fun b e => by cases e; exact hc)).trans (Keeps2.grown s7 (fun b e => by cases e; exact ⟨_, w7, rfl⟩))).trans (Keeps2.grown s8 (fun b e => by cases e; exact ⟨_, v8, rfl⟩)), ?_, ?_, ?_, e7, e8⟩
  · intro k hk
    have m1 : k ≠ w.heap.size + 3 := by omega
    have m2 : k ≠ w.heap.size + 2 := by omega
    exact (blk_setCell_other _ _ _ _ m1).trans ((blk_setCell_other _ _ _ _ m2).trans (hgt.block k (by omega) (by simp; omega)))
  · intro l ho
    exact (ho.only s7 (.inr (by simp [Value.ownBlock]; omega))).only s8 (.inr (by simp [Value.ownBlock]; omega))
  · exact grown_far (grown_far (only_trans hwA hgt) s7 (fun b e => by cases e; omega)) s8 (fun b e => by cases e; omega)

set_option maxRecDepth 100000 in
set_option maxHeartbeats 4000000 in
theorem mask_some (key nonce : Nat → Nat) (a : Nat) (l : List Nat) (base g cap : Nat) (w : World) (hk : Aes.B8 key) (hn : Aes.B8 nonce) (ha : a ≤ 4611686018427387904) (hpos : 0 < l.length) (hlen : l.length ≤ 140737488355328) (hown : Own w base (.slice (some ⟨g, 0, none⟩) l.length cap) l) (hgb : base ≤ g) (hgw : g < w.heap.size) (hcap : l.length ≤ cap) (hc63 : cap ≤ 9223372036854775807) :
    Calls Try.prog 43 #[.agg (arr .u8 16 key), .agg (arr .u8 8 nonce), .int .i64 a, .slice (some ⟨g, 0, none⟩) l.length cap] w fun e w' => e = .returned (.tuple #[]) ∧ MX key nonce a l base g cap w w' := by
  have hsz := arr_size .u8 16 key
  have hsz2 := arr_size .u8 8 nonce
  have HK := Lib.hid hk; have HN := Lib.hid hn; have HO := Lib.hid hown
  clear hk hn hown
  obtain ⟨s, hs⟩ : ∃ s, s = a % 16 := ⟨_, rfl⟩
  obtain ⟨q, hq⟩ : ∃ q, q = a / 16 := ⟨_, rfl⟩
  have hsi : (a : Int) % 16 = (s : Int) := by omega
  have hqi : (a : Int) / 16 = (q : Int) := by omega
  have hs16 : s < 16 := by omega
  have hq64 : q ≤ 4611686018427387904 := by omega
  have HS := Lib.hid hs; have HQ := Lib.hid hq
  have hne : ((l.length : Int) == 0) = false := by rw [beq_eq_false_iff_ne]; omega
  clear hs hq
  refine (callsIn_wide (n := 3)).1 (callsIn_of_wp_marks Try.func43 rfl trivial ?_ rfl)
  refine wpIn_wide.2 ?_
  simp only [Try.ntmps43, List.size_toArray, List.length_cons, List.length_nil, Nat.reduceAdd, Nat.reduceSub, Array.replicate_succ, Array.replicate_zero, List.push_toArray, List.append_toArray, List.nil_append, List.cons_append]
  go_upto_region 3 with fail
  generalize hW : (World.alloc _ _ : World) = V
  have INV : isArr V w.heap.size 22 .u8 16 key ∧ isArr V (w.heap.size + 1) 40 .u8 8 nonce ∧ V.heap[w.heap.size + 2]? = some (.cells #[.slice (some ⟨g, 0, none⟩) l.length cap] 43 (0, 0)) ∧ V.heap[w.heap.size + 3]? = some (.cells #[.int .i64 (s : Int)] 3 (0, 0)) ∧ V.heap.size = w.heap.size + 4 ∧ Below w.heap.size w V := by
    rw [← hW]
    have z1 : w.heap.size + 1 = (w.alloc (Obj.cells (arr IntKind.u8 16 key) 22)).heap.size := by simp
    have z2 : w.heap.size + 2 = ((w.alloc (Obj.cells (arr IntKind.u8 16 key) 22)).alloc (Obj.cells (arr IntKind.u8 8 nonce) 40)).heap.size := by simp
    have z3 : ∀ o : Obj, w.heap.size + 3 = (((w.alloc (Obj.cells (arr IntKind.u8 16 key) 22)).alloc (Obj.cells (arr IntKind.u8 8 nonce) 40)).alloc o).heap.size := by simp
    refine ⟨(((isArr_new w _ _ _ _).alloc _).alloc _).alloc _, ?_, ?_, ?_, by simp, ((((Below.refl _ _).alloc (Nat.le_refl _) _).alloc (by simp) _).alloc (by simp; omega) _).alloc (by simp; omega) _⟩
    · rw [z1]; exact ((isArr_new _ _ _ _ _).alloc _).alloc _
    · rw [Below.heap_alloc _ _ _ (by simp), z2]; exact heap_alloc_new _ _
    · rw [z3]; exact heap_alloc_new _ _
  have k1 := INV.1
  have k2 := INV.2.1
  have I0 := Lib.hid INV
  clear hW INV hsz hsz2
  go_wp2_with (first | refine wpList_load_row rfl _ _ rfl w.heap.size rfl _ _ (0, 0) _ k1 rfl rfl (info16 _) ?_ | refine wpList_load_row rfl _ _ rfl (w.heap.size + 1) rfl _ _ (0, 0) _ k2 rfl rfl (info8 _) ?_ | (go_at_call 50; refine (blocks_any _ _ q _).mono ?_; rintro e w4 ⟨rfl, rfl⟩))
  have hVs := I0.out.2.2.2.2.1
  rw [hVs]
  have hb3 := boxes3_at key nonce q V
  rw [hVs] at hb3
  have hbb := boxes3_below key nonce q V
  have hbs := boxes3_size key nonce q V
  generalize boxes3 key nonce q V = W at hb3 hbb hbs ⊢
  have hWs : W.heap.size = w.heap.size + 7 := by omega
  have B3 := Lib.hid hb3
  have hwW : Below w.heap.size w W := I0.out.2.2.2.2.2.trans (hbb.mono (by omega))
  have hI0 : CMI key nonce a l base g cap s w 0 W := by
    refine ⟨by simpa [Ctr.dn] using hpos, ?_, ?_, ?_, only_of_below hwW _⟩
    · rw [hbb.block _ (by omega), I0.out.2.2.1]; simp [Ctr.dn]
    · rw [hbb.block _ (by omega), I0.out.2.2.2.1]; simp [Ctr.sk]
    · rw [show Ctr.dn s 0 = 0 from rfl, Ctr.mask_zero]; exact HO.out.below hwW
  have II := Lib.hid hI0
  have WS := Lib.hid hWs
  clear hb3 hbb hbs hI0 hwW k1 k2 hVs I0
  refine (wpIn_wide (n := 3)).1 ?_
  refine range_ret rfl (Go.Proofs.enters_of Try.func53 (by kernel_rfl) rfl) (fun j => #[.agg (arr .u8 16 (Ctr.bk key nonce (q + j)))]) (fun _ => rfl) (fun A B => A.grownBy B (some (w.heap.size + 6)))
    (CMI key nonce a l base g cap s w) (MX key nonce a l base g cap w) (fun k => k = w.heap.size + 4 ∨ k = w.heap.size + 5 ∨ k = w.heap.size + 6) (fun k hk => by have := WS.out; omega)
    ?iter ?hT ?hIT ?hI ?hIx II.out ?round ?stop
  case iter =>
    intro lp J Jx W0 hsame hT hJI hY h0
    exact blocks_iter key nonce HK.out HN.out q (l.length + 16) (by omega) (w.heap.size + 4) (w.heap.size + 5) (w.heap.size + 6) (by omega) (by omega) _ lp J Jx W0 hT
      (fun j A h => by have h1 := (hJI j A h).1; unfold Ctr.dn at h1; split at h1 <;> omega) hY h0
      (B3.out.1.of_block (hsame _ (.inl rfl))) (B3.out.2.1.of_block (hsame _ (.inr (.inl rfl)))) ((hsame _ (.inr (.inr rfl))).trans B3.out.2.2)
  case hT => intro A B h k hk1 hk2; exact h.block k hk2 (by have := WS.out; simp; omega)
  case hIT => intro j A B h k; exact h.turn k hgw (fun b e => by cases e; omega)
  case hI => rintro j A B h ⟨r, k, hr⟩; exact h.turn k hgw (fun b e => by have := (hr b e).1; have := WS.out; omega)
  case hIx => rintro A B h ⟨r, k, hr⟩; exact h.turn k hgw (fun b e => by have := (hr b e).1; have := WS.out; omega)
  case round =>
    intro lp j W1 hi hl1 hl2
    have HI := Lib.hid hi
    clear hi II B3
    refine ⟨fun a' A => ∃ Bx, w.heap.size + 7 ≤ Bx ∧ isArr A Bx 22 .u8 16 (Ctr.bk key nonce (q + j)) ∧ CMI key nonce a l base g cap s w j A ∧ a' = { tmps := #[.agg (arr .u8 16 key), .agg (arr .u8 8 nonce), .int .i64 (a : Int), .slice (some ⟨g, 0, none⟩) l.length cap, .pointer (some ⟨w.heap.size, 0, none⟩), .pointer (some ⟨w.heap.size + 1, 0, none⟩), undef, .pointer (some ⟨w.heap.size + 1 + 1, 0, none⟩), .pointer (some ⟨w.heap.size + 1 + 1 + 1, 0, none⟩), .pointer (some ⟨Bx, 0, none⟩), undef, undef, .slice (some ⟨g, 0, none⟩) l.length cap, .int .i64 (l.length : Int), .bool false, .int .i64 (a : Int), .int .i64 (s : Int), .agg (arr .u8 16 key), .agg (arr .u8 8 nonce), .int .i64 (a : Int), .int .i64 (q : Int), .int .u64 (q : Int), .func (.func 53) #[] #[.pointer (some ⟨w.heap.size + 4, 0, none⟩), .pointer (some ⟨w.heap.size + 4 + 1, 0, none⟩), .pointer (some ⟨w.heap.size + 4 + 2, 0, none⟩)], .agg (arr .u8 16 (Ctr.bk key nonce (q + j))), undef, undef, undef, undef, undef, undef, undef, undef, undef, undef, undef, undef, undef, undef, undef, undef, undef, undef, undef, undef, undef, undef, undef, undef, undef, undef, undef], defers := [] }, ?_, ?_, ?_⟩
    · intro K hK
      have KK := Lib.hid hK
      clear hK
      have hz := hl2
      gi_wp2_with (refine listIn_of_law rfl rfl fun K' hK' => ?_; refine wpList_store_rowTo rfl _ _ _ rfl rfl W1.heap.size _ rfl rfl _ _ (heap_alloc_new _ _) (info16 _) (by rw [arr_size]; first | rfl | simp) (arr_one _ _ _) ?_; refine hK' _ _ ?_)
      have hz7 : w.heap.size + 7 ≤ W1.heap.size := by have := WS.out; omega
      have hbW : Below W1.heap.size W1 ((W1.alloc (.cells #[.int .u8 0, .int .u8 0, .int .u8 0, .int .u8 0, .int .u8 0, .int .u8 0, .int .u8 0, .int .u8 0, .int .u8 0, .int .u8 0, .int .u8 0, .int .u8 0, .int .u8 0, .int .u8 0, .int .u8 0, .int .u8 0] 22)).setRow W1.heap.size (arr .u8 16 (Ctr.bk key nonce (q + j)))) := below_setRow ((Below.refl _ _).alloc (Nat.le_refl _) _) (Nat.le_refl _) _
      refine KK.out _ _ ⟨W1.heap.size, hz7, setRow_heap _ _ _ _ _ (0, 0) (heap_alloc_new _ _), HI.out.turn (only_of_below hbW none) hgw (fun b e => by cases e), rfl⟩ (Keeps2.grown (only_of_below hbW none) (fun b e => by cases e)) (fun k hk => hbW.block k (by omega))
    · rintro a' A B ⟨Bx, h1, h2, h3, rfl⟩ ⟨r, k, hr⟩
      refine ⟨Bx, h1, h2.of_block (k.block _ h2.lt (fun e => ?_)), h3.turn k hgw (fun b e => by have := (hr b e).1; have := WS.out; omega), rfl⟩
      obtain ⟨_, o, ho, hc⟩ := hr Bx e.symm
      have : some o = some (Obj.cells (arr .u8 16 (Ctr.bk key nonce (q + j))) 22 (0, 0)) := ho.symm.trans h2
      cases this
      cases hc
    · rintro a' A ⟨Bx, hBx, hbx, hi, rfl⟩
      obtain ⟨hdl, h7, h8, ho, hgr⟩ := hi
      have POS := Lib.hid (fun t ht => Ctr.pos (j := j) (t := t) HS.out HQ.out ht)
      obtain ⟨hnx, hk0, hk16⟩ := Ctr.dn_next (j := j) hs16
      have NX := Lib.hid hnx
      have K0 := Lib.hid hk0
      have BX := Lib.hid hbx
      have H7 := Lib.hid h7; have H8 := Lib.hid h8; have HOW := Lib.hid ho; have HG := Lib.hid hgr
      have c7 := cell_of_one h7
      have c8 := cell_of_one h8
      clear hnx hk0 hbx h7 h8 ho hgr HI
      generalize Ctr.dn s j = d at hdl POS NX H7 HOW c7
      generalize Ctr.sk s j = k at POS NX hk16 H8 c8
      obtain ⟨m, hm⟩ : ∃ m, m = l.length - d := ⟨_, rfl⟩
      rw [← hm] at c7 H7
      obtain ⟨c, hc⟩ : ∃ c, c = cap - d := ⟨_, rfl⟩
      rw [← hc] at c7 H7
      have HM := Lib.hid hm; have HC := Lib.hid hc
      have hm1 : 0 < m := by omega
      have hmc : m ≤ c := by omega
      clear hm hc
      by_cases hlast : m ≤ 16 - k
      · have hkm : k + m ≤ 16 := by omega
        rcases (show m = 16 - k ∨ m < 16 - k by omega) with heq | hlt
        · have hek : 16 - (k : Int) = (m : Int) := by omega
          clear heq hlast
          gi_wp2_with fail
          have hX0 : Own A base (.slice (some ⟨g, 0, none⟩) l.length cap) (Ctr.mask key nonce a l (d + 0)) := HOW.out
          have HX0 := Lib.hid hX0; clear hX0
          gi_loopw [30] (fun i wr => ∃ t : Nat, t ≤ m ∧ i = .int .i64 t ∧ Own wr base (.slice (some ⟨g, 0, none⟩) l.length cap) (Ctr.mask key nonce a l (d + t)) ∧ A.grownBy wr (some g)) (fun i _ => m - (intOf i).toNat)
          case atStart => exact ⟨0, by omega, rfl, HX0.out, only_refl _ _⟩
          case round =>
            obtain ⟨t, ht, rfl, hot, hgt⟩ := hrel
            clear HX0
            by_cases htx : t < m
            · have lt : (t : Int) < (m : Int) := by omega
              have HOT := Lib.hid hot; have HGT := Lib.hid hgt
              have hll : d + t < (Ctr.mask key nonce a l (d + t)).length := by rw [Ctr.mask_length]; have := HM.out; omega
              have ct : wr.cell? ⟨g, d + t, none⟩ = some (bv (l.getD (d + t) 0)) := by
                have h := hot.bs.rs.2.2
                rw [← Ctr.mask_length key nonce a l (d + t)] at hot
                rw [hot.cellAt hll, Ctr.mask_get _ _ _ _ _ _ (by have := HM.out; omega), if_neg (Nat.lt_irrefl _)]
              have ft : wr.frozen? ⟨g, d + t, none⟩ = false := by
                rw [← Ctr.mask_length key nonce a l (d + t)] at hot
                exact hot.frozenAt _
              have hx256 : l.getD (d + t) 0 < 256 := HO.out.1.get _
              have C7 := Lib.hid (fun (w' : World) (h : wr.grownBy w' (some g)) => (h.block (w.heap.size + 2) (Nat.lt_of_lt_of_le (Array.getElem?_eq_some_iff.1 H7.out).1 hgt.size) (by simp; omega)).trans ((hgt.block (w.heap.size + 2) (Array.getElem?_eq_some_iff.1 H7.out).1 (by simp; omega)).trans H7.out))
              have C8 := Lib.hid (fun (w' : World) (h : wr.grownBy w' (some g)) => (h.block (w.heap.size + 3) (Nat.lt_of_lt_of_le (Array.getElem?_eq_some_iff.1 H8.out).1 hgt.size) (by simp; omega)).trans ((hgt.block (w.heap.size + 3) (Array.getElem?_eq_some_iff.1 H8.out).1 (by simp; omega)).trans H8.out))
              have C9 := Lib.hid (fun (w' : World) (h : wr.grownBy w' (some g)) => ((BX.out.of_block (hgt.block Bx BX.out.lt (by simp; omega))).of_block (h.block Bx (Nat.lt_of_lt_of_le BX.out.lt hgt.size) (by simp; omega))))
              obtain ⟨p1, p2⟩ := POS.out t (by omega)
              have hby : Ctr.bk key nonce (q + j) (k + t) = Ctr.byte key nonce (a + (d + t)) := by unfold Ctr.byte; rw [p1, p2]
              have hb256 := Ctr.bk_b8 HK.out HN.out (q + j) (k + t)
              have NXT := Lib.hid (Ctr.mask_set key nonce a l (d + t) (by have := HM.out; omega))
              have HBY := Lib.hid hby
              clear p1 p2 hot hgt hby c7 c8 hll
              generalize l.getD (d + t) 0 = p at ct hx256 NXT
              gi_wp2_with fail
              refine wp_regIn Try.f43 9 12 (fun w' => wr.grownBy w' (some g)) (by kernel_rfl) (by kernel_rfl) (by kernel_rfl) (by kernel_rfl) (only_drewN (only_refl _ _) 1) (fun K hK h0 => ?_)
              refine reg_cast (listed' := #[false, false, false, false, false, false, false, false, false, false, false, false]) (by kernel_rfl) rfl ?_
              have HF := Lib.hid hK; clear hK
              refine reg_take 0 33 (.slice (some ⟨g, d, none⟩) m c) (by kernel_rfl) (fun w' h => exec_load_sl (.tmp 7) ⟨w.heap.size + 2, 0, none⟩ _ m c (by kernel_rfl) (by kernel_rfl) (cell_of_one (C7.out w' h))) h0 ?_
              simp only [Act.put, List.setIfInBounds_toArray, List.set_cons_zero, List.set_cons_succ]
              refine reg_take 1 34 (.int .i64 t) (by kernel_rfl) (fun _ _ => by kernel_rfl) h0 ?_
              simp only [Act.put, List.setIfInBounds_toArray, List.set_cons_zero, List.set_cons_succ]
              refine reg_take 2 35 (.pointer (some ⟨g, d + t, none⟩)) (by kernel_rfl) (fun _ _ => exec_index_bytes (cap := c) (len := m) (x := .tmp 33) (y := .tmp 34) (by kernel_rfl) (by kernel_rfl) (by kernel_rfl) (by omega)) h0 ?_
              simp only [Act.put, List.setIfInBounds_toArray, List.set_cons_zero, List.set_cons_succ]
              refine reg_take 4 37 (.int .i64 k) (by kernel_rfl) (fun w' h => exec_load_i64 (.tmp 8) ⟨w.heap.size + 3, 0, none⟩ k (by kernel_rfl) (by kernel_rfl) (cell_of_one (C8.out w' h))) h0 ?_
              simp only [Act.put, List.setIfInBounds_toArray, List.set_cons_zero, List.set_cons_succ]
              refine reg_take 5 38 (.int .i64 t) (by kernel_rfl) (fun _ _ => by kernel_rfl) h0 ?_
              simp only [Act.put, List.setIfInBounds_toArray, List.set_cons_zero, List.set_cons_succ]
              refine reg_take 6 39 (.int .i64 ((k + t : Nat) : Int)) (by kernel_rfl) (fun _ _ => exec_add_i64 (.tmp 37) (.tmp 38) k t (by kernel_rfl) (by kernel_rfl) (by kernel_rfl) (by omega)) h0 ?_
              simp only [Act.put, List.setIfInBounds_toArray, List.set_cons_zero, List.set_cons_succ]
              refine reg_take 7 40 (.pointer (some ⟨Bx, k + t, none⟩)) (by kernel_rfl) (fun _ _ => exec_index_a16 (x := .tmp 9) (y := .tmp 39) (by kernel_rfl) (by kernel_rfl) (by kernel_rfl) (by omega)) h0 ?_
              simp only [Act.put, List.setIfInBounds_toArray, List.set_cons_zero, List.set_cons_succ]
              refine reg_take 8 41 (.int .u8 (Ctr.bk key nonce (q + j) (k + t) : Int)) (by kernel_rfl) (fun w' h => exec_load_u8 (.tmp 40) ⟨Bx, k + t, none⟩ _ (by kernel_rfl) (by kernel_rfl) ((C9.out w' h).cell (by omega))) h0 ?_
              simp only [Act.put, List.setIfInBounds_toArray, List.set_cons_zero, List.set_cons_succ]
              refine reg_one 3 (by kernel_rfl) (by kernel_rfl) (HStep.value (some 36) (by kernel_rfl) (by kernel_rfl) (.int .u8 (p : Int)) _ (exec_load_u8 (.tmp 35) ⟨g, d + t, none⟩ (p : Int) (by kernel_rfl) (by kernel_rfl) ct) h0 ?_)
              simp only [Act.put, List.setIfInBounds_toArray, List.set_cons_zero, List.set_cons_succ]
              refine reg_take 9 42 (.int .u8 ((p ^^^ Ctr.bk key nonce (q + j) (k + t) : Nat) : Int)) (by kernel_rfl) (fun _ _ => exec_xor_u8 (.tmp 36) (.tmp 41) p (Ctr.bk key nonce (q + j) (k + t)) (by kernel_rfl) (by kernel_rfl) (by kernel_rfl) hx256 hb256) h0 ?_
              simp only [Act.put, List.setIfInBounds_toArray, List.set_cons_zero, List.set_cons_succ]
              refine reg_take 10 43 (.pointer (some ⟨g, d + t, none⟩)) (by kernel_rfl) (fun _ _ => exec_index_bytes (cap := c) (len := m) (x := .tmp 33) (y := .tmp 34) (by kernel_rfl) (by kernel_rfl) (by kernel_rfl) (by omega)) h0 ?_
              simp only [Act.put, List.setIfInBounds_toArray, List.set_cons_zero, List.set_cons_succ]
              have hst : Own wr base (.slice (some ⟨g, 0, none⟩) l.length cap) (Ctr.mask key nonce a l (d + t)) := HOT.out
              obtain ⟨hs1, hs2⟩ := (HOT.out.drewN 1).set (d + t) (p ^^^ Ctr.bk key nonce (q + j) (k + t)) (Fld.xor_lt _ _ hx256 hb256)
              refine reg_one 11 (by kernel_rfl) (by kernel_rfl) (HStep.skip none (by kernel_rfl) (by kernel_rfl) _ (exec_store_u8 (.tmp 43) (.tmp 42) ⟨g, d + t, none⟩ _ (p : Int) (by kernel_rfl) (by kernel_rfl) (by kernel_rfl) ct ft) (only_trans h0 hs2) ?_)
              refine reg_done (by kernel_rfl) (HF.out _ _ ?_)
              simp only [Act.put, List.setIfInBounds_toArray, List.set_cons_zero, List.set_cons_succ]
              clear HF h0 hst
              have hmk : (Ctr.mask key nonce a l (d + t)).set (d + t) (p ^^^ Ctr.bk key nonce (q + j) (k + t)) = Ctr.mask key nonce a l (d + (t + 1)) := by rw [HBY.out]; exact NXT.out
              rw [hmk] at hs1
              clear hmk
              have hs2 := only_trans HGT.out (only_trans (only_drewN (only_refl wr (some g)) 1) hs2)
              have J1 := Lib.hid (And.intro hs1 hs2)
              clear hs1 hs2 ct ft
              generalize (wr.drewN 1).setCell _ _ = V at J1 ⊢
              gi_wp2_with fail
              go_roundw
              case rel => exact ⟨t + 1, by omega, by go_num, J1.out.1, J1.out.2⟩
              case measure => simp [intOf]; omega
            · obtain rfl : m = t := by omega
              have h7w := (hgt.block (w.heap.size + 2) (Array.getElem?_eq_some_iff.1 H7.out).1 (by simp; omega)).trans H7.out
              have h8w := (hgt.block (w.heap.size + 3) (Array.getElem?_eq_some_iff.1 H8.out).1 (by simp; omega)).trans H8.out
              have c7 := cell_of_one h7w; have f7 := free_of_one h7w; have c8 := cell_of_one h8w; have f8 := free_of_one h8w
              have HOT := Lib.hid hot; have HGT := Lib.hid hgt
              have hAW : w.heap.size + 7 ≤ A.heap.size := Nat.le_of_lt (Nat.lt_of_le_of_lt hBx BX.out.lt)
              clear h7w h8w hot hgt
              rcases Nat.lt_or_ge m c with hmc2 | hge
              rotate_left
              obtain rfl : m = c := by omega
              all_goals
                gi_wp2_with fail
                have hfin := HOT.out
                rw [show d + m = l.length by have := HM.out; omega, Ctr.mask_all _ _ _ _ _ (Nat.le_refl _)] at hfin
                exact ⟨(mask_close (base := base) (n := l.length) (cap := cap) (B := W.heap.size) hgw WS.out hAW HGT.out HOW.out.isCells H7.out H8.out HG.out).1, (mask_close (base := base) (n := l.length) (cap := cap) (B := W.heap.size) hgw WS.out hAW HGT.out HOW.out.isCells H7.out H8.out HG.out).2.2.1 _ hfin, (mask_close (base := base) (n := l.length) (cap := cap) (B := W.heap.size) hgw WS.out hAW HGT.out HOW.out.isCells H7.out H8.out HG.out).2.2.2.1⟩
        · have hml : (m : Int) < 16 - (k : Int) := by omega
          clear hlast hlt
          gi_wp2_with fail
          have hX0 : Own A base (.slice (some ⟨g, 0, none⟩) l.length cap) (Ctr.mask key nonce a l (d + 0)) := HOW.out
          have HX0 := Lib.hid hX0; clear hX0
          gi_loopw [30] (fun i wr => ∃ t : Nat, t ≤ m ∧ i = .int .i64 t ∧ Own wr base (.slice (some ⟨g, 0, none⟩) l.length cap) (Ctr.mask key nonce a l (d + t)) ∧ A.grownBy wr (some g)) (fun i _ => m - (intOf i).toNat)
          case atStart => exact ⟨0, by omega, rfl, HX0.out, only_refl _ _⟩
          case round =>
            obtain ⟨t, ht, rfl, hot, hgt⟩ := hrel
            clear HX0
            by_cases htx : t < m
            · have lt : (t : Int) < (m : Int) := by omega
              have HOT := Lib.hid hot; have HGT := Lib.hid hgt
              have hll : d + t < (Ctr.mask key nonce a l (d + t)).length := by rw [Ctr.mask_length]; have := HM.out; omega
              have ct : wr.cell? ⟨g, d + t, none⟩ = some (bv (l.getD (d + t) 0)) := by
                have h := hot.bs.rs.2.2
                rw [← Ctr.mask_length key nonce a l (d + t)] at hot
                rw [hot.cellAt hll, Ctr.mask_get _ _ _ _ _ _ (by have := HM.out; omega), if_neg (Nat.lt_irrefl _)]
              have ft : wr.frozen? ⟨g, d + t, none⟩ = false := by
                rw [← Ctr.mask_length key nonce a l (d + t)] at hot
                exact hot.frozenAt _
              have hx256 : l.getD (d + t) 0 < 256 := HO.out.1.get _
              have C7 := Lib.hid (fun (w' : World) (h : wr.grownBy w' (some g)) => (h.block (w.heap.size + 2) (Nat.lt_of_lt_of_le (Array.getElem?_eq_some_iff.1 H7.out).1 hgt.size) (by simp; omega)).trans ((hgt.block (w.heap.size + 2) (Array.getElem?_eq_some_iff.1 H7.out).1 (by simp; omega)).trans H7.out))
              have C8 := Lib.hid (fun (w' : World) (h : wr.grownBy w' (some g)) => (h.block (w.heap.size + 3) (Nat.lt_of_lt_of_le (Array.getElem?_eq_some_iff.1 H8.out).1 hgt.size) (by simp; omega)).trans ((hgt.block (w.heap.size + 3) (Array.getElem?_eq_some_iff.1 H8.out).1 (by simp; omega)).trans H8.out))
              have C9 := Lib.hid (fun (w' : World) (h : wr.grownBy w' (some g)) => ((BX.out.of_block (hgt.block Bx BX.out.lt (by simp; omega))).of_block (h.block Bx (Nat.lt_of_lt_of_le BX.out.lt hgt.size) (by simp; omega))))
              obtain ⟨p1, p2⟩ := POS.out t (by omega)
              have hby : Ctr.bk key nonce (q + j) (k + t) = Ctr.byte key nonce (a + (d + t)) := by unfold Ctr.byte; rw [p1, p2]
              have hb256 := Ctr.bk_b8 HK.out HN.out (q + j) (k + t)
              have NXT := Lib.hid (Ctr.mask_set key nonce a l (d + t) (by have := HM.out; omega))
              have HBY := Lib.hid hby
              clear p1 p2 hot hgt hby c7 c8 hll
              generalize l.getD (d + t) 0 = p at ct hx256 NXT
              gi_wp2_with fail
              refine wp_regIn Try.f43 9 12 (fun w' => wr.grownBy w' (some g)) (by kernel_rfl) (by kernel_rfl) (by kernel_rfl) (by kernel_rfl) (only_drewN (only_refl _ _) 1) (fun K hK h0 => ?_)
              refine reg_cast (listed' := #[false, false, false, false, false, false, false, false, false, false, false, false]) (by kernel_rfl) rfl ?_
              have HF := Lib.hid hK; clear hK
              refine reg_take 0 33 (.slice (some ⟨g, d, none⟩) m c) (by kernel_rfl) (fun w' h => exec_load_sl (.tmp 7) ⟨w.heap.size + 2, 0, none⟩ _ m c (by kernel_rfl) (by kernel_rfl) (cell_of_one (C7.out w' h))) h0 ?_
              simp only [Act.put, List.setIfInBounds_toArray, List.set_cons_zero, List.set_cons_succ]
              refine reg_take 1 34 (.int .i64 t) (by kernel_rfl) (fun _ _ => by kernel_rfl) h0 ?_
              simp only [Act.put, List.setIfInBounds_toArray, List.set_cons_zero, List.set_cons_succ]
              refine reg_take 2 35 (.pointer (some ⟨g, d + t, none⟩)) (by kernel_rfl) (fun _ _ => exec_index_bytes (cap := c) (len := m) (x := .tmp 33) (y := .tmp 34) (by kernel_rfl) (by kernel_rfl) (by kernel_rfl) (by omega)) h0 ?_
              simp only [Act.put, List.setIfInBounds_toArray, List.set_cons_zero, List.set_cons_succ]
              refine reg_take 4 37 (.int .i64 k) (by kernel_rfl) (fun w' h => exec_load_i64 (.tmp 8) ⟨w.heap.size + 3, 0, none⟩ k (by kernel_rfl) (by kernel_rfl) (cell_of_one (C8.out w' h))) h0 ?_
              simp only [Act.put, List.setIfInBounds_toArray, List.set_cons_zero, List.set_cons_succ]
              refine reg_take 5 38 (.int .i64 t) (by kernel_rfl) (fun _ _ => by kernel_rfl) h0 ?_
              simp only [Act.put, List.setIfInBounds_toArray, List.set_cons_zero, List.set_cons_succ]
              refine reg_take 6 39 (.int .i64 ((k + t : Nat) : Int)) (by kernel_rfl) (fun _ _ => exec_add_i64 (.tmp 37) (.tmp 38) k t (by kernel_rfl) (by kernel_rfl) (by kernel_rfl) (by omega)) h0 ?_
              simp only [Act.put, List.setIfInBounds_toArray, List.set_cons_zero, List.set_cons_succ]
              refine reg_take 7 40 (.pointer (some ⟨Bx, k + t, none⟩)) (by kernel_rfl) (fun _ _ => exec_index_a16 (x := .tmp 9) (y := .tmp 39) (by kernel_rfl) (by kernel_rfl) (by kernel_rfl) (by omega)) h0 ?_
              simp only [Act.put, List.setIfInBounds_toArray, List.set_cons_zero, List.set_cons_succ]
              refine reg_take 8 41 (.int .u8 (Ctr.bk key nonce (q + j) (k + t) : Int)) (by kernel_rfl) (fun w' h => exec_load_u8 (.tmp 40) ⟨Bx, k + t, none⟩ _ (by kernel_rfl) (by kernel_rfl) ((C9.out w' h).cell (by omega))) h0 ?_
              simp only [Act.put, List.setIfInBounds_toArray, List.set_cons_zero, List.set_cons_succ]
              refine reg_one 3 (by kernel_rfl) (by kernel_rfl) (HStep.value (some 36) (by kernel_rfl) (by kernel_rfl) (.int .u8 (p : Int)) _ (exec_load_u8 (.tmp 35) ⟨g, d + t, none⟩ (p : Int) (by kernel_rfl) (by kernel_rfl) ct) h0 ?_)
              simp only [Act.put, List.setIfInBounds_toArray, List.set_cons_zero, List.set_cons_succ]
              refine reg_take 9 42 (.int .u8 ((p ^^^ Ctr.bk key nonce (q + j) (k + t) : Nat) : Int)) (by kernel_rfl) (fun _ _ => exec_xor_u8 (.tmp 36) (.tmp 41) p (Ctr.bk key nonce (q + j) (k + t)) (by kernel_rfl) (by kernel_rfl) (by kernel_rfl) hx256 hb256) h0 ?_
              simp only [Act.put, List.setIfInBounds_toArray, List.set_cons_zero, List.set_cons_succ]
              refine reg_take 10 43 (.pointer (some ⟨g, d + t, none⟩)) (by kernel_rfl) (fun _ _ => exec_index_bytes (cap := c) (len := m) (x := .tmp 33) (y := .tmp 34) (by kernel_rfl) (by kernel_rfl) (by kernel_rfl) (by omega)) h0 ?_
              simp only [Act.put, List.setIfInBounds_toArray, List.set_cons_zero, List.set_cons_succ]
              have hst : Own wr base (.slice (some ⟨g, 0, none⟩) l.length cap) (Ctr.mask key nonce a l (d + t)) := HOT.out
              obtain ⟨hs1, hs2⟩ := (HOT.out.drewN 1).set (d + t) (p ^^^ Ctr.bk key nonce (q + j) (k + t)) (Fld.xor_lt _ _ hx256 hb256)
              refine reg_one 11 (by kernel_rfl) (by kernel_rfl) (HStep.skip none (by kernel_rfl) (by kernel_rfl) _ (exec_store_u8 (.tmp 43) (.tmp 42) ⟨g, d + t, none⟩ _ (p : Int) (by kernel_rfl) (by kernel_rfl) (by kernel_rfl) ct ft) (only_trans h0 hs2) ?_)
              refine reg_done (by kernel_rfl) (HF.out _ _ ?_)
              simp only [Act.put, List.setIfInBounds_toArray, List.set_cons_zero, List.set_cons_succ]
              clear HF h0 hst
              have hmk : (Ctr.mask key nonce a l (d + t)).set (d + t) (p ^^^ Ctr.bk key nonce (q + j) (k + t)) = Ctr.mask key nonce a l (d + (t + 1)) := by rw [HBY.out]; exact NXT.out
              rw [hmk] at hs1
              clear hmk
              have hs2 := only_trans HGT.out (only_trans (only_drewN (only_refl wr (some g)) 1) hs2)
              have J1 := Lib.hid (And.intro hs1 hs2)
              clear hs1 hs2 ct ft
              generalize (wr.drewN 1).setCell _ _ = V at J1 ⊢
              gi_wp2_with fail
              go_roundw
              case rel => exact ⟨t + 1, by omega, by go_num, J1.out.1, J1.out.2⟩
              case measure => simp [intOf]; omega
            · obtain rfl : m = t := by omega
              have h7w := (hgt.block (w.heap.size + 2) (Array.getElem?_eq_some_iff.1 H7.out).1 (by simp; omega)).trans H7.out
              have h8w := (hgt.block (w.heap.size + 3) (Array.getElem?_eq_some_iff.1 H8.out).1 (by simp; omega)).trans H8.out
              have c7 := cell_of_one h7w; have f7 := free_of_one h7w; have c8 := cell_of_one h8w; have f8 := free_of_one h8w
              have HOT := Lib.hid hot; have HGT := Lib.hid hgt
              have hAW : w.heap.size + 7 ≤ A.heap.size := Nat.le_of_lt (Nat.lt_of_le_of_lt hBx BX.out.lt)
              clear h7w h8w hot hgt
              rcases Nat.lt_or_ge m c with hmc2 | hge
              rotate_left
              obtain rfl : m = c := by omega
              all_goals
                gi_wp2_with fail
                have hfin := HOT.out
                rw [show d + m = l.length by have := HM.out; omega, Ctr.mask_all _ _ _ _ _ (Nat.le_refl _)] at hfin
                exact ⟨(mask_close (base := base) (n := l.length) (cap := cap) (B := W.heap.size) hgw WS.out hAW HGT.out HOW.out.isCells H7.out H8.out HG.out).1, (mask_close (base := base) (n := l.length) (cap := cap) (B := W.heap.size) hgw WS.out hAW HGT.out HOW.out.isCells H7.out H8.out HG.out).2.2.1 _ hfin, (mask_close (base := base) (n := l.length) (cap := cap) (B := W.heap.size) hgw WS.out hAW HGT.out HOW.out.isCells H7.out H8.out HG.out).2.2.2.1⟩
      · obtain ⟨x, hx⟩ : ∃ x, x = 16 - k := ⟨_, rfl⟩
        have hek : 16 - (k : Int) = (x : Int) := by omega
        have hxm : x < m := by omega
        have hkx : k + x = 16 := by omega
        clear hlast hx
        gi_wp2_with fail
        have hX0 : Own A base (.slice (some ⟨g, 0, none⟩) l.length cap) (Ctr.mask key nonce a l (d + 0)) := HOW.out
        have HX0 := Lib.hid hX0; clear hX0
        gi_loopw [30] (fun i wr => ∃ t : Nat, t ≤ x ∧ i = .int .i64 t ∧ Own wr base (.slice (some ⟨g, 0, none⟩) l.length cap) (Ctr.mask key nonce a l (d + t)) ∧ A.grownBy wr (some g)) (fun i _ => x - (intOf i).toNat)
        case atStart => exact ⟨0, by omega, rfl, HX0.out, only_refl _ _⟩
        case round =>
          obtain ⟨t, ht, rfl, hot, hgt⟩ := hrel
          clear HX0
          by_cases htx : t < x
          · have lt : (t : Int) < (x : Int) := by omega
            have HOT := Lib.hid hot; have HGT := Lib.hid hgt
            have hll : d + t < (Ctr.mask key nonce a l (d + t)).length := by rw [Ctr.mask_length]; have := HM.out; omega
            have ct : wr.cell? ⟨g, d + t, none⟩ = some (bv (l.getD (d + t) 0)) := by
              have h := hot.bs.rs.2.2
              rw [← Ctr.mask_length key nonce a l (d + t)] at hot
              rw [hot.cellAt hll, Ctr.mask_get _ _ _ _ _ _ (by have := HM.out; omega), if_neg (Nat.lt_irrefl _)]
            have ft : wr.frozen? ⟨g, d + t, none⟩ = false := by
              rw [← Ctr.mask_length key nonce a l (d + t)] at hot
              exact hot.frozenAt _
            have hx256 : l.getD (d + t) 0 < 256 := HO.out.1.get _
            have C7 := Lib.hid (fun (w' : World) (h : wr.grownBy w' (some g)) => (h.block (w.heap.size + 2) (Nat.lt_of_lt_of_le (Array.getElem?_eq_some_iff.1 H7.out).1 hgt.size) (by simp; omega)).trans ((hgt.block (w.heap.size + 2) (Array.getElem?_eq_some_iff.1 H7.out).1 (by simp; omega)).trans H7.out))
            have C8 := Lib.hid (fun (w' : World) (h : wr.grownBy w' (some g)) => (h.block (w.heap.size + 3) (Nat.lt_of_lt_of_le (Array.getElem?_eq_some_iff.1 H8.out).1 hgt.size) (by simp; omega)).trans ((hgt.block (w.heap.size + 3) (Array.getElem?_eq_some_iff.1 H8.out).1 (by simp; omega)).trans H8.out))
            have C9 := Lib.hid (fun (w' : World) (h : wr.grownBy w' (some g)) => ((BX.out.of_block (hgt.block Bx BX.out.lt (by simp; omega))).of_block (h.block Bx (Nat.lt_of_lt_of_le BX.out.lt hgt.size) (by simp; omega))))
            obtain ⟨p1, p2⟩ := POS.out t (by omega)
            have hby : Ctr.bk key nonce (q + j) (k + t) = Ctr.byte key nonce (a + (d + t)) := by unfold Ctr.byte; rw [p1, p2]
            have hb256 := Ctr.bk_b8 HK.out HN.out (q + j) (k + t)
            have NXT := Lib.hid (Ctr.mask_set key nonce a l (d + t) (by have := HM.out; omega))
            have HBY := Lib.hid hby
            clear p1 p2 hot hgt hby c7 c8 hll
            generalize l.getD (d + t) 0 = p at ct hx256 NXT
            gi_wp2_with fail
            refine wp_regIn Try.f43 9 12 (fun w' => wr.grownBy w' (some g)) (by kernel_rfl) (by kernel_rfl) (by kernel_rfl) (by kernel_rfl) (only_drewN (only_refl _ _) 1) (fun K hK h0 => ?_)
            refine reg_cast (listed' := #[false, false, false, false, false, false, false, false, false, false, false, false]) (by kernel_rfl) rfl ?_
            have HF := Lib.hid hK; clear hK
            refine reg_take 0 33 (.slice (some ⟨g, d, none⟩) m c) (by kernel_rfl) (fun w' h => exec_load_sl (.tmp 7) ⟨w.heap.size + 2, 0, none⟩ _ m c (by kernel_rfl) (by kernel_rfl) (cell_of_one (C7.out w' h))) h0 ?_
            simp only [Act.put, List.setIfInBounds_toArray, List.set_cons_zero, List.set_cons_succ]
            refine reg_take 1 34 (.int .i64 t) (by kernel_rfl) (fun _ _ => by kernel_rfl) h0 ?_
            simp only [Act.put, List.setIfInBounds_toArray, List.set_cons_zero, List.set_cons_succ]
            refine reg_take 2 35 (.pointer (some ⟨g, d + t, none⟩)) (by kernel_rfl) (fun _ _ => exec_index_bytes (cap := c) (len := m) (x := .tmp 33) (y := .tmp 34) (by kernel_rfl) (by kernel_rfl) (by kernel_rfl) (by omega)) h0 ?_
            simp only [Act.put, List.setIfInBounds_toArray, List.set_cons_zero, List.set_cons_succ]
            refine reg_take 4 37 (.int .i64 k) (by kernel_rfl) (fun w' h => exec_load_i64 (.tmp 8) ⟨w.heap.size + 3, 0, none⟩ k (by kernel_rfl) (by kernel_rfl) (cell_of_one (C8.out w' h))) h0 ?_
            simp only [Act.put, List.setIfInBounds_toArray, List.set_cons_zero, List.set_cons_succ]
            refine reg_take 5 38 (.int .i64 t) (by kernel_rfl) (fun _ _ => by kernel_rfl) h0 ?_
            simp only [Act.put, List.setIfInBounds_toArray, List.set_cons_zero, List.set_cons_succ]
            refine reg_take 6 39 (.int .i64 ((k + t : Nat) : Int)) (by kernel_rfl) (fun _ _ => exec_add_i64 (.tmp 37) (.tmp 38) k t (by kernel_rfl) (by kernel_rfl) (by kernel_rfl) (by omega)) h0 ?_
            simp only [Act.put, List.setIfInBounds_toArray, List.set_cons_zero, List.set_cons_succ]
            refine reg_take 7 40 (.pointer (some ⟨Bx, k + t, none⟩)) (by kernel_rfl) (fun _ _ => exec_index_a16 (x := .tmp 9) (y := .tmp 39) (by kernel_rfl) (by kernel_rfl) (by kernel_rfl) (by omega)) h0 ?_
            simp only [Act.put, List.setIfInBounds_toArray, List.set_cons_zero, List.set_cons_succ]
            refine reg_take 8 41 (.int .u8 (Ctr.bk key nonce (q + j) (k + t) : Int)) (by kernel_rfl) (fun w' h => exec_load_u8 (.tmp 40) ⟨Bx, k + t, none⟩ _ (by kernel_rfl) (by kernel_rfl) ((C9.out w' h).cell (by omega))) h0 ?_
            simp only [Act.put, List.setIfInBounds_toArray, List.set_cons_zero, List.set_cons_succ]
            refine reg_one 3 (by kernel_rfl) (by kernel_rfl) (HStep.value (some 36) (by kernel_rfl) (by kernel_rfl) (.int .u8 (p : Int)) _ (exec_load_u8 (.tmp 35) ⟨g, d + t, none⟩ (p : Int) (by kernel_rfl) (by kernel_rfl) ct) h0 ?_)
            simp only [Act.put, List.setIfInBounds_toArray, List.set_cons_zero, List.set_cons_succ]
            refine reg_take 9 42 (.int .u8 ((p ^^^ Ctr.bk key nonce (q + j) (k + t) : Nat) : Int)) (by kernel_rfl) (fun _ _ => exec_xor_u8 (.tmp 36) (.tmp 41) p (Ctr.bk key nonce (q + j) (k + t)) (by kernel_rfl) (by kernel_rfl) (by kernel_rfl) hx256 hb256) h0 ?_
            simp only [Act.put, List.setIfInBounds_toArray, List.set_cons_zero, List.set_cons_succ]
            refine reg_take 10 43 (.pointer (some ⟨g, d + t, none⟩)) (by kernel_rfl) (fun _ _ => exec_index_bytes (cap := c) (len := m) (x := .tmp 33) (y := .tmp 34) (by kernel_rfl) (by kernel_rfl) (by kernel_rfl) (by omega)) h0 ?_
            simp only [Act.put, List.setIfInBounds_toArray, List.set_cons_zero, List.set_cons_succ]
            have hst : Own wr base (.slice (some ⟨g, 0, none⟩) l.length cap) (Ctr.mask key nonce a l (d + t)) := HOT.out
            obtain ⟨hs1, hs2⟩ := (HOT.out.drewN 1).set (d + t) (p ^^^ Ctr.bk key nonce (q + j) (k + t)) (Fld.xor_lt _ _ hx256 hb256)
            refine reg_one 11 (by kernel_rfl) (by kernel_rfl) (HStep.skip none (by kernel_rfl) (by kernel_rfl) _ (exec_store_u8 (.tmp 43) (.tmp 42) ⟨g, d + t, none⟩ _ (p : Int) (by kernel_rfl) (by kernel_rfl) (by kernel_rfl) ct ft) (only_trans h0 hs2) ?_)
            refine reg_done (by kernel_rfl) (HF.out _ _ ?_)
            simp only [Act.put, List.setIfInBounds_toArray, List.set_cons_zero, List.set_cons_succ]
            clear HF h0 hst
            have hmk : (Ctr.mask key nonce a l (d + t)).set (d + t) (p ^^^ Ctr.bk key nonce (q + j) (k + t)) = Ctr.mask key nonce a l (d + (t + 1)) := by rw [HBY.out]; exact NXT.out
            rw [hmk] at hs1
            clear hmk
            have hs2 := only_trans HGT.out (only_trans (only_drewN (only_refl wr (some g)) 1) hs2)
            have J1 := Lib.hid (And.intro hs1 hs2)
            clear hs1 hs2 ct ft
            generalize (wr.drewN 1).setCell _ _ = V at J1 ⊢
            gi_wp2_with fail
            go_roundw
            case rel => exact ⟨t + 1, by omega, by go_num, J1.out.1, J1.out.2⟩
            case measure => simp [intOf]; omega
          · obtain rfl : x = t := by omega
            have h7w := (hgt.block (w.heap.size + 2) (Array.getElem?_eq_some_iff.1 H7.out).1 (by simp; omega)).trans H7.out
            have h8w := (hgt.block (w.heap.size + 3) (Array.getElem?_eq_some_iff.1 H8.out).1 (by simp; omega)).trans H8.out
            have c7 := cell_of_one h7w; have f7 := free_of_one h7w; have c8 := cell_of_one h8w; have f8 := free_of_one h8w
            have HOT := Lib.hid hot; have HGT := Lib.hid hgt
            have hAW : w.heap.size + 7 ≤ A.heap.size := Nat.le_of_lt (Nat.lt_of_le_of_lt hBx BX.out.lt)
            clear h7w h8w hot hgt
            have hne2 : (((m - x : Nat) : Int) == 0) = false := by rw [beq_eq_false_iff_ne]; omega
            gi_wp2_with fail
            have en : d + x = Ctr.dn s (j + 1) := by have := NX.out; omega
            have hfin := HOT.out
            rw [en] at hfin
            refine ⟨(mask_close (base := base) (n := l.length) (cap := cap) (B := W.heap.size) hgw WS.out hAW HGT.out HOW.out.isCells H7.out H8.out HG.out).1, (mask_close (base := base) (n := l.length) (cap := cap) (B := W.heap.size) hgw WS.out hAW HGT.out HOW.out.isCells H7.out H8.out HG.out).2.1, ?_, ?_, ?_, (mask_close (base := base) (n := l.length) (cap := cap) (B := W.heap.size) hgw WS.out hAW HGT.out HOW.out.isCells H7.out H8.out HG.out).2.2.1 _ hfin, (mask_close (base := base) (n := l.length) (cap := cap) (B := W.heap.size) hgw WS.out hAW HGT.out HOW.out.isCells H7.out H8.out HG.out).2.2.2.1⟩
            · rw [← en]; have := HM.out; omega
            · rw [← en]; have e1 := HM.out; have e2 := HC.out; rw [show l.length - (d + x) = m - x by omega, show cap - (d + x) = c - x by omega]; exact (mask_close (base := base) (n := l.length) (cap := cap) (B := W.heap.size) hgw WS.out hAW HGT.out HOW.out.isCells H7.out H8.out HG.out).2.2.2.2.1
            · rw [K0.out]; exact (mask_close (base := base) (n := l.length) (cap := cap) (B := W.heap.size) hgw WS.out hAW HGT.out HOW.out.isCells H7.out H8.out HG.out).2.2.2.2.2
  case stop =>
    rintro D V1 hD ⟨ho, hg⟩ hK
    refine wpIn_wide.2 ?_
    have HO1 := Lib.hid ho; have HG1 := Lib.hid hg
    clear ho hg II B3
    go_wp2_with fail
    refine ⟨by simp, .inl ⟨_, _, rfl, run_takeDeferred hK, ?_⟩⟩
    have hp := grownBy_putObj' V1 D (.deferred none)
    exact ⟨_, results_none rfl _ _ _, rfl, HO1.out.only hp (.inr (by simp [Value.ownBlock]; have := WS.out; omega)), grown_far HG1.out hp (fun b e => by cases e; have := WS.out; omega)⟩

end Go.Proofs.Ytibgmoapkionjaa
