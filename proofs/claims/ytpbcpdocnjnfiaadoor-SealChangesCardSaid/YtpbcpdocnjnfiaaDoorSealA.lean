/- Layer 9: Keys of the program. -/
import Derived.Test.YtpbcpdocnjnfiaaDoorSealMath
namespace Go.Proofs.YtpbcpdocnjnfiaaDoor
open Go.RowKit Go.Deep

theorem zeros32 : (#[.int .u8 0, .int .u8 0, .int .u8 0, .int .u8 0, .int .u8 0, .int .u8 0, .int .u8 0, .int .u8 0, .int .u8 0, .int .u8 0, .int .u8 0, .int .u8 0, .int .u8 0, .int .u8 0, .int .u8 0, .int .u8 0, .int .u8 0, .int .u8 0, .int .u8 0, .int .u8 0, .int .u8 0, .int .u8 0, .int .u8 0, .int .u8 0, .int .u8 0, .int .u8 0, .int .u8 0, .int .u8 0, .int .u8 0, .int .u8 0, .int .u8 0, .int .u8 0] : Array Value) = arr .u8 32 (fun _ => 0) := arr_of_get .u8 32 _ (Array.replicate 32 (.int .u8 0)) (by simp) (fun i hi => zeros_get _ _ _ hi)
theorem zeros16 : (#[.int .u8 0, .int .u8 0, .int .u8 0, .int .u8 0, .int .u8 0, .int .u8 0, .int .u8 0, .int .u8 0, .int .u8 0, .int .u8 0, .int .u8 0, .int .u8 0, .int .u8 0, .int .u8 0, .int .u8 0, .int .u8 0] : Array Value) = arr .u8 16 (fun _ => 0) := arr_of_get .u8 16 _ (Array.replicate 16 (.int .u8 0)) (by simp) (fun i hi => zeros_get _ _ _ hi)
theorem zeros8 : (#[.int .u8 0, .int .u8 0, .int .u8 0, .int .u8 0, .int .u8 0, .int .u8 0, .int .u8 0, .int .u8 0] : Array Value) = arr .u8 8 (fun _ => 0) := arr_of_get .u8 8 _ (Array.replicate 8 (.int .u8 0)) (by simp) (fun i hi => zeros_get _ _ _ hi)
theorem info32s (f : Nat → Nat) : ((Tryd.prog).info? 36).map (·.size) = some (arr .u8 32 f).size := by rw [arr_size]; rfl
theorem info16s (f : Nat → Nat) : ((Tryd.prog).info? 22).map (·.size) = some (arr .u8 16 f).size := by rw [arr_size]; rfl
theorem info8s (f : Nat → Nat) : ((Tryd.prog).info? 23).map (·.size) = some (arr .u8 8 f).size := by rw [arr_size]; rfl
/-- A store of a whole array in a drawn region, whatever is kept. -/
theorem s_row {ops : Array Oper} {listed : Array Bool} {a : Act} {w : World} {n : Nat} {K : Act → World → Prop} {S : World → Prop} {i : Nat} (ty : TypeId) (x y : Operand) (g : Nat) (cells : Array Value) (t : TypeId) (old : Array Value) (hst : stepN ops a i = true) (ho : (opn ops i).op = .store ty x y) (hx : a.eval x = .pointer (some ⟨g, 0, none⟩)) (hy : a.eval y = .agg cells) (hg : w.heap[g]? = some (.cells old t (0, 0)))
    (hi : ((Tryd.prog).info? ty).map (·.size) = some cells.size) (hold : old.size = cells.size) (h1 : cells.all (·.oneCell') = true) (hS : S (w.setRow g cells))
    (h : (w.setRow g cells).heap[g]? = some (.cells cells t (0, 0)) → wpAnyH Tryd.prog .any ops (nq K) S n (listed.setIfInBounds i true) a (w.setRow g cells)) : HStep Tryd.prog .any ops (nq K) S n listed a w i (opn ops i) := by
  unfold stepN at hst
  simp only [Bool.and_eq_true] at hst
  have hd := dst_none hst.1
  refine HStep.of_law #[] hst.2 fun K' hK' => ?_
  refine wpList_store_rowTo rfl ty x y ho hd g cells hx hy t old hg hi hold h1 ?_
  exact hK' _ _ hS (h (setRow_heap _ _ _ _ _ _ hg))
theorem results_two_rows {P : Program} {fn : Func} {p q : Tmp} {ty tz : TypeId} (h : fn.results = #[.cell p ty, .cell q tz]) (tmps : Array Value) (w : World) (g k : Nat) (t t' : TypeId) (cs ds : Array Value) (fr fs : Nat × Nat) (d d' : TypeDesc)
    (hp : tmps.getD p undef = .pointer (some ⟨g, 0, none⟩)) (hg : w.heap[g]? = some (.cells cs t fr))
    (hu : P.underlying ty = some d) (hd : (match d with | .struct _ | .array _ _ => true | _ => false) = true) (hi : (P.info? ty).map (·.size) = some cs.size)
    (hq : tmps.getD q undef = .pointer (some ⟨k, 0, none⟩)) (hk : w.heap[k]? = some (.cells ds t' fs))
    (hu' : P.underlying tz = some d') (hd' : (match d' with | .struct _ | .array _ _ => true | _ => false) = true) (hi' : (P.info? tz).map (·.size) = some ds.size) :
    (results fn tmps).run P w = .ok (.tuple #[.agg cs, .agg ds]) w := by
  have hp' : tmps[p]?.getD undef = .pointer (some ⟨g, 0, none⟩) := by simpa using hp
  have hq' : tmps[q]?.getD undef = .pointer (some ⟨k, 0, none⟩) := by simpa using hq
  simp [results, h, hp', hq', asAddr, run_loadVar_row w g t ty cs fr d hg hu hd hi, run_loadVar_row w k t' tz ds fs d' hk hu' hd' hi']
theorem isArr.drew {w : World} {b : Nat} {t : TypeId} {k : IntKind} {n : Nat} {f : Nat → Nat} (h : isArr w b t k n f) : isArr w.drew b t k n f := h
attribute [local irreducible] wpAnyH in
set_option maxRecDepth 100000 in
set_option maxHeartbeats 2000000 in
theorem keys_any (key : Nat → Nat) (w : World) (hk : Aes.B8 key) (hK : Consts w Sha.tab) :
    Calls Tryd.prog 15 #[.agg (arr .u8 16 key)] w fun e w' => e = .returned (.tuple #[.agg (arr .u8 16 (Sea.ek key)), .agg (arr .u8 32 (Sea.mf key))]) ∧ Below w.heap.size w w' := by
  have HK := Lib.hid hK; clear hK
  have HB := Lib.hid hk; clear hk
  have hsz := arr_size .u8 16 key
  go_enter Tryd.func15, Tryd.ntmps15
  go_upto_region 2 with fail
  generalize hW : (World.alloc _ _ : World) = V
  have INV : Below w.heap.size w V ∧ isArr V w.heap.size 22 .u8 16 key ∧ isArr V (w.heap.size + 1) 22 .u8 16 (fun _ => 0) ∧ isArr V (w.heap.size + 1 + 1) 36 .u8 32 (fun _ => 0) ∧ isArr V (w.heap.size + 1 + 1 + 1) 36 .u8 32 (fun _ => 0) := by
    rw [← hW, zeros16, zeros32]
    have a0 := isArr_new w 22 .u8 16 key
    have a1 := isArr_new (w.alloc (.cells (arr .u8 16 key) 22)) 22 .u8 16 (fun _ => 0)
    have a2 := isArr_new ((w.alloc (.cells (arr .u8 16 key) 22)).alloc (.cells (arr .u8 16 (fun _ => 0)) 22)) 36 .u8 32 (fun _ => 0)
    have a3 := isArr_new (((w.alloc (.cells (arr .u8 16 key) 22)).alloc (.cells (arr .u8 16 (fun _ => 0)) 22)).alloc (.cells (arr .u8 32 (fun _ => 0)) 36)) 36 .u8 32 (fun _ => 0)
    simp only [World.size_alloc] at a1 a2 a3
    exact ⟨below_of_only (only_alloc (only_alloc (only_alloc (only_alloc (only_refl w none) _) _) _) _), ((a0.alloc _).alloc _).alloc _, (a1.alloc _).alloc _, a2.alloc _, a3⟩
  obtain ⟨hB0, A0, A1, A2, A3⟩ := INV
  clear hW
  have hKs := (Bs.rs (A0.bs HB.out (by omega)))
  obtain ⟨g1, hg1⟩ : ∃ g, g = w.heap.size + 1 := ⟨_, rfl⟩
  obtain ⟨g2, hg2⟩ : ∃ g, g = w.heap.size + 1 + 1 := ⟨_, rfl⟩
  obtain ⟨g3, hg3⟩ : ∃ g, g = w.heap.size + 1 + 1 + 1 := ⟨_, rfl⟩
  rw [← hg3] at A3 ⊢
  rw [← hg2] at A2 ⊢
  rw [← hg1] at A1 ⊢
  have l1 : w.heap.size < g1 := by omega
  have l2 : g1 < g2 := by omega
  have l3 : g2 < g3 := by omega
  clear hg1 hg2 hg3
  refine wp_reg Tryd.f15 2 4 (fun w' => Below w.heap.size w w') (by kernel_rfl) (by kernel_rfl) (by kernel_rfl) (below_drewN hB0 1) (fun K hK h0 => ?_)
  refine reg_cast (listed' := #[false, false, false, false]) (by kernel_rfl) rfl ?_
  have HF := Lib.hid hK; clear hK
  refine reg_take 0 5 (.slice (some ⟨g3, 0, none⟩) 32 32) (by kernel_rfl) (fun _ _ => by kernel_rfl) h0 ?_
  simp only [Act.put, List.setIfInBounds_toArray, List.set_cons_zero, List.set_cons_succ]
  refine reg_take 1 6 (.slice (some ⟨w.heap.size, 0, none⟩) 16 16) (by kernel_rfl) (fun _ _ => by kernel_rfl) h0 ?_
  simp only [Act.put, List.setIfInBounds_toArray, List.set_cons_zero, List.set_cons_succ]
  refine reg_call 2 7 23 #[.slice (some ⟨w.heap.size, 0, none⟩) 16 16, .string Sea.proS, .int .i64 32] (by kernel_rfl) (by kernel_rfl) ?_
  refine (derive_in (Sea.nl 16 key) _ Sea.proS 32 (V.drewN 1) (by omega) (hKs.below (below_drewN (Below.refl _ _) 1)) (by rw [Sea.nl_length]; omega) (by decide) (HK.out.below h0)).mono ?_
  rintro e w6 ⟨v6, rfl, ho6, hb6⟩
  have h1 : Below w.heap.size w w6 := h0.trans (hb6.mono h0.size)
  have B0 := (A0.drewN 1).below hb6 A0.lt
  have B1 := (A1.drewN 1).below hb6 A1.lt
  have B2 := (A2.drewN 1).below hb6 A2.lt
  have B3 := (A3.drewN 1).below hb6 A3.lt
  have hln := Sea.mk_length key
  refine ⟨_, rfl, h1, ?_⟩
  simp only [Act.put, List.setIfInBounds_toArray, List.set_cons_zero, List.set_cons_succ]
  refine reg_one 3 (by kernel_rfl) (by kernel_rfl) (HStep.of_law #[] (by kernel_rfl) fun K' hK' => ?_)
  refine wpList_copy_rs rfl (.tmp 5) (.tmp 7) (by kernel_rfl) g3 32 _ _ (by kernel_rfl) B3 v6 _ (by kernel_rfl) ho6.bs.rs ?_
  intro w7 hA7 hg7
  have h7 : Below w.heap.size w w7 := below_only h1 (Nat.le_refl _) hg7 (fun q hq => by cases hq; omega)
  have C0 := B0.of_block (hg7.block _ B0.lt (by simp; omega))
  have C1 := B1.of_block (hg7.block _ B1.lt (by simp; omega))
  have C2 := B2.of_block (hg7.block _ B2.lt (by simp; omega))
  have C3 : isArr w7 g3 36 .u8 32 (Sea.mf key) := hA7.congr fun i hi => by
    have : i < (Mac.dn (Sea.nl 16 key) (lb Sea.proS) 32).length := by rw [Mac.dn_length]; exact hi
    rw [if_pos this]; rfl
  refine hK' _ _ h7 ?_
  have hd : (opn (reg Tryd.f15 2) 3).dst = some 8 := by kernel_rfl
  rw [show ({ opn (reg Tryd.f15 2) 3 with guard := none } : Oper).dst = some 8 from hd]
  refine reg_done (by kernel_rfl) (HF.out _ _ ?_)
  simp only [Act.put, List.setIfInBounds_toArray, List.set_cons_zero, List.set_cons_succ]
  have hKs7 := Bs.rs (C0.bs HB.out (by omega))
  clear HF h0 h1 B0 B1 B2 B3 hA7 hg7 A0 A1 A2 A3 ho6 hb6 hKs hB0 hK' K' K
  go_upto_region 3 with fail
  have C0' := C0; have C1' := C1
  refine wp_reg Tryd.f15 3 5 (fun w' => Below w.heap.size w w' ∧ isArr w' g3 36 .u8 32 (Sea.mf key)) (by kernel_rfl) (by kernel_rfl) (by kernel_rfl) ⟨below_drewN h7 1, C3.drewN 1⟩ (fun K hK h0 => ?_)
  refine reg_cast (listed' := #[false, false, false, false, false]) (by kernel_rfl) rfl ?_
  have HF := Lib.hid hK; clear hK
  refine reg_take 0 9 (.slice (some ⟨w.heap.size, 0, none⟩) 16 16) (by kernel_rfl) (fun _ _ => by kernel_rfl) h0 ?_
  simp only [Act.put, List.setIfInBounds_toArray, List.set_cons_zero, List.set_cons_succ]
  refine reg_load 2 11 (by kernel_rfl) _ (.tmp 4) (by kernel_rfl) ⟨g3, 0, none⟩ (by kernel_rfl) (arr .u8 32 (Sea.mf key)) _ (fun w' hw' => hw'.2.cells) rfl rfl (info32s _) h0 ?_
  simp only [Act.put, List.setIfInBounds_toArray, List.set_cons_zero, List.set_cons_succ]
  refine reg_call 1 10 24 #[.slice (some ⟨w.heap.size, 0, none⟩) 16 16, .string Sea.encS] (by kernel_rfl) (by kernel_rfl) ?_
  refine (mackey_any (Sea.nl 16 key) _ Sea.encS (w7.drewN 1) (hKs7.below (below_drewN (Below.refl _ _) 1)) (by rw [Sea.nl_length]; omega) (by decide) (HK.out.below h0.1)).mono ?_
  rintro e w8 ⟨rfl, hb8⟩
  have h8 : Below w.heap.size w w8 := h0.1.trans (hb8.mono h0.1.size)
  have D1 := (C1.drewN 1).below hb8 C1.lt
  have D2 := (C2.drewN 1).below hb8 C2.lt
  have D3 := (C3.drewN 1).below hb8 C3.lt
  refine ⟨_, rfl, ⟨h8, D3⟩, ?_⟩
  simp only [Act.put, List.setIfInBounds_toArray, List.set_cons_zero, List.set_cons_succ]
  have h9 : Below w.heap.size w (w8.setRow g1 (arr .u8 16 (Sea.ek key))) := below_setRow h8 (by omega) _
  have E3 : isArr (w8.setRow g1 (arr .u8 16 (Sea.ek key))) g3 36 .u8 32 (Sea.mf key) := setRow_other D3 (by omega) _
  have E2 : isArr (w8.setRow g1 (arr .u8 16 (Sea.ek key))) g2 36 .u8 32 (fun _ => 0) := setRow_other D2 (by omega) _
  refine reg_one 3 (by kernel_rfl) (by kernel_rfl) (s_row _ (.tmp 2) (.tmp 10) g1 (arr .u8 16 (Sea.ek key)) _ _ (by kernel_rfl) (by kernel_rfl) (by kernel_rfl) (by kernel_rfl) D1 (info16s _) ((arr_size _ _ _).trans (arr_size _ _ _).symm) (arr_one _ _ _) ⟨h9, E3⟩ (fun F1 => ?_))
  have h10 : Below w.heap.size w ((w8.setRow g1 (arr .u8 16 (Sea.ek key))).setRow g2 (arr .u8 32 (Sea.mf key))) := below_setRow h9 (by omega) _
  have G3 := setRow_other E3 (show g3 ≠ g2 by omega) (arr .u8 32 (Sea.mf key))
  have G1 : isArr ((w8.setRow g1 (arr .u8 16 (Sea.ek key))).setRow g2 (arr .u8 32 (Sea.mf key))) g1 22 .u8 16 (Sea.ek key) := setRow_other (w := w8.setRow g1 (arr .u8 16 (Sea.ek key))) (f := Sea.ek key) F1 (by omega) _
  refine reg_one 4 (by kernel_rfl) (by kernel_rfl) (s_row _ (.tmp 3) (.tmp 11) g2 (arr .u8 32 (Sea.mf key)) _ _ (by kernel_rfl) (by kernel_rfl) (by kernel_rfl) (by kernel_rfl) E2 (info32s _) ((arr_size _ _ _).trans (arr_size _ _ _).symm) (arr_one _ _ _) ⟨h10, G3⟩ (fun F2 => ?_))
  refine reg_done (by kernel_rfl) (HF.out _ _ ?_)
  go_wp2_with fail
  refine bodyPost_ret (results_two_rows rfl _ _ g1 g2 _ _ _ _ (0, 0) (0, 0) _ _ rfl G1 rfl rfl (info16s _) rfl F2 rfl rfl (info32s _)) rfl ?_
  exact ⟨rfl, h10⟩
end Go.Proofs.YtpbcpdocnjnfiaaDoor
