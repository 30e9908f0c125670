/- The derived keys of any keys are those of the reference implementation: for every two keys the law returns true. The variable sha.constants reads as the program's text lays it. -/
import Derived.Test.YtpbcpdocnjnfiaaDoorSealKit
namespace Go.Proofs.YtpbcpdocnjnfiaaDoor
open Go.ChangeShapes Go.WideShapes Go.ChangeAt Go.RowKit Go.Deep

theorem nl_ek (key : Nat → Nat) : Sea.nl 16 (Sea.ek key) = Mac.dn (Sea.nl 16 key) (lb Sea.encS) 16 := by
  apply List.ext_getElem
  · rw [Sea.nl_length, Mac.dn_length]
  · intro i h1 h2
    simp only [Sea.nl] at h2 ⊢
    simp [Sea.ek, Mac.k16, List.getD, Sea.nl]
    rw [List.getElem?_eq_getElem h2]; rfl
theorem exec_arrayPtr {o : Oper} {a : Act} {w : World} {x : Operand} {ad : Option Addr} {cp : Nat} (ho : o.op = .sliceToArrayPointer 22 x) (hx : a.eval x = .slice ad 16 cp) :
    (execOp a.eval o).run Tryd.prog w = .ok (.value (.pointer ad)) w := by
  unfold execOp
  simp only [ho, hx, Sem.run_bind, Sem.run_pure, Result.andThen_ok, run_arrayAt w 22 5 16 ad 16 cp Tryd.underlying22 (Nat.le_refl _)]
theorem exec_load_arr {o : Oper} {a : Act} {w : World} {x : Operand} {ad : Addr} {cs : Array Value} (ho : o.op = .load 22 x) (hx : a.eval x = .pointer (some ad))
    (hc : ∀ j v, cs[j]? = some v → w.cell? (ad.add j) = some v) (hz : (Tryd.prog.info? 22).map (·.size) = some cs.size) :
    (execOp a.eval o).run Tryd.prog w = .ok (.value (.agg cs)) w := by
  unfold execOp
  simp only [ho, hx, Instr.loadAt, Instr.sureAddr, Sem.run_bind, Sem.run_pure, Result.andThen_ok, run_loadVar_arr w ad 22 cs _ hc Tryd.underlying22 rfl hz]
theorem kk_boxes (w : World) (f g : Nat → Nat) : isArr ((w.alloc (.cells (arr .u8 16 f) 22)).alloc (.cells (arr .u8 16 g) 22)) w.heap.size 22 .u8 16 f ∧ isArr ((w.alloc (.cells (arr .u8 16 f) 22)).alloc (.cells (arr .u8 16 g) 22)) (w.heap.size + 1) 22 .u8 16 g ∧ Below w.heap.size w ((w.alloc (.cells (arr .u8 16 f) 22)).alloc (.cells (arr .u8 16 g) 22)) := by
  have a2 := isArr_new (w.alloc (.cells (arr .u8 16 f) 22)) 22 .u8 16 g
  simp only [World.size_alloc] at a2
  exact ⟨(isArr_new w _ _ _ _).alloc _, a2, ((Below.refl _ _).alloc (Nat.le_refl _) _).alloc (by simp) _⟩
attribute [local irreducible] wpAnyH in
set_option maxRecDepth 100000 in
set_option maxHeartbeats 4000000 in
theorem sealKeys_core (key other : Nat → Nat) (hk : Aes.B8 key) (ho : Aes.B8 other) (w : World) (hK : Consts w Sha.tab) :
    Calls Tryd.prog 6 #[.agg (arr .u8 16 key), .agg (arr .u8 16 other)] w (RetBool true w) := by
  have HK := Lib.hid hK; clear hK
  have hsz := arr_size .u8 16 key
  have hsz2 := arr_size .u8 16 other
  obtain ⟨k0, k1, B0⟩ := kk_boxes w key other
  go_enter Tryd.func6, Tryd.ntmps6
  go_wp2_with fail
  refine (awake_seal _ (HK.out.below B0)).mono ?_
  rintro e w1 ⟨rfl, hb1⟩
  have k0 := k0.below hb1 k0.lt
  have k1 := k1.below hb1 k1.lt
  have B1 := B0.trans (hb1.mono B0.size)
  have HC := Lib.hid (HK.out.below B1)
  clear B0 hb1
  obtain ⟨n1, hn1⟩ : ∃ n, n = w.heap.size + 1 := ⟨_, rfl⟩
  obtain ⟨n0, hn0⟩ : ∃ n, n = w.heap.size := ⟨_, rfl⟩
  rw [← hn1] at k1
  rw [← hn0] at k0
  have HN0 := Lib.hid hn0; have HN1 := Lib.hid hn1; clear hn0 hn1
  go_upto_region 3 with fail
  rw [← HN1.out, ← HN0.out]
  go_upto_region 4 with (first
    | refine wpList_load_row rfl _ _ rfl n0 rfl _ _ (0, 0) _ k0 rfl rfl (info16s _) ?_
    | (go_at_call 15; go_must (refine (keys_any key _ hk HC.out).mono ?_; rintro e u4 ⟨rfl, hb4⟩))
    | refine wpList_store_rowTo rfl _ _ _ rfl rfl u4.heap.size _ rfl rfl _ _ (two_rows0 u4 _ _ _ _) (info16s _) (by rw [arr_size]; rfl) (arr_one _ _ _) ?_
    | refine wpList_store_rowTo rfl _ _ _ rfl rfl (u4.heap.size + 1) _ rfl rfl _ _ (two_rows1 u4 _ _ _ _ _) (info32s _) (by rw [arr_size]; rfl) (arr_one _ _ _) ?_)
  have T := two_laid u4 (Array.replicate 16 (.int .u8 0)) (Array.replicate 32 (.int .u8 0)) 22 36 16 32 (Sea.ek key) (Sea.mf key)
  generalize hW : World.setRow _ (u4.heap.size + 1) _ = V4
  have T : isArr V4 u4.heap.size 22 .u8 16 (Sea.ek key) ∧ isArr V4 (u4.heap.size + 1) 36 .u8 32 (Sea.mf key) ∧ Below u4.heap.size u4 V4 := by rw [← hW]; exact T
  clear hW
  obtain ⟨e5, e6, hv4⟩ := T
  have k0 := (k0.below hb4 k0.lt).below hv4 (k0.below hb4 k0.lt).lt
  have k1 := (k1.below hb4 k1.lt).below hv4 (k1.below hb4 k1.lt).lt
  have B4b := B1.trans (hb4.mono B1.size)
  have B4 := B4b.trans (hv4.mono B4b.size)
  have HC := Lib.hid (HK.out.below B4)
  obtain ⟨g6, hg6⟩ : ∃ g, g = u4.heap.size + 1 := ⟨_, rfl⟩
  obtain ⟨g5, hg5⟩ : ∃ g, g = u4.heap.size := ⟨_, rfl⟩
  rw [← hg6] at e6 ⊢
  rw [← hg5] at e5 ⊢
  clear hg5 hg6 hb4 hv4 B4b B1
  go_upto_region 5 with (first
    | refine wpList_load_row rfl _ _ rfl n1 rfl _ _ (0, 0) _ k1 rfl rfl (info16s _) ?_
    | (go_at_call 15; go_must (refine (keys_any other _ ho HC.out).mono ?_; rintro e u5 ⟨rfl, hb5⟩))
    | refine wpList_store_rowTo rfl _ _ _ rfl rfl u5.heap.size _ rfl rfl _ _ (two_rows0 u5 _ _ _ _) (info16s _) (by rw [arr_size]; rfl) (arr_one _ _ _) ?_
    | refine wpList_store_rowTo rfl _ _ _ rfl rfl (u5.heap.size + 1) _ rfl rfl _ _ (two_rows1 u5 _ _ _ _ _) (info32s _) (by rw [arr_size]; rfl) (arr_one _ _ _) ?_)
  have T := two_laid u5 (Array.replicate 16 (.int .u8 0)) (Array.replicate 32 (.int .u8 0)) 22 36 16 32 (Sea.ek other) (Sea.mf other)
  generalize hW : World.setRow _ (u5.heap.size + 1) _ = V5
  have T : isArr V5 u5.heap.size 22 .u8 16 (Sea.ek other) ∧ isArr V5 (u5.heap.size + 1) 36 .u8 32 (Sea.mf other) ∧ Below u5.heap.size u5 V5 := by rw [← hW]; exact T
  clear hW
  obtain ⟨e7, e8, hv5⟩ := T
  have k0 := (k0.below hb5 k0.lt).below hv5 (k0.below hb5 k0.lt).lt
  have k1 := (k1.below hb5 k1.lt).below hv5 (k1.below hb5 k1.lt).lt
  have e5 := (e5.below hb5 e5.lt).below hv5 (e5.below hb5 e5.lt).lt
  have e6 := (e6.below hb5 e6.lt).below hv5 (e6.below hb5 e6.lt).lt
  have B5b := B4.trans (hb5.mono B4.size)
  have B5 := B5b.trans (hv5.mono B5b.size)
  have HC := Lib.hid (HK.out.below B5)
  obtain ⟨g8, hg8⟩ : ∃ g, g = u5.heap.size + 1 := ⟨_, rfl⟩
  obtain ⟨g7, hg7⟩ : ∃ g, g = u5.heap.size := ⟨_, rfl⟩
  rw [← hg8] at e8 ⊢
  rw [← hg7] at e7 ⊢
  clear hg7 hg8 hb5 hv5 B5b B4
  have KS0 := Lib.hid (k0.bs hk (by omega)).rs
  have KS1 := Lib.hid (k1.bs ho (by omega)).rs
  have RE := Lib.hid (e5.bs (Sea.ek_b8 key) (by omega)).rs
  have hm := (e6.bs (Sea.mf_b8 key) (by omega)).rs
  rw [show (List.range 32).map (Sea.mf key) = Sea.mk key from Sea.nl_mf key] at hm
  have RM := Lib.hid hm
  have hn := (e8.bs (Sea.mf_b8 other) (by omega)).rs
  rw [show (List.range 32).map (Sea.mf other) = Sea.mk other from Sea.nl_mf other] at hn
  have RN := Lib.hid hn
  clear hm hn
  have B7 := B5
  generalize V5 = V at *
  cases hq : sameArr 16 key other
  all_goals have HQ := Lib.hid hq
  · refine wp_reg Tryd.f6 5 40 (fun w' => Below V.heap.size V w') (by kernel_rfl) (by kernel_rfl) (by kernel_rfl) (below_drewN (Below.refl _ _) 1) (fun K hK h0 => ?_)
    refine reg_cast (listed' := #[false, false, false, false, false, false, false, false, false, false, false, false, false, false, false, false, false, false, false, false, false, false, false, false, false, false, false, false, false, false, false, false, false, false, false, false, false, false, false, false]) (by kernel_rfl) rfl ?_
    have HF := Lib.hid hK; clear hK
    refine reg_take 0 21 (.slice (some ⟨g5, 0, none⟩) 16 16) (by kernel_rfl) (fun _ _ => by kernel_rfl) h0 ?_
    simp only [Act.put, List.setIfInBounds_toArray, List.set_cons_zero, List.set_cons_succ]
    refine reg_take 1 22 (.slice (some ⟨n0, 0, none⟩) 16 16) (by kernel_rfl) (fun _ _ => by kernel_rfl) h0 ?_
    simp only [Act.put, List.setIfInBounds_toArray, List.set_cons_zero, List.set_cons_succ]
    refine reg_call 2 23 16 #[.slice (some ⟨n0, 0, none⟩) 16 16, .string Sea.encS, .int .i64 16] (by kernel_rfl) (by kernel_rfl) ?_
    refine (refderive_in (Sea.nl 16 key) _ Sea.encS 16 _ (by omega) (KS0.out.below h0) (by rw [Sea.nl_length]; omega) (by decide)).mono ?_
    rintro e w23 ⟨v23, rfl, o23, hb23⟩
    have h23 := h0.trans (hb23.mono h0.size)
    refine ⟨_, rfl, h23, ?_⟩
    simp only [Act.put, List.setIfInBounds_toArray, List.set_cons_zero, List.set_cons_succ]
    rw [← nl_ek] at o23
    refine reg_call 3 24 10 #[.slice (some ⟨g5, 0, none⟩) 16 16, v23] (by kernel_rfl) (by kernel_rfl) ?_
    refine (same_yes _ _ (Sea.nl 16 (Sea.ek key)) _ (RE.out.below h23) o23.bs.rs).mono ?_
    rintro e w24 ⟨rfl, hb24⟩
    have h24 := h23.trans (hb24.mono h23.size)
    refine ⟨_, rfl, h24, ?_⟩
    simp only [Act.put, List.setIfInBounds_toArray, List.set_cons_zero, List.set_cons_succ]
    refine reg_take 4 25 (.bool true) (by kernel_rfl) (fun _ _ => by kernel_rfl) h24 ?_
    simp only [Act.put, List.setIfInBounds_toArray, List.set_cons_zero, List.set_cons_succ]
    refine reg_take 5 26 (.slice (some ⟨g6, 0, none⟩) 32 32) (by kernel_rfl) (fun _ _ => by kernel_rfl) h24 ?_
    simp only [Act.put, List.setIfInBounds_toArray, List.set_cons_zero, List.set_cons_succ]
    refine reg_take 6 27 (.slice (some ⟨n0, 0, none⟩) 16 16) (by kernel_rfl) (fun _ _ => by kernel_rfl) h24 ?_
    simp only [Act.put, List.setIfInBounds_toArray, List.set_cons_zero, List.set_cons_succ]
    refine reg_call 7 28 16 #[.slice (some ⟨n0, 0, none⟩) 16 16, .string Sea.proS, .int .i64 32] (by kernel_rfl) (by kernel_rfl) ?_
    refine (refderive_in (Sea.nl 16 key) _ Sea.proS 32 _ (by omega) (KS0.out.below h24) (by rw [Sea.nl_length]; omega) (by decide)).mono ?_
    rintro e w28 ⟨v28, rfl, o28, hb28⟩
    have h28 := h24.trans (hb28.mono h24.size)
    refine ⟨_, rfl, h28, ?_⟩
    simp only [Act.put, List.setIfInBounds_toArray, List.set_cons_zero, List.set_cons_succ]
    refine reg_call 8 29 10 #[.slice (some ⟨g6, 0, none⟩) 32 32, v28] (by kernel_rfl) (by kernel_rfl) ?_
    refine (same_yes _ _ (Sea.mk key) _ (RM.out.below h28) o28.bs.rs).mono ?_
    rintro e w29 ⟨rfl, hb29⟩
    have h29 := h28.trans (hb29.mono h28.size)
    refine ⟨_, rfl, h29, ?_⟩
    simp only [Act.put, List.setIfInBounds_toArray, List.set_cons_zero, List.set_cons_succ]
    refine reg_take 9 30 (.bool true) (by kernel_rfl) (fun _ _ => by kernel_rfl) h29 ?_
    simp only [Act.put, List.setIfInBounds_toArray, List.set_cons_zero, List.set_cons_succ]
    refine reg_take 10 31 (.bool true) (by kernel_rfl) (fun _ _ => by kernel_rfl) h29 ?_
    simp only [Act.put, List.setIfInBounds_toArray, List.set_cons_zero, List.set_cons_succ]
    refine reg_load 11 32 (by kernel_rfl) _ (.tmp 2) (by kernel_rfl) ⟨n0, 0, none⟩ (by kernel_rfl) (arr .u8 16 (key)) _ (fun w' hw' => (k0.below hw' k0.lt).cells) rfl rfl (info16s _) h29 ?_
    simp only [Act.put, List.setIfInBounds_toArray, List.set_cons_zero, List.set_cons_succ]
    refine reg_load 12 33 (by kernel_rfl) _ (.tmp 3) (by kernel_rfl) ⟨n1, 0, none⟩ (by kernel_rfl) (arr .u8 16 (other)) _ (fun w' hw' => (k1.below hw' k1.lt).cells) rfl rfl (info16s _) h29 ?_
    simp only [Act.put, List.setIfInBounds_toArray, List.set_cons_zero, List.set_cons_succ]
    refine reg_take 13 34 (.bool true) (by kernel_rfl) (fun w' _ => (run_neqIn_arr (P := Tryd.prog) (k := .u8) (n := 16) key other (ty := 22) (x := .tmp 32) (y := .tmp 33) (by kernel_rfl) (by kernel_rfl) (by kernel_rfl) Tryd.underlying22 Tryd.underlying5 (by kernel_rfl) (by kernel_rfl)).trans (by rw [HQ.out]; rfl)) h29 ?_
    simp only [Act.put, List.setIfInBounds_toArray, List.set_cons_zero, List.set_cons_succ]
    refine reg_take 14 35 (.bool true) (by kernel_rfl) (fun _ _ => by kernel_rfl) h29 ?_
    simp only [Act.put, List.setIfInBounds_toArray, List.set_cons_zero, List.set_cons_succ]
    refine reg_off 15 36 (by kernel_rfl) h29 ?_
    simp only [Act.put, List.setIfInBounds_toArray, List.set_cons_zero, List.set_cons_succ]
    refine reg_off 16 37 (by kernel_rfl) h29 ?_
    simp only [Act.put, List.setIfInBounds_toArray, List.set_cons_zero, List.set_cons_succ]
    refine reg_off 17 38 (by kernel_rfl) h29 ?_
    simp only [Act.put, List.setIfInBounds_toArray, List.set_cons_zero, List.set_cons_succ]
    refine reg_off 18 39 (by kernel_rfl) h29 ?_
    simp only [Act.put, List.setIfInBounds_toArray, List.set_cons_zero, List.set_cons_succ]
    refine reg_off 19 40 (by kernel_rfl) h29 ?_
    simp only [Act.put, List.setIfInBounds_toArray, List.set_cons_zero, List.set_cons_succ]
    refine reg_off 20 41 (by kernel_rfl) h29 ?_
    simp only [Act.put, List.setIfInBounds_toArray, List.set_cons_zero, List.set_cons_succ]
    refine reg_off 21 42 (by kernel_rfl) h29 ?_
    simp only [Act.put, List.setIfInBounds_toArray, List.set_cons_zero, List.set_cons_succ]
    refine reg_off 22 43 (by kernel_rfl) h29 ?_
    simp only [Act.put, List.setIfInBounds_toArray, List.set_cons_zero, List.set_cons_succ]
    refine reg_take 23 44 (.bool true) (by kernel_rfl) (fun _ _ => by kernel_rfl) h29 ?_
    simp only [Act.put, List.setIfInBounds_toArray, List.set_cons_zero, List.set_cons_succ]
    refine reg_take 24 45 (.bool true) (by kernel_rfl) (fun _ _ => by kernel_rfl) h29 ?_
    simp only [Act.put, List.setIfInBounds_toArray, List.set_cons_zero, List.set_cons_succ]
    refine reg_take 25 46 (.bool true) (by kernel_rfl) (fun _ _ => by kernel_rfl) h29 ?_
    simp only [Act.put, List.setIfInBounds_toArray, List.set_cons_zero, List.set_cons_succ]
    refine reg_load 26 47 (by kernel_rfl) _ (.tmp 7) (by kernel_rfl) ⟨g7, 0, none⟩ (by kernel_rfl) (arr .u8 16 (Sea.ek other)) _ (fun w' hw' => (e7.below hw' e7.lt).cells) rfl rfl (info16s _) h29 ?_
    simp only [Act.put, List.setIfInBounds_toArray, List.set_cons_zero, List.set_cons_succ]
    refine reg_take 27 48 (.slice (some ⟨n1, 0, none⟩) 16 16) (by kernel_rfl) (fun _ _ => by kernel_rfl) h29 ?_
    simp only [Act.put, List.setIfInBounds_toArray, List.set_cons_zero, List.set_cons_succ]
    refine reg_call 28 49 16 #[.slice (some ⟨n1, 0, none⟩) 16 16, .string Sea.encS, .int .i64 16] (by kernel_rfl) (by kernel_rfl) ?_
    refine (refderive_in (Sea.nl 16 other) _ Sea.encS 16 _ (by omega) (KS1.out.below h29) (by rw [Sea.nl_length]; omega) (by decide)).mono ?_
    rintro e w49 ⟨v49, rfl, o49, hb49⟩
    have h49 := h29.trans (hb49.mono h29.size)
    refine ⟨_, rfl, h49, ?_⟩
    simp only [Act.put, List.setIfInBounds_toArray, List.set_cons_zero, List.set_cons_succ]
    have hln := Mac.dn_length (Sea.nl 16 other) (lb Sea.encS) 16
    obtain ⟨g, goff, gc, rfl, hc1, hc⟩ := bs_cells o49.bs 16 (by omega) (by omega)
    rw [hln]
    rw [← ek_def] at hc
    refine reg_take 29 50 (.pointer (some ⟨g, goff, none⟩)) (by kernel_rfl) (fun _ _ => exec_arrayPtr (x := .tmp 49) (cp := gc) (by kernel_rfl) (by kernel_rfl)) h49 ?_
    simp only [Act.put, List.setIfInBounds_toArray, List.set_cons_zero, List.set_cons_succ]
    refine reg_one 30 (by kernel_rfl) (by kernel_rfl) (HStep.value (some 51) (by kernel_rfl) (by kernel_rfl) (.agg (arr .u8 16 (Sea.ek other))) w49 (exec_load_arr (x := .tmp 50) (ad := ⟨g, goff, none⟩) (cs := arr .u8 16 (Sea.ek other)) (by kernel_rfl) (by kernel_rfl) hc (info16s _)) h49 ?_)
    simp only [Act.put, List.setIfInBounds_toArray, List.set_cons_zero, List.set_cons_succ]
    refine reg_take 31 52 (.bool true) (by kernel_rfl) (fun w' _ => (exec_eql_arr (P := Tryd.prog) (k := .u8) (n := 16) (Sea.ek other) (Sea.ek other) (ty := 22) (x := .tmp 47) (y := .tmp 51) (by kernel_rfl) (by kernel_rfl) (by kernel_rfl) Tryd.underlying22 Tryd.underlying5 (by kernel_rfl) (by kernel_rfl)).trans (by rw [sameArr_refl])) h49 ?_
    simp only [Act.put, List.setIfInBounds_toArray, List.set_cons_zero, List.set_cons_succ]
    refine reg_take 32 53 (.bool true) (by kernel_rfl) (fun _ _ => by kernel_rfl) h49 ?_
    simp only [Act.put, List.setIfInBounds_toArray, List.set_cons_zero, List.set_cons_succ]
    refine reg_take 33 54 (.bool true) (by kernel_rfl) (fun _ _ => by kernel_rfl) h49 ?_
    simp only [Act.put, List.setIfInBounds_toArray, List.set_cons_zero, List.set_cons_succ]
    refine reg_take 34 55 (.slice (some ⟨g8, 0, none⟩) 32 32) (by kernel_rfl) (fun _ _ => by kernel_rfl) h49 ?_
    simp only [Act.put, List.setIfInBounds_toArray, List.set_cons_zero, List.set_cons_succ]
    refine reg_take 35 56 (.slice (some ⟨n1, 0, none⟩) 16 16) (by kernel_rfl) (fun _ _ => by kernel_rfl) h49 ?_
    simp only [Act.put, List.setIfInBounds_toArray, List.set_cons_zero, List.set_cons_succ]
    refine reg_call 36 57 16 #[.slice (some ⟨n1, 0, none⟩) 16 16, .string Sea.proS, .int .i64 32] (by kernel_rfl) (by kernel_rfl) ?_
    refine (refderive_in (Sea.nl 16 other) _ Sea.proS 32 _ (by omega) (KS1.out.below h49) (by rw [Sea.nl_length]; omega) (by decide)).mono ?_
    rintro e w57 ⟨v57, rfl, o57, hb57⟩
    have h57 := h49.trans (hb57.mono h49.size)
    refine ⟨_, rfl, h57, ?_⟩
    simp only [Act.put, List.setIfInBounds_toArray, List.set_cons_zero, List.set_cons_succ]
    refine reg_call 37 58 10 #[.slice (some ⟨g8, 0, none⟩) 32 32, v57] (by kernel_rfl) (by kernel_rfl) ?_
    refine (same_yes _ _ (Sea.mk other) _ (RN.out.below h57) o57.bs.rs).mono ?_
    rintro e w58 ⟨rfl, hb58⟩
    have h58 := h57.trans (hb58.mono h57.size)
    refine ⟨_, rfl, h58, ?_⟩
    simp only [Act.put, List.setIfInBounds_toArray, List.set_cons_zero, List.set_cons_succ]
    refine reg_take 38 59 (.bool true) (by kernel_rfl) (fun _ _ => by kernel_rfl) h58 ?_
    simp only [Act.put, List.setIfInBounds_toArray, List.set_cons_zero, List.set_cons_succ]
    refine reg_take 39 4 (.bool true) (by kernel_rfl) (fun _ _ => by kernel_rfl) h58 ?_
    simp only [Act.put, List.setIfInBounds_toArray, List.set_cons_zero, List.set_cons_succ]
    refine reg_done (by kernel_rfl) (HF.out _ _ ?_)
    have BF := B7.trans (h58.mono B7.size)
    clear HF
    go_wp2_with fail
    go_ret
    exact ⟨rfl, BF⟩
  · have hkk : Sea.nl 16 key = Sea.nl 16 other := Sea.nl_congr ((sameArr_iff 16 key other).1 hq)
    have HE := Lib.hid (show sameArr 16 (Sea.ek key) (Sea.ek other) = true by unfold Sea.ek; rw [hkk]; exact sameArr_refl _ _)
    have HM := Lib.hid (show sameArr 32 (Sea.mf key) (Sea.mf other) = true from sameArr_yes fun i _ => by unfold Sea.mf Sea.mk; rw [hkk])
    refine wp_reg Tryd.f6 5 40 (fun w' => Below V.heap.size V w') (by kernel_rfl) (by kernel_rfl) (by kernel_rfl) (below_drewN (Below.refl _ _) 1) (fun K hK h0 => ?_)
    refine reg_cast (listed' := #[false, false, false, false, false, false, false, false, false, false, false, false, false, false, false, false, false, false, false, false, false, false, false, false, false, false, false, false, false, false, false, false, false, false, false, false, false, false, false, false]) (by kernel_rfl) rfl ?_
    have HF := Lib.hid hK; clear hK
    refine reg_take 0 21 (.slice (some ⟨g5, 0, none⟩) 16 16) (by kernel_rfl) (fun _ _ => by kernel_rfl) h0 ?_
    simp only [Act.put, List.setIfInBounds_toArray, List.set_cons_zero, List.set_cons_succ]
    refine reg_take 1 22 (.slice (some ⟨n0, 0, none⟩) 16 16) (by kernel_rfl) (fun _ _ => by kernel_rfl) h0 ?_
    simp only [Act.put, List.setIfInBounds_toArray, List.set_cons_zero, List.set_cons_succ]
    refine reg_call 2 23 16 #[.slice (some ⟨n0, 0, none⟩) 16 16, .string Sea.encS, .int .i64 16] (by kernel_rfl) (by kernel_rfl) ?_
    refine (refderive_in (Sea.nl 16 key) _ Sea.encS 16 _ (by omega) (KS0.out.below h0) (by rw [Sea.nl_length]; omega) (by decide)).mono ?_
    rintro e w23 ⟨v23, rfl, o23, hb23⟩
    have h23 := h0.trans (hb23.mono h0.size)
    refine ⟨_, rfl, h23, ?_⟩
    simp only [Act.put, List.setIfInBounds_toArray, List.set_cons_zero, List.set_cons_succ]
    rw [← nl_ek] at o23
    refine reg_call 3 24 10 #[.slice (some ⟨g5, 0, none⟩) 16 16, v23] (by kernel_rfl) (by kernel_rfl) ?_
    refine (same_yes _ _ (Sea.nl 16 (Sea.ek key)) _ (RE.out.below h23) o23.bs.rs).mono ?_
    rintro e w24 ⟨rfl, hb24⟩
    have h24 := h23.trans (hb24.mono h23.size)
    refine ⟨_, rfl, h24, ?_⟩
    simp only [Act.put, List.setIfInBounds_toArray, List.set_cons_zero, List.set_cons_succ]
    refine reg_take 4 25 (.bool true) (by kernel_rfl) (fun _ _ => by kernel_rfl) h24 ?_
    simp only [Act.put, List.setIfInBounds_toArray, List.set_cons_zero, List.set_cons_succ]
    refine reg_take 5 26 (.slice (some ⟨g6, 0, none⟩) 32 32) (by kernel_rfl) (fun _ _ => by kernel_rfl) h24 ?_
    simp only [Act.put, List.setIfInBounds_toArray, List.set_cons_zero, List.set_cons_succ]
    refine reg_take 6 27 (.slice (some ⟨n0, 0, none⟩) 16 16) (by kernel_rfl) (fun _ _ => by kernel_rfl) h24 ?_
    simp only [Act.put, List.setIfInBounds_toArray, List.set_cons_zero, List.set_cons_succ]
    refine reg_call 7 28 16 #[.slice (some ⟨n0, 0, none⟩) 16 16, .string Sea.proS, .int .i64 32] (by kernel_rfl) (by kernel_rfl) ?_
    refine (refderive_in (Sea.nl 16 key) _ Sea.proS 32 _ (by omega) (KS0.out.below h24) (by rw [Sea.nl_length]; omega) (by decide)).mono ?_
    rintro e w28 ⟨v28, rfl, o28, hb28⟩
    have h28 := h24.trans (hb28.mono h24.size)
    refine ⟨_, rfl, h28, ?_⟩
    simp only [Act.put, List.setIfInBounds_toArray, List.set_cons_zero, List.set_cons_succ]
    refine reg_call 8 29 10 #[.slice (some ⟨g6, 0, none⟩) 32 32, v28] (by kernel_rfl) (by kernel_rfl) ?_
    refine (same_yes _ _ (Sea.mk key) _ (RM.out.below h28) o28.bs.rs).mono ?_
    rintro e w29 ⟨rfl, hb29⟩
    have h29 := h28.trans (hb29.mono h28.size)
    refine ⟨_, rfl, h29, ?_⟩
    simp only [Act.put, List.setIfInBounds_toArray, List.set_cons_zero, List.set_cons_succ]
    refine reg_take 9 30 (.bool true) (by kernel_rfl) (fun _ _ => by kernel_rfl) h29 ?_
    simp only [Act.put, List.setIfInBounds_toArray, List.set_cons_zero, List.set_cons_succ]
    refine reg_take 10 31 (.bool true) (by kernel_rfl) (fun _ _ => by kernel_rfl) h29 ?_
    simp only [Act.put, List.setIfInBounds_toArray, List.set_cons_zero, List.set_cons_succ]
    refine reg_load 11 32 (by kernel_rfl) _ (.tmp 2) (by kernel_rfl) ⟨n0, 0, none⟩ (by kernel_rfl) (arr .u8 16 (key)) _ (fun w' hw' => (k0.below hw' k0.lt).cells) rfl rfl (info16s _) h29 ?_
    simp only [Act.put, List.setIfInBounds_toArray, List.set_cons_zero, List.set_cons_succ]
    refine reg_load 12 33 (by kernel_rfl) _ (.tmp 3) (by kernel_rfl) ⟨n1, 0, none⟩ (by kernel_rfl) (arr .u8 16 (other)) _ (fun w' hw' => (k1.below hw' k1.lt).cells) rfl rfl (info16s _) h29 ?_
    simp only [Act.put, List.setIfInBounds_toArray, List.set_cons_zero, List.set_cons_succ]
    refine reg_take 13 34 (.bool false) (by kernel_rfl) (fun w' _ => (run_neqIn_arr (P := Tryd.prog) (k := .u8) (n := 16) key other (ty := 22) (x := .tmp 32) (y := .tmp 33) (by kernel_rfl) (by kernel_rfl) (by kernel_rfl) Tryd.underlying22 Tryd.underlying5 (by kernel_rfl) (by kernel_rfl)).trans (by rw [HQ.out]; rfl)) h29 ?_
    simp only [Act.put, List.setIfInBounds_toArray, List.set_cons_zero, List.set_cons_succ]
    refine reg_take 14 35 (.bool false) (by kernel_rfl) (fun _ _ => by kernel_rfl) h29 ?_
    simp only [Act.put, List.setIfInBounds_toArray, List.set_cons_zero, List.set_cons_succ]
    refine reg_load 15 36 (by kernel_rfl) _ (.tmp 5) (by kernel_rfl) ⟨g5, 0, none⟩ (by kernel_rfl) (arr .u8 16 (Sea.ek key)) _ (fun w' hw' => (e5.below hw' e5.lt).cells) rfl rfl (info16s _) h29 ?_
    simp only [Act.put, List.setIfInBounds_toArray, List.set_cons_zero, List.set_cons_succ]
    refine reg_load 16 37 (by kernel_rfl) _ (.tmp 7) (by kernel_rfl) ⟨g7, 0, none⟩ (by kernel_rfl) (arr .u8 16 (Sea.ek other)) _ (fun w' hw' => (e7.below hw' e7.lt).cells) rfl rfl (info16s _) h29 ?_
    simp only [Act.put, List.setIfInBounds_toArray, List.set_cons_zero, List.set_cons_succ]
    refine reg_take 17 38 (.bool true) (by kernel_rfl) (fun w' _ => (exec_eql_arr (P := Tryd.prog) (k := .u8) (n := 16) (Sea.ek key) (Sea.ek other) (ty := 22) (x := .tmp 36) (y := .tmp 37) (by kernel_rfl) (by kernel_rfl) (by kernel_rfl) Tryd.underlying22 Tryd.underlying5 (by kernel_rfl) (by kernel_rfl)).trans (by rw [HE.out])) h29 ?_
    simp only [Act.put, List.setIfInBounds_toArray, List.set_cons_zero, List.set_cons_succ]
    refine reg_take 18 39 (.bool true) (by kernel_rfl) (fun _ _ => by kernel_rfl) h29 ?_
    simp only [Act.put, List.setIfInBounds_toArray, List.set_cons_zero, List.set_cons_succ]
    refine reg_load 19 40 (by kernel_rfl) _ (.tmp 6) (by kernel_rfl) ⟨g6, 0, none⟩ (by kernel_rfl) (arr .u8 32 (Sea.mf key)) _ (fun w' hw' => (e6.below hw' e6.lt).cells) rfl rfl (info32s _) h29 ?_
    simp only [Act.put, List.setIfInBounds_toArray, List.set_cons_zero, List.set_cons_succ]
    refine reg_load 20 41 (by kernel_rfl) _ (.tmp 8) (by kernel_rfl) ⟨g8, 0, none⟩ (by kernel_rfl) (arr .u8 32 (Sea.mf other)) _ (fun w' hw' => (e8.below hw' e8.lt).cells) rfl rfl (info32s _) h29 ?_
    simp only [Act.put, List.setIfInBounds_toArray, List.set_cons_zero, List.set_cons_succ]
    refine reg_take 21 42 (.bool true) (by kernel_rfl) (fun w' _ => (exec_eql_arr (P := Tryd.prog) (k := .u8) (n := 32) (Sea.mf key) (Sea.mf other) (ty := 36) (x := .tmp 40) (y := .tmp 41) (by kernel_rfl) (by kernel_rfl) (by kernel_rfl) Tryd.underlying36 Tryd.underlying5 (by kernel_rfl) (by kernel_rfl)).trans (by rw [HM.out])) h29 ?_
    simp only [Act.put, List.setIfInBounds_toArray, List.set_cons_zero, List.set_cons_succ]
    refine reg_take 22 43 (.bool true) (by kernel_rfl) (fun _ _ => by kernel_rfl) h29 ?_
    simp only [Act.put, List.setIfInBounds_toArray, List.set_cons_zero, List.set_cons_succ]
    refine reg_take 23 44 (.bool true) (by kernel_rfl) (fun _ _ => by kernel_rfl) h29 ?_
    simp only [Act.put, List.setIfInBounds_toArray, List.set_cons_zero, List.set_cons_succ]
    refine reg_take 24 45 (.bool true) (by kernel_rfl) (fun _ _ => by kernel_rfl) h29 ?_
    simp only [Act.put, List.setIfInBounds_toArray, List.set_cons_zero, List.set_cons_succ]
    refine reg_take 25 46 (.bool true) (by kernel_rfl) (fun _ _ => by kernel_rfl) h29 ?_
    simp only [Act.put, List.setIfInBounds_toArray, List.set_cons_zero, List.set_cons_succ]
    refine reg_load 26 47 (by kernel_rfl) _ (.tmp 7) (by kernel_rfl) ⟨g7, 0, none⟩ (by kernel_rfl) (arr .u8 16 (Sea.ek other)) _ (fun w' hw' => (e7.below hw' e7.lt).cells) rfl rfl (info16s _) h29 ?_
    simp only [Act.put, List.setIfInBounds_toArray, List.set_cons_zero, List.set_cons_succ]
    refine reg_take 27 48 (.slice (some ⟨n1, 0, none⟩) 16 16) (by kernel_rfl) (fun _ _ => by kernel_rfl) h29 ?_
    simp only [Act.put, List.setIfInBounds_toArray, List.set_cons_zero, List.set_cons_succ]
    refine reg_call 28 49 16 #[.slice (some ⟨n1, 0, none⟩) 16 16, .string Sea.encS, .int .i64 16] (by kernel_rfl) (by kernel_rfl) ?_
    refine (refderive_in (Sea.nl 16 other) _ Sea.encS 16 _ (by omega) (KS1.out.below h29) (by rw [Sea.nl_length]; omega) (by decide)).mono ?_
    rintro e w49 ⟨v49, rfl, o49, hb49⟩
    have h49 := h29.trans (hb49.mono h29.size)
    refine ⟨_, rfl, h49, ?_⟩
    simp only [Act.put, List.setIfInBounds_toArray, List.set_cons_zero, List.set_cons_succ]
    have hln := Mac.dn_length (Sea.nl 16 other) (lb Sea.encS) 16
    obtain ⟨g, goff, gc, rfl, hc1, hc⟩ := bs_cells o49.bs 16 (by omega) (by omega)
    rw [hln]
    rw [← ek_def] at hc
    refine reg_take 29 50 (.pointer (some ⟨g, goff, none⟩)) (by kernel_rfl) (fun _ _ => exec_arrayPtr (x := .tmp 49) (cp := gc) (by kernel_rfl) (by kernel_rfl)) h49 ?_
    simp only [Act.put, List.setIfInBounds_toArray, List.set_cons_zero, List.set_cons_succ]
    refine reg_one 30 (by kernel_rfl) (by kernel_rfl) (HStep.value (some 51) (by kernel_rfl) (by kernel_rfl) (.agg (arr .u8 16 (Sea.ek other))) w49 (exec_load_arr (x := .tmp 50) (ad := ⟨g, goff, none⟩) (cs := arr .u8 16 (Sea.ek other)) (by kernel_rfl) (by kernel_rfl) hc (info16s _)) h49 ?_)
    simp only [Act.put, List.setIfInBounds_toArray, List.set_cons_zero, List.set_cons_succ]
    refine reg_take 31 52 (.bool true) (by kernel_rfl) (fun w' _ => (exec_eql_arr (P := Tryd.prog) (k := .u8) (n := 16) (Sea.ek other) (Sea.ek other) (ty := 22) (x := .tmp 47) (y := .tmp 51) (by kernel_rfl) (by kernel_rfl) (by kernel_rfl) Tryd.underlying22 Tryd.underlying5 (by kernel_rfl) (by kernel_rfl)).trans (by rw [sameArr_refl])) h49 ?_
    simp only [Act.put, List.setIfInBounds_toArray, List.set_cons_zero, List.set_cons_succ]
    refine reg_take 32 53 (.bool true) (by kernel_rfl) (fun _ _ => by kernel_rfl) h49 ?_
    simp only [Act.put, List.setIfInBounds_toArray, List.set_cons_zero, List.set_cons_succ]
    refine reg_take 33 54 (.bool true) (by kernel_rfl) (fun _ _ => by kernel_rfl) h49 ?_
    simp only [Act.put, List.setIfInBounds_toArray, List.set_cons_zero, List.set_cons_succ]
    refine reg_take 34 55 (.slice (some ⟨g8, 0, none⟩) 32 32) (by kernel_rfl) (fun _ _ => by kernel_rfl) h49 ?_
    simp only [Act.put, List.setIfInBounds_toArray, List.set_cons_zero, List.set_cons_succ]
    refine reg_take 35 56 (.slice (some ⟨n1, 0, none⟩) 16 16) (by kernel_rfl) (fun _ _ => by kernel_rfl) h49 ?_
    simp only [Act.put, List.setIfInBounds_toArray, List.set_cons_zero, List.set_cons_succ]
    refine reg_call 36 57 16 #[.slice (some ⟨n1, 0, none⟩) 16 16, .string Sea.proS, .int .i64 32] (by kernel_rfl) (by kernel_rfl) ?_
    refine (refderive_in (Sea.nl 16 other) _ Sea.proS 32 _ (by omega) (KS1.out.below h49) (by rw [Sea.nl_length]; omega) (by decide)).mono ?_
    rintro e w57 ⟨v57, rfl, o57, hb57⟩
    have h57 := h49.trans (hb57.mono h49.size)
    refine ⟨_, rfl, h57, ?_⟩
    simp only [Act.put, List.setIfInBounds_toArray, List.set_cons_zero, List.set_cons_succ]
    refine reg_call 37 58 10 #[.slice (some ⟨g8, 0, none⟩) 32 32, v57] (by kernel_rfl) (by kernel_rfl) ?_
    refine (same_yes _ _ (Sea.mk other) _ (RN.out.below h57) o57.bs.rs).mono ?_
    rintro e w58 ⟨rfl, hb58⟩
    have h58 := h57.trans (hb58.mono h57.size)
    refine ⟨_, rfl, h58, ?_⟩
    simp only [Act.put, List.setIfInBounds_toArray, List.set_cons_zero, List.set_cons_succ]
    refine reg_take 38 59 (.bool true) (by kernel_rfl) (fun _ _ => by kernel_rfl) h58 ?_
    simp only [Act.put, List.setIfInBounds_toArray, List.set_cons_zero, List.set_cons_succ]
    refine reg_take 39 4 (.bool true) (by kernel_rfl) (fun _ _ => by kernel_rfl) h58 ?_
    simp only [Act.put, List.setIfInBounds_toArray, List.set_cons_zero, List.set_cons_succ]
    refine reg_done (by kernel_rfl) (HF.out _ _ ?_)
    have BF := B7.trans (h58.mono B7.size)
    clear HF
    go_wp2_with fail
    go_ret
    exact ⟨rfl, BF⟩

theorem sealKeys_walk (f : Nat → Int) (wf : ∀ j, j < 16 → (Lit.int .u8 (f j)).wf = true) (g : Nat → Int) (wg : ∀ j, j < 16 → (Lit.int .u8 (g j)).wf = true) (w : World) (hK : Consts w Sha.tab) :
    Calls Tryd.prog 6 #[.agg ((List.range 16).map fun i => Value.int .u8 (f i)).toArray, .agg ((List.range 16).map fun i => Value.int .u8 (g i)).toArray] w (RetBool true w) := by
  obtain ⟨key, hk, e1⟩ := bytes_arg f wf
  obtain ⟨other, ho, e2⟩ := bytes_arg g wg
  rw [e1, e2]
  exact sealKeys_core key other hk ho w hK

/-! ### THE ROW's STEP -/
namespace sealKeysF
theorem own : ownKnob Tryd.prog.godebug = none := by kernel_rfl
theorem laidOut : laidOutB Tryd.prog = true := by kernel_rfl
theorem gT : Tryd.prog.globalNamed "toll/sha.constants" = some 0 := by kernel_rfl
theorem gTType : (Tryd.prog.globals[0]?).map (·.type) = some 70 := by kernel_rfl
theorem door_met (os : Os) (args : Array Value) : laidMetH Tryd.prog Rows.sealKeysRow.laid ((World.doorLaid Tryd.prog 400 os).forCall (fun _ _ => 0) ⟨#[], args, []⟩).memory :=
  laidMetH_of_parts3 (fuel := 8) (laidMet_of_run' 8 (by kernel_rfl) (by kernel_rfl)) (by kernel_rfl) (by kernel_rfl)
theorem of_laid {W : World} (h : laidMetH Tryd.prog Rows.sealKeysRow.laid W) : Consts W Sha.tab := fun i hi => by
  rw [MakeChecks.laidMetH_plain _ _ _ (by kernel_rfl)] at h
  have hT := Lib.tabIs_of_head (k := .u32) (zs := Sha.tableL.map fun n : Nat => (n : Int)) gT gTType Tryd.underlying70 Tryd.underlying60 (by kernel_rfl) (by kernel_rfl) h
  have hl : i < Sha.tableL.length := hi
  rw [hT.cell gT i (by simpa using hl)]
  simp [Sha.tab, List.getD, hl]
set_option maxRecDepth 100000 in
theorem lifted (os : Os) (started : os.Started) (H : Type) (enc : TypeId × Value → H) :
    ReturnsInHanded {} Tryd.checked os 6 .any (fun w args => (Rows.sealKeysSpec.pre enc Tryd.prog Tryd.f6 [] false w args ∧ laidMetH Tryd.prog Rows.sealKeysRow.laid w) ∧ sizedMet enc Tryd.prog Tryd.f6 (OpenSpec.ofChange Rows.sealKeysSpec) false w args)
      (Rows.sealKeysSpec.post enc Tryd.prog Tryd.f6 false true false false) := by
  refine returnsInHanded_of_change_and (C := Tryd.checked) (X := fun w _ => laidMetH Tryd.prog Rows.sealKeysRow.laid w) (fun _ _ _ hh h => h.of_heap hh) own started (by kernel_rfl) Tryd.func6
    (ChangeSpec.witness_shaped (enc := enc) (C := Tryd.checked) (os := os) (X := fun w _ => laidMetH Tryd.prog Rows.sealKeysRow.laid w) false (World.doorLaid Tryd.prog 400 os) #[.agg #[.int .u8 0, .int .u8 0, .int .u8 0, .int .u8 0, .int .u8 0, .int .u8 0, .int .u8 0, .int .u8 0, .int .u8 0, .int .u8 0, .int .u8 0, .int .u8 0, .int .u8 0, .int .u8 0, .int .u8 0, .int .u8 0], .agg #[.int .u8 0, .int .u8 0, .int .u8 0, .int .u8 0, .int .u8 0, .int .u8 0, .int .u8 0, .int .u8 0, .int .u8 0, .int .u8 0, .int .u8 0, .int .u8 0, .int .u8 0, .int .u8 0, .int .u8 0, .int .u8 0]] 8 rfl (World.shaped_of_RefB (by kernel_rfl) (by kernel_rfl)) (by kernel_rfl) (by kernel_rfl) (by kernel_rfl) (door_met os _)) ?_
  intro W base args ds gs before hval0 hW _ _ hL _
  have hK := of_laid hL
  have hval : ∀ (j : Nat) t v, Tryd.f6.params[j]? = some t → args[j]? = some v → Value.okWide Tryd.prog W .any base t v := hval0
  have hW' := hW
  obtain ⟨p, q, hA0, hV, rfl, _, _⟩ := hW
  have hA : DataW.TrodAll enc Tryd.prog W 0 (fun _ => true) true Tryd.f6.params.toList args.toList ds p := hA0
  rw [Tryd.params6] at hA hval
  obtain ⟨v0, vs0, d0, ds0, p0, q0, hargs, rfl, rfl, h0, r0⟩ := trodAll_cons hA
  obtain ⟨v1, vs1, d1, ds1, p1, q1, rfl, rfl, rfl, h1, r1⟩ := trodAll_cons r0
  obtain ⟨rfl, rfl, rfl⟩ := trodAll_nil r1
  obtain rfl : args = #[v0, v1] := by cases args; simp_all
  obtain ⟨rfl, rfl⟩ := trodVars_none hV
  have k0 := h0
  have lt0 : ∀ x ∈ p0, x.block < W.heap.size := by obtain ⟨m, hm⟩ := k0; exact DataW.trod_lt m _ _ _ hm
  obtain ⟨a0, rfl, w0⟩ := open_int_array Tryd.underlying22 Tryd.underlying5 (by kernel_rfl) (by kernel_rfl) (hval 0 22 v0 rfl rfl) h0
  have k1 := h1
  have lt1 : ∀ x ∈ p1, x.block < W.heap.size := by obtain ⟨m, hm⟩ := k1; exact DataW.trod_lt m _ _ _ hm
  obtain ⟨a1, rfl, w1⟩ := open_int_array Tryd.underlying22 Tryd.underlying5 (by kernel_rfl) (by kernel_rfl) (hval 1 22 v1 rfl rfl) h1
  refine (sealKeys_walk a0 w0 a1 w1 W hK).mono fun e W' ⟨he, bel⟩ => ?_
  subst he
  exact ⟨_, rfl, _, _, _, [], _, [], hW', trodAll_mk1 (shut_bool Tryd.underlying4 _), (trodAll_cons_mk (Below.trod laidOut (by kernel_rfl) (of_decide_eq_true (by kernel_rfl)) k0 bel lt0) (trodAll_cons_mk (Below.trod laidOut (by kernel_rfl) (of_decide_eq_true (by kernel_rfl)) k1 bel lt1) trodAll_mk0)), rfl, bel.frame _, fun h => by cases h⟩
theorem over : Rows.sealKeysRow.holds Tryd.pinned (OpenSpec.ofChange Rows.sealKeysSpec) :=
  OpenClaim.holds_of_wide 6 Tryd.f6 rfl rfl rfl rfl rfl rfl rfl ⟨rfl, rfl, rfl, rfl, rfl⟩ rfl rfl rfl rfl rfl (by kernel_rfl) Tryd.func6 (by kernel_rfl)
    (of_decide_eq_true (by kernel_rfl)) (by unfold Func.isWrapper; first | (rw [if_pos (by decide +kernel)]; kernel_rfl) | (rw [if_neg (by decide +kernel)]; exact ⟨rfl, rfl⟩))
    (fun os started H enc _ => lifted os started H enc)
end sealKeysF
/-- The row. -/
theorem sealKeys_row : Rows.SealKeysSaid := sealKeysF.over
/-- The statement: the card. -/
theorem sealKeys_holds : Rows.SealKeysCardSaid :=
  Claim7.holds_tied_plain_at .later [] [.data] true Rows.sealKeysCard.stood.harness false
    sealKeys_row (fun _ h => by cases h) (by kernel_rfl) (fun _ h => by cases h) sealKeys_row_tie rfl ⟨rfl, rfl⟩ (by kernel_rfl) rfl
    (fun f fn hf hfn => by
      obtain rfl : f = 6 := Option.some.inj ((show Tryd.prog.funcNamed "toll/tolllaw09.SealKeys" = some 6 by kernel_rfl).symm.trans hf) |>.symm
      obtain rfl : fn = Tryd.f6 := (Option.some.inj (Tryd.func6.symm.trans hfn)).symm
      exact ⟨by kernel_rfl, fun j t ht => by
        rw [Tryd.params6] at ht
        have hm : t ∈ [22, 22] := by simpa using Array.mem_of_getElem? ht
        have hall : ([22, 22].all fun u => !Tryd.prog.wantsStandIn u) = true := by kernel_rfl
        exact (show Tryd.prog.wantsStandIn t = false by simpa using List.all_eq_true.1 hall t hm)⟩)
    (by kernel_rfl)
#print axioms sealKeys_holds
end Go.Proofs.YtpbcpdocnjnfiaaDoor
