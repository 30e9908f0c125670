/- A block of the stream is the encryption of the nonce and its number; streams of different nonces are different: for every key, nonces and number the law returns true. No condition. -/
import Derived.Test.YtibgmoapkionjaaCtrKit
namespace Go.Proofs.Ytibgmoapkionjaa
open Go.ChangeShapes Go.WideShapes Go.ChangeAt Go.RowKit Go.Deep

attribute [local irreducible] wpAnyH in
set_option maxRecDepth 100000 in
set_option maxHeartbeats 4000000 in
theorem ctrBlocks_core (key nonce other : Nat → Nat) (hk : Aes.B8 key) (hn : Aes.B8 nonce) (ho : Aes.B8 other) (i : Nat) (hi : i < 18446744073709551616) (w : World) : Calls Try.prog 11 #[.agg (arr .u8 16 key), .agg (arr .u8 8 nonce), .agg (arr .u8 8 other), .int .u64 (i : Int)] w (RetBool true w) := by
  obtain ⟨j, hj⟩ : ∃ j, j = (i + 1) % 18446744073709551616 := ⟨_, rfl⟩
  have hj64 : j < 18446744073709551616 := by omega
  have T2 : sameArr 16 (Ctr.bk key nonce i) (Ctr.bk key other i) = sameArr 8 nonce other := by
    rw [Bool.eq_iff_iff, sameArr_iff, sameArr_iff]; exact Ctr.bk_nonce hk hn ho
  have T3 : sameArr 16 (Ctr.bk key nonce i) (Ctr.bk key nonce j) = false := by
    have h := Ctr.bk_apart hk hn hi hj64 (show i ≠ j by omega)
    cases hs : sameArr 16 (Ctr.bk key nonce i) (Ctr.bk key nonce j) with
    | false => rfl
    | true => exact absurd ((sameArr_iff _ _ _).1 hs) h
  have HJ := Lib.hid hj; clear hj
  have hsz := arr_size .u8 16 key
  have hsz2 := arr_size .u8 8 nonce
  have hsz3 := arr_size .u8 8 other
  generalize hc : sameArr 8 nonce other = c at T2
  have HC := Lib.hid hc; clear hc
  have HT2 := Lib.hid T2; have HT3 := Lib.hid T3
  clear T2 T3
  go_enter Try.func11, Try.ntmps11
  go_wp2_with fail
  refine (ctrAwake_any _).mono ?_
  rintro e w1 ⟨rfl, hb1⟩
  go_upto_region 3 with fail
  obtain ⟨a1, a2, a3, a4⟩ := kn3_boxes w key nonce other
  have h1 := a1.below hb1 (by simp; omega)
  have h2 := a2.below hb1 (by simp)
  have h3 := a3.below hb1 (by simp)
  have VB := Lib.hid (a4.trans (hb1.mono (by simp; omega)))
  have VA := Lib.hid (And.intro h1 (And.intro h2 h3))
  clear a1 a2 a3 a4 h1 h2 h3 hb1 hsz hsz2 hsz3
  generalize hn0 : w.heap.size = n0 at VA VB ⊢
  obtain ⟨n1, hn1⟩ : ∃ n1, n1 = n0 + 1 := ⟨_, rfl⟩
  obtain ⟨n2, hn2⟩ : ∃ n2, n2 = n0 + 2 := ⟨_, rfl⟩
  have e2 : n0 + 1 + 1 = n2 := by omega
  try rw [e2]
  rw [← hn1, ← hn2] at VA
  rw [← hn1]
  try rw [← hn2]
  have HN1 := Lib.hid hn1; have HN2 := Lib.hid hn2; clear hn1 hn2 e2
  have k1 := VA.out.1
  have k2 := VA.out.2.1
  have k3 := VA.out.2.2
  go_upto_region 4 with (first | refine wpList_load_row rfl _ _ rfl n0 rfl _ _ (0, 0) _ k1 rfl rfl (info16 _) ?_ | refine wpList_load_row rfl _ _ rfl n1 rfl _ _ (0, 0) _ k2 rfl rfl (info8 _) ?_ | (go_at_call 34; refine (ctrblock_any key nonce i _ hk hn hi).mono ?_; rintro e w2 ⟨rfl, hb2⟩) | (refine wpList_store_rowTo rfl _ _ _ rfl rfl w2.heap.size _ rfl rfl _ _ (heap_alloc_new _ _) (info16 _) (by rw [arr_size]; first | rfl | simp) (arr_one _ _ _) ?_; generalize hV : World.setRow _ w2.heap.size _ = V2))
  have hs2 := hb2.size
  have b2 : Below w1.heap.size w1 V2 := by rw [← hV]; exact below_setRow (hb2.alloc hs2 _) hs2 _
  have A9 : isArr V2 w2.heap.size 22 .u8 16 (Ctr.bk key nonce i) := by rw [← hV]; exact setRow_heap _ _ _ _ _ _ (heap_alloc_new _ _)
  have k1 := k1.below b2 k1.lt
  have k2 := k2.below b2 k2.lt
  have k3 := k3.below b2 k3.lt
  have HB2 := Lib.hid (VB.out.trans (b2.mono (by have := VB.out.size; omega)))
  have HA9 := Lib.hid A9
  clear hV hb2 hs2 b2 A9
  generalize w2.heap.size = g9 at HA9 ⊢
  go_upto_region 5 with (first | refine wpList_load_row rfl _ _ rfl n0 rfl _ _ (0, 0) _ k1 rfl rfl (info16 _) ?_ | refine wpList_load_row rfl _ _ rfl n2 rfl _ _ (0, 0) _ k3 rfl rfl (info8 _) ?_ | (go_at_call 34; refine (ctrblock_any key other i _ hk ho hi).mono ?_; rintro e w3 ⟨rfl, hb3⟩) | (refine wpList_store_rowTo rfl _ _ _ rfl rfl w3.heap.size _ rfl rfl _ _ (heap_alloc_new _ _) (info16 _) (by rw [arr_size]; first | rfl | simp) (arr_one _ _ _) ?_; generalize hV : World.setRow _ w3.heap.size _ = V))
  have hs3 := hb3.size
  have b3 : Below V2.heap.size V2 V := by rw [← hV]; exact below_setRow (hb3.alloc hs3 _) hs3 _
  have A10 : isArr V w3.heap.size 22 .u8 16 (Ctr.bk key other i) := by rw [← hV]; exact setRow_heap _ _ _ _ _ _ (heap_alloc_new _ _)
  have A9 := HA9.out.below b3 HA9.out.lt
  have k1 := k1.below b3 k1.lt
  have k2 := k2.below b3 k2.lt
  have k3 := k3.below b3 k3.lt
  have VB := Lib.hid (HB2.out.trans (b3.mono (by have := HB2.out.size; omega)))
  have VAL := Lib.hid (And.intro k1 (And.intro k2 (And.intro k3 (And.intro A9 A10))))
  clear hV hb3 hs3 b3 A10 A9 HA9 k1 k2 k3 VA HB2
  generalize w3.heap.size = g10 at VAL ⊢
  have L1 := cells_at VAL.out.1
  have L2 := cells_at VAL.out.2.1
  have L3 := cells_at VAL.out.2.2.1
  have L4 := cells_at VAL.out.2.2.2.1
  have L5 := cells_at VAL.out.2.2.2.2
  refine wp_reg Try.f11 5 26 (fun w' => Below V.heap.size V w') (by kernel_rfl) (by kernel_rfl) (by kernel_rfl) (below_drewN (Below.refl _ _) 1) (fun K hK h0 => ?_)
  refine reg_cast (listed' := #[false, false, false, false, false, false, false, false, false, false, false, false, false, false, false, false, false, false, false, false, false, false, false, false, false, false]) (by kernel_rfl) rfl ?_
  have HF := Lib.hid hK; clear hK
  refine reg_take 3 24 (.int .u64 (i : Int)) (by kernel_rfl) (fun _ _ => by kernel_rfl) h0 ?_
  simp only [Act.put, List.setIfInBounds_toArray, List.set_cons_zero, List.set_cons_succ]
  refine reg_load 0 21 (by kernel_rfl) _ (.tmp 9) (by kernel_rfl) ⟨g9, 0, none⟩ (by kernel_rfl) (arr .u8 16 (Ctr.bk key nonce i)) _ L4 rfl rfl (info16 _) h0 ?_
  simp only [Act.put, List.setIfInBounds_toArray, List.set_cons_zero, List.set_cons_succ]
  refine reg_load 1 22 (by kernel_rfl) _ (.tmp 4) (by kernel_rfl) ⟨n0, 0, none⟩ (by kernel_rfl) (arr .u8 16 key) _ L1 rfl rfl (info16 _) h0 ?_
  simp only [Act.put, List.setIfInBounds_toArray, List.set_cons_zero, List.set_cons_succ]
  refine reg_load 2 23 (by kernel_rfl) _ (.tmp 5) (by kernel_rfl) ⟨n1, 0, none⟩ (by kernel_rfl) (arr .u8 8 nonce) _ L2 rfl rfl (info8 _) h0 ?_
  simp only [Act.put, List.setIfInBounds_toArray, List.set_cons_zero, List.set_cons_succ]
  refine reg_call 4 25 17 #[] (by kernel_rfl) (by kernel_rfl) ?_
  refine (box7_any _).mono ?_
  rintro e wz ⟨rfl, hbz⟩
  have h0 := below_then h0 hbz
  refine ⟨_, rfl, h0, ?_⟩
  simp only [Act.put, List.setIfInBounds_toArray, List.set_cons_zero, List.set_cons_succ]
  refine reg_call 5 26 35 #[.agg (arr .u8 16 key), .agg (arr .u8 8 nonce), .int .u64 (i : Int), .agg (arr .u8 256 Fld.sb)] (by kernel_rfl) (by kernel_rfl) ?_
  refine (refctrblock_any key nonce i _ hk hn hi).mono ?_
  rintro e wz ⟨rfl, hbz⟩
  have h0 := below_then h0 hbz
  refine ⟨_, rfl, h0, ?_⟩
  simp only [Act.put, List.setIfInBounds_toArray, List.set_cons_zero, List.set_cons_succ]
  refine reg_take 6 27 (.bool true) (by kernel_rfl) (fun w' _ => (exec_eql16 (Ctr.bk key nonce i) (Ctr.bk key nonce i) (.tmp 21) (.tmp 26) (by kernel_rfl) (by kernel_rfl) (by kernel_rfl)).trans (by rw [sameArr_refl])) h0 ?_
  simp only [Act.put, List.setIfInBounds_toArray, List.set_cons_zero, List.set_cons_succ]
  refine reg_take 7 28 (.bool true) (by kernel_rfl) (fun _ _ => by kernel_rfl) h0 ?_
  simp only [Act.put, List.setIfInBounds_toArray, List.set_cons_zero, List.set_cons_succ]
  refine reg_load 8 29 (by kernel_rfl) _ (.tmp 9) (by kernel_rfl) ⟨g9, 0, none⟩ (by kernel_rfl) (arr .u8 16 (Ctr.bk key nonce i)) _ L4 rfl rfl (info16 _) h0 ?_
  simp only [Act.put, List.setIfInBounds_toArray, List.set_cons_zero, List.set_cons_succ]
  refine reg_load 9 30 (by kernel_rfl) _ (.tmp 10) (by kernel_rfl) ⟨g10, 0, none⟩ (by kernel_rfl) (arr .u8 16 (Ctr.bk key other i)) _ L5 rfl rfl (info16 _) h0 ?_
  simp only [Act.put, List.setIfInBounds_toArray, List.set_cons_zero, List.set_cons_succ]
  refine reg_take 10 31 (.bool c) (by kernel_rfl) (fun w' _ => (exec_eql16 (Ctr.bk key nonce i) (Ctr.bk key other i) (.tmp 29) (.tmp 30) (by kernel_rfl) (by kernel_rfl) (by kernel_rfl)).trans (by rw [HT2.out])) h0 ?_
  simp only [Act.put, List.setIfInBounds_toArray, List.set_cons_zero, List.set_cons_succ]
  refine reg_load 11 32 (by kernel_rfl) _ (.tmp 5) (by kernel_rfl) ⟨n1, 0, none⟩ (by kernel_rfl) (arr .u8 8 nonce) _ L2 rfl rfl (info8 _) h0 ?_
  simp only [Act.put, List.setIfInBounds_toArray, List.set_cons_zero, List.set_cons_succ]
  refine reg_load 12 33 (by kernel_rfl) _ (.tmp 6) (by kernel_rfl) ⟨n2, 0, none⟩ (by kernel_rfl) (arr .u8 8 other) _ L3 rfl rfl (info8 _) h0 ?_
  simp only [Act.put, List.setIfInBounds_toArray, List.set_cons_zero, List.set_cons_succ]
  refine reg_take 13 34 (.bool c) (by kernel_rfl) (fun w' _ => (exec_eql8 nonce other (.tmp 32) (.tmp 33) (by kernel_rfl) (by kernel_rfl) (by kernel_rfl)).trans (by rw [HC.out])) h0 ?_
  simp only [Act.put, List.setIfInBounds_toArray, List.set_cons_zero, List.set_cons_succ]
  refine reg_take 14 35 (.bool true) (by kernel_rfl) (fun w' _ => exec_eql_same c (.tmp 31) (.tmp 34) (by kernel_rfl) (by kernel_rfl) (by kernel_rfl)) h0 ?_
  simp only [Act.put, List.setIfInBounds_toArray, List.set_cons_zero, List.set_cons_succ]
  refine reg_take 15 36 (.bool true) (by kernel_rfl) (fun _ _ => by kernel_rfl) h0 ?_
  simp only [Act.put, List.setIfInBounds_toArray, List.set_cons_zero, List.set_cons_succ]
  refine reg_take 16 37 (.bool true) (by kernel_rfl) (fun _ _ => by kernel_rfl) h0 ?_
  simp only [Act.put, List.setIfInBounds_toArray, List.set_cons_zero, List.set_cons_succ]
  refine reg_take 20 41 (.int .u64 (i : Int)) (by kernel_rfl) (fun _ _ => by kernel_rfl) h0 ?_
  simp only [Act.put, List.setIfInBounds_toArray, List.set_cons_zero, List.set_cons_succ]
  refine reg_take 21 42 (.int .u64 (j : Int)) (by kernel_rfl) (fun w' _ => exec_inc_u64 (.tmp 41) i j (by kernel_rfl) (by kernel_rfl) HJ.out) h0 ?_
  simp only [Act.put, List.setIfInBounds_toArray, List.set_cons_zero, List.set_cons_succ]
  refine reg_load 17 38 (by kernel_rfl) _ (.tmp 9) (by kernel_rfl) ⟨g9, 0, none⟩ (by kernel_rfl) (arr .u8 16 (Ctr.bk key nonce i)) _ L4 rfl rfl (info16 _) h0 ?_
  simp only [Act.put, List.setIfInBounds_toArray, List.set_cons_zero, List.set_cons_succ]
  refine reg_load 18 39 (by kernel_rfl) _ (.tmp 4) (by kernel_rfl) ⟨n0, 0, none⟩ (by kernel_rfl) (arr .u8 16 key) _ L1 rfl rfl (info16 _) h0 ?_
  simp only [Act.put, List.setIfInBounds_toArray, List.set_cons_zero, List.set_cons_succ]
  refine reg_load 19 40 (by kernel_rfl) _ (.tmp 5) (by kernel_rfl) ⟨n1, 0, none⟩ (by kernel_rfl) (arr .u8 8 nonce) _ L2 rfl rfl (info8 _) h0 ?_
  simp only [Act.put, List.setIfInBounds_toArray, List.set_cons_zero, List.set_cons_succ]
  refine reg_call 22 43 34 #[.agg (arr .u8 16 key), .agg (arr .u8 8 nonce), .int .u64 (j : Int)] (by kernel_rfl) (by kernel_rfl) ?_
  refine (ctrblock_any key nonce j _ hk hn hj64).mono ?_
  rintro e wz ⟨rfl, hbz⟩
  have h0 := below_then h0 hbz
  refine ⟨_, rfl, h0, ?_⟩
  simp only [Act.put, List.setIfInBounds_toArray, List.set_cons_zero, List.set_cons_succ]
  refine reg_take 23 44 (.bool true) (by kernel_rfl) (fun w' _ => (exec_neq16 (Ctr.bk key nonce i) (Ctr.bk key nonce j) (.tmp 38) (.tmp 43) (by kernel_rfl) (by kernel_rfl) (by kernel_rfl)).trans (by rw [HT3.out]; rfl)) h0 ?_
  simp only [Act.put, List.setIfInBounds_toArray, List.set_cons_zero, List.set_cons_succ]
  refine reg_take 24 45 (.bool true) (by kernel_rfl) (fun _ _ => by kernel_rfl) h0 ?_
  simp only [Act.put, List.setIfInBounds_toArray, List.set_cons_zero, List.set_cons_succ]
  refine reg_take 25 8 (.bool true) (by kernel_rfl) (fun _ _ => by kernel_rfl) h0 ?_
  simp only [Act.put, List.setIfInBounds_toArray, List.set_cons_zero, List.set_cons_succ]
  refine reg_done (by kernel_rfl) (HF.out _ _ ?_)
  clear HF
  go_wp2_with fail
  go_ret
  subst hn0
  exact ⟨rfl, VB.out.trans (h0.mono VB.out.size)⟩

theorem ctrBlocks_walk (f : Nat → Int) (wf : ∀ j, j < 16 → (Lit.int .u8 (f j)).wf = true) (g : Nat → Int) (wg : ∀ j, j < 8 → (Lit.int .u8 (g j)).wf = true) (q : Nat → Int) (wq : ∀ j, j < 8 → (Lit.int .u8 (q j)).wf = true) (i : Int) (wi : (Lit.int .u64 i).wf = true) (w : World) :
    Calls Try.prog 11 #[.agg ((List.range 16).map fun i => Value.int .u8 (f i)).toArray, .agg ((List.range 8).map fun i => Value.int .u8 (g i)).toArray, .agg ((List.range 8).map fun i => Value.int .u8 (q i)).toArray, .int .u64 i] w (RetBool true w) := by
  obtain ⟨key, hk, e1⟩ := bytes_arg f wf
  obtain ⟨nonce, hn, e2⟩ := bytes_arg g wg
  obtain ⟨other, ho, e3⟩ := bytes_arg q wq
  have hx := bounds_u64 wi
  obtain ⟨m, rfl⟩ := Int.eq_ofNat_of_zero_le hx.1
  rw [e1, e2, e3]
  exact ctrBlocks_core key nonce other hk hn ho m (by omega) w

/-! ### THE ROW's STEP -/
namespace ctrBlocksF
theorem own : ownKnob Try.prog.godebug = none := by kernel_rfl
theorem laidOut : laidOutB Try.prog = true := by kernel_rfl
set_option maxRecDepth 100000 in
theorem lifted (os : Os) (started : os.Started) (H : Type) (enc : TypeId × Value → H) :
    ReturnsInHanded {} Try.checked os 11 .any (Rows.ctrBlocksSpec.pre6 enc Try.prog Try.f11 Rows.ctrBlocksRow.domain false) (Rows.ctrBlocksSpec.post enc Try.prog Try.f11 false true false false) := by
  refine returnsInHanded_of_change (C := Try.checked) own started (by kernel_rfl) Try.func11
    (ChangeSpec.witness6 (enc := enc) (C := Try.checked) false ⟨#[], #[.agg #[.int .u8 0, .int .u8 0, .int .u8 0, .int .u8 0, .int .u8 0, .int .u8 0, .int .u8 0, .int .u8 0, .int .u8 0, .int .u8 0, .int .u8 0, .int .u8 0, .int .u8 0, .int .u8 0, .int .u8 0, .int .u8 0], .agg #[.int .u8 0, .int .u8 0, .int .u8 0, .int .u8 0, .int .u8 0, .int .u8 0, .int .u8 0, .int .u8 0], .agg #[.int .u8 0, .int .u8 0, .int .u8 0, .int .u8 0, .int .u8 0, .int .u8 0, .int .u8 0, .int .u8 0], .int .u64 0], []⟩ 8 (by kernel_rfl) (by kernel_rfl) (by kernel_rfl) (by kernel_rfl)) ?_
  intro W base args ds gs before hval0 hW _ _
  have hval : ∀ (j : Nat) t v, Try.f11.params[j]? = some t → args[j]? = some v → Value.okWide Try.prog W .any base t v := hval0
  have hW' := hW
  obtain ⟨p, q, hA0, hV, rfl, _, _⟩ := hW
  have hA : DataW.TrodAll enc Try.prog W 0 (fun _ => true) true Try.f11.params.toList args.toList ds p := hA0
  rw [Try.params11] at hA hval
  obtain ⟨v0, vs0, d0, ds0, p0, q0, hargs, rfl, rfl, h0, r0⟩ := trodAll_cons hA
  obtain ⟨v1, vs1, d1, ds1, p1, q1, rfl, rfl, rfl, h1, r1⟩ := trodAll_cons r0
  obtain ⟨v2, vs2, d2, ds2, p2, q2, rfl, rfl, rfl, h2, r2⟩ := trodAll_cons r1
  obtain ⟨v3, vs3, d3, ds3, p3, q3, rfl, rfl, rfl, h3, r3⟩ := trodAll_cons r2
  obtain ⟨rfl, rfl, rfl⟩ := trodAll_nil r3
  obtain rfl : args = #[v0, v1, v2, v3] := by cases args; simp_all
  obtain ⟨rfl, rfl⟩ := trodVars_none hV
  have k0 := h0
  have lt0 : ∀ x ∈ p0, x.block < W.heap.size := by obtain ⟨m, hm⟩ := k0; exact DataW.trod_lt m _ _ _ hm
  obtain ⟨a0, rfl, w0⟩ := open_int_array Try.underlying22 Try.underlying5 (by kernel_rfl) (by kernel_rfl) (hval 0 22 v0 rfl rfl) h0
  have k1 := h1
  have lt1 : ∀ x ∈ p1, x.block < W.heap.size := by obtain ⟨m, hm⟩ := k1; exact DataW.trod_lt m _ _ _ hm
  obtain ⟨a1, rfl, w1⟩ := open_int_array Try.underlying40 Try.underlying5 (by kernel_rfl) (by kernel_rfl) (hval 1 40 v1 rfl rfl) h1
  have k2 := h2
  have lt2 : ∀ x ∈ p2, x.block < W.heap.size := by obtain ⟨m, hm⟩ := k2; exact DataW.trod_lt m _ _ _ hm
  obtain ⟨a2, rfl, w2⟩ := open_int_array Try.underlying40 Try.underlying5 (by kernel_rfl) (by kernel_rfl) (hval 2 40 v2 rfl rfl) h2
  have k3 := h3
  have lt3 : ∀ x ∈ p3, x.block < W.heap.size := by obtain ⟨m, hm⟩ := k3; exact DataW.trod_lt m _ _ _ hm
  obtain ⟨a3, rfl, _, _, w3⟩ := open_int Try.underlying23 (hval 3 23 v3 rfl rfl) h3
  refine (ctrBlocks_walk a0 w0 a1 w1 a2 w2 a3 w3 W).mono fun e W' ⟨he, bel⟩ => ?_
  subst he
  exact ⟨_, rfl, _, _, _, [], _, [], hW', trodAll_mk1 (shut_bool Try.underlying4 _), (trodAll_cons_mk (Below.trod laidOut (by kernel_rfl) (of_decide_eq_true (by kernel_rfl)) k0 bel lt0) (trodAll_cons_mk (Below.trod laidOut (by kernel_rfl) (of_decide_eq_true (by kernel_rfl)) k1 bel lt1) (trodAll_cons_mk (Below.trod laidOut (by kernel_rfl) (of_decide_eq_true (by kernel_rfl)) k2 bel lt2) (trodAll_cons_mk (Below.trod laidOut (by kernel_rfl) (of_decide_eq_true (by kernel_rfl)) k3 bel lt3) trodAll_mk0)))), rfl, bel.frame _, fun h => by cases h⟩
theorem over : Rows.ctrBlocksRow.holds Try.pinned (OpenSpec.ofChange Rows.ctrBlocksSpec) :=
  OpenClaim.holds_of_wide 11 Try.f11 rfl rfl rfl rfl rfl rfl rfl ⟨rfl, rfl, rfl, rfl, rfl⟩ rfl rfl rfl rfl rfl (by kernel_rfl) Try.func11 (by kernel_rfl)
    (of_decide_eq_true (by kernel_rfl)) (by unfold Func.isWrapper; first | (rw [if_pos (by decide +kernel)]; kernel_rfl) | (rw [if_neg (by decide +kernel)]; exact ⟨rfl, rfl⟩))
    (fun os started H enc _ => lifted os started H enc)
end ctrBlocksF
/-- The statement. -/
theorem ctrBlocks_holds : Rows.CtrBlocksSaid := ctrBlocksF.over
#print axioms ctrBlocks_holds
end Go.Proofs.Ytibgmoapkionjaa
