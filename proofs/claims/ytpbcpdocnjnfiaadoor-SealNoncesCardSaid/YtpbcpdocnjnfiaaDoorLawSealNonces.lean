/- Sealed strings of the same bytes with different nonces are different, and each one is opened: for every key, two nonces and bytes the law returns true. The variable sha.constants reads as the program's text lays it. -/
import Derived.Test.YtpbcpdocnjnfiaaDoorSealKit
namespace Go.Proofs.YtpbcpdocnjnfiaaDoor
open Go.ChangeShapes Go.WideShapes Go.ChangeAt Go.RowKit Go.Deep

theorem Sea.sld_nonce (key a b : Nat → Nat) (u : Nat) (l : List Nat) : sameB (Sea.sld key u a l) (Sea.sld key u b l) = sameArr 8 a b := by
  by_cases h : ∀ i, i < 8 → a i = b i
  · rw [sameArr_yes h]
    have hf : Sea.front key a l = Sea.front key b l := by unfold Sea.front; rw [Sea.nl_congr h, Sea.crypt_nonce _ _ _ h]
    refine sameB_yes ?_
    show Sea.front key a l ++ Sea.code key u (Sea.front key a l) = Sea.front key b l ++ Sea.code key u (Sea.front key b l)
    rw [hf]
  · have h2 : sameArr 8 a b = false := by
      cases hs : sameArr 8 a b
      · rfl
      · exact absurd ((sameArr_iff 8 a b).1 hs) h
    rw [h2]
    refine sameB_no fun e => h fun i hi => ?_
    rw [← Sea.non_seal key u a l i hi, e, Sea.non_seal key u b l i hi]
theorem kn3 (w : World) (key a b : Nat → Nat) : isArr (((w.alloc (.cells (arr .u8 16 key) 22)).alloc (.cells (arr .u8 8 a) 23)).alloc (.cells (arr .u8 8 b) 23)) w.heap.size 22 .u8 16 key ∧ isArr (((w.alloc (.cells (arr .u8 16 key) 22)).alloc (.cells (arr .u8 8 a) 23)).alloc (.cells (arr .u8 8 b) 23)) (w.heap.size + 1) 23 .u8 8 a ∧ isArr (((w.alloc (.cells (arr .u8 16 key) 22)).alloc (.cells (arr .u8 8 a) 23)).alloc (.cells (arr .u8 8 b) 23)) (w.heap.size + 1 + 1) 23 .u8 8 b ∧ Below w.heap.size w (((w.alloc (.cells (arr .u8 16 key) 22)).alloc (.cells (arr .u8 8 a) 23)).alloc (.cells (arr .u8 8 b) 23)) := by
  obtain ⟨a1, a2, a3⟩ := kn_boxes w key a
  have a4 := isArr_new ((w.alloc (.cells (arr .u8 16 key) 22)).alloc (.cells (arr .u8 8 a) 23)) 23 .u8 8 b
  simp only [World.size_alloc] at a4
  exact ⟨a1.alloc _, a2.alloc _, a4, a3.alloc (by simp; omega) _⟩
set_option maxRecDepth 100000 in
set_option maxHeartbeats 4000000 in
theorem sealNonces_out (key a b : Nat → Nat) (v : Value) (s : List Nat) (w : World) (hv : Rs w v s) (hl : 500 < s.length) (hK : Consts w Sha.tab) :
    Calls Tryd.prog 7 #[.agg (arr .u8 16 key), .agg (arr .u8 8 a), .agg (arr .u8 8 b), v] w (RetBool true w) := by
  have HK := Lib.hid hK; clear hK
  have hsz := arr_size .u8 16 key
  have hsz2 := arr_size .u8 8 a
  have hsz3 := arr_size .u8 8 b
  obtain ⟨xa, xc, rfl⟩ := hv.form
  clear hv
  have B0 := (kn3 w key a b).2.2.2
  go_enter Tryd.func7, Tryd.ntmps7
  go_wp2_with fail
  refine (awake_seal _ (HK.out.below B0)).mono ?_
  rintro e w1 ⟨rfl, hb1⟩
  have B1 := Lib.hid (B0.trans (hb1.mono B0.size))
  clear hb1 B0
  go_wp2_with fail
  refine (awake_seal _ (HK.out.below B1.out)).mono ?_
  rintro e w2 ⟨rfl, hb2⟩
  have B2 := Lib.hid (B1.out.trans (hb2.mono B1.out.size)); clear hb2 B1
  go_wp2_with fail
  go_ret
  exact ⟨rfl, B2.out⟩

attribute [local irreducible] wpAnyH in
set_option maxRecDepth 100000 in
set_option maxHeartbeats 4000000 in
theorem sealNonces_core (key a b : Nat → Nat) (hk : Aes.B8 key) (ha : Aes.B8 a) (hb : Aes.B8 b) (v : Value) (s : List Nat) (w : World) (hv : Rs w v s) (hl : s.length ≤ 500) (hK : Consts w Sha.tab) :
    Calls Tryd.prog 7 #[.agg (arr .u8 16 key), .agg (arr .u8 8 a), .agg (arr .u8 8 b), v] w (RetBool true w) := by
  have HK := Lib.hid hK; clear hK
  have HV := Lib.hid hv
  obtain ⟨xa, xc, rfl⟩ := hv.form
  clear hv
  have hsz := arr_size .u8 16 key
  have hsz2 := arr_size .u8 8 a
  have hsz3 := arr_size .u8 8 b
  obtain ⟨j0, j1, j2, B0⟩ := kn3 w key a b
  have HXL := Lib.hid (Sea.seal_length key 1 a s)
  have HYL := Lib.hid (Sea.seal_length key 1 b s)
  have HXO := Lib.hid (Sea.op_seal key 1 a s)
  have HYO := Lib.hid (Sea.op_seal key 1 b s)
  have HXY := Lib.hid (Sea.sld_nonce key a b 1 s)
  obtain ⟨X, hX⟩ : ∃ X, X = Sea.sld key 1 a s := ⟨_, rfl⟩
  obtain ⟨Y, hY⟩ : ∃ Y, Y = Sea.sld key 1 b s := ⟨_, rfl⟩
  rw [← hX] at HXL HXO HXY
  rw [← hY] at HYL HYO HXY
  have HX := Lib.hid hX.symm; clear hX
  have HY := Lib.hid hY.symm; clear hY
  go_enter Tryd.func7, Tryd.ntmps7
  go_wp2_with fail
  refine (awake_seal _ (HK.out.below B0)).mono ?_
  rintro e w1 ⟨rfl, hb1⟩
  have k0 := j0.below hb1 j0.lt
  have k1 := j1.below hb1 j1.lt
  have k2 := j2.below hb1 j2.lt
  have B1 := B0.trans (hb1.mono B0.size)
  clear j0 j1 j2 B0 hb1
  obtain ⟨n0, hn0⟩ : ∃ n, n = w.heap.size := ⟨_, rfl⟩
  obtain ⟨n1, hn1⟩ : ∃ n, n = w.heap.size + 1 := ⟨_, rfl⟩
  obtain ⟨n2, hn2⟩ : ∃ n, n = w.heap.size + 1 + 1 := ⟨_, rfl⟩
  rw [← hn0] at k0
  rw [← hn1] at k1
  rw [← hn2] at k2
  have RV := Lib.hid (HV.out.below B1)
  have HN0 := Lib.hid hn0; have HN1 := Lib.hid hn1; have HN2 := Lib.hid hn2; clear hn0 hn1 hn2
  go_upto_region 3 with fail
  all_goals first | omega | skip
  rw [← HN2.out, ← HN1.out, ← HN0.out]
  go_wp2_with (first | refine wpList_load_row rfl _ _ rfl n0 rfl _ _ (0, 0) _ k0 rfl rfl (info16s _) ?_ | refine wpList_load_row rfl _ _ rfl n1 rfl _ _ (0, 0) _ k1 rfl rfl (info8s _) ?_ | refine wpList_load_row rfl _ _ rfl n2 rfl _ _ (0, 0) _ k2 rfl rfl (info8s _) ?_)
  refine (seal_any key a 1 _ s w1 hk ha (by omega) RV.out (by omega) (HK.out.below B1)).mono ?_
  rintro e w2 ⟨v2, rfl, o2, hb2⟩
  rw [HX.out] at o2
  have k0 := k0.below hb2 k0.lt
  have k1 := k1.below hb2 k1.lt
  have k2 := k2.below hb2 k2.lt
  have B2 := B1.trans (hb2.mono B1.size)
  have RV := Lib.hid (RV.out.below hb2)
  have PX := Lib.hid o2.bs.rs
  clear o2 hb2 B1
  obtain ⟨pa, pc, hv2⟩ := PX.out.form
  subst hv2
  rw [HXL.out] at PX ⊢
  go_wp2_with (first | refine wpList_load_row rfl _ _ rfl n0 rfl _ _ (0, 0) _ k0 rfl rfl (info16s _) ?_ | refine wpList_load_row rfl _ _ rfl n1 rfl _ _ (0, 0) _ k1 rfl rfl (info8s _) ?_ | refine wpList_load_row rfl _ _ rfl n2 rfl _ _ (0, 0) _ k2 rfl rfl (info8s _) ?_)
  refine (seal_any key b 1 _ s w2 hk hb (by omega) RV.out (by omega) (HK.out.below B2)).mono ?_
  rintro e w3 ⟨v3, rfl, o3, hb3⟩
  rw [HY.out] at o3
  have k0 := k0.below hb3 k0.lt
  have k1 := k1.below hb3 k1.lt
  have k2 := k2.below hb3 k2.lt
  have B3 := B2.trans (hb3.mono B2.size)
  have RV := Lib.hid (RV.out.below hb3)
  have PX := Lib.hid (PX.out.below hb3)
  have PY := Lib.hid o3.bs.rs
  clear o3 hb3 B2
  obtain ⟨qa, qc, hv3⟩ := PY.out.form
  subst hv3
  rw [HYL.out] at PY ⊢
  go_wp2_with (first | refine wpList_load_row rfl _ _ rfl n0 rfl _ _ (0, 0) _ k0 rfl rfl (info16s _) ?_ | refine wpList_load_row rfl _ _ rfl n1 rfl _ _ (0, 0) _ k1 rfl rfl (info8s _) ?_ | refine wpList_load_row rfl _ _ rfl n2 rfl _ _ (0, 0) _ k2 rfl rfl (info8s _) ?_)
  refine (open_any key 1 _ X w3 hk (by omega) PX.out (by rw [HXL.out]; omega) (HK.out.below B3)).mono ?_
  rintro e w4 ht
  rw [HXO.out] at ht
  obtain ⟨v4, rfl, o4, hb4⟩ := retPut_some ht
  have k0 := k0.below hb4 k0.lt
  have k1 := k1.below hb4 k1.lt
  have k2 := k2.below hb4 k2.lt
  have B4 := B3.trans (hb4.mono B3.size)
  have RV := Lib.hid (RV.out.below hb4)
  have PX := Lib.hid (PX.out.below hb4)
  have PY := Lib.hid (PY.out.below hb4)
  have PT := Lib.hid o4.bs.rs
  clear o4 hb4 B3 ht
  obtain ⟨ta, tc, hv4⟩ := PT.out.form
  subst hv4
  go_wp2_with (first | refine wpList_load_row rfl _ _ rfl n0 rfl _ _ (0, 0) _ k0 rfl rfl (info16s _) ?_ | refine wpList_load_row rfl _ _ rfl n1 rfl _ _ (0, 0) _ k1 rfl rfl (info8s _) ?_ | refine wpList_load_row rfl _ _ rfl n2 rfl _ _ (0, 0) _ k2 rfl rfl (info8s _) ?_)
  refine (open_any key 1 _ Y w4 hk (by omega) PY.out (by rw [HYL.out]; omega) (HK.out.below B4)).mono ?_
  rintro e w7 ht
  rw [HYO.out] at ht
  obtain ⟨v7, rfl, o7, hb7⟩ := retPut_some ht
  have k0 := k0.below hb7 k0.lt
  have k1 := k1.below hb7 k1.lt
  have k2 := k2.below hb7 k2.lt
  have B7 := B4.trans (hb7.mono B4.size)
  have RV := Lib.hid (RV.out.below hb7)
  have PX := Lib.hid (PX.out.below hb7)
  have PY := Lib.hid (PY.out.below hb7)
  have PT := Lib.hid (PT.out.below hb7)
  have PU := Lib.hid o7.bs.rs
  clear o7 hb7 B4 ht
  obtain ⟨ua, uc, hv7⟩ := PU.out.form
  subst hv7
  go_upto_region 7 with fail
  cases hq : sameArr 8 a b
  all_goals (
    have HQ := Lib.hid hq
    have HSB := Lib.hid (HXY.out.trans hq)
    clear hq)
  · refine wp_reg Tryd.f7 7 24 (fun w' => Below w7.heap.size w7 w') (by kernel_rfl) (by kernel_rfl) (by kernel_rfl) (below_drewN (Below.refl _ _) 1) (fun K hK h0 => ?_)
    refine reg_cast (listed' := #[false, false, false, false, false, false, false, false, false, false, false, false, false, false, false, false, false, false, false, false, false, false, false, false]) (by kernel_rfl) rfl ?_
    have HF := Lib.hid hK; clear hK
    refine reg_take 0 43 (.slice pa (s.length + 24) pc) (by kernel_rfl) (fun _ _ => by kernel_rfl) h0 ?_
    simp only [Act.put, List.setIfInBounds_toArray, List.set_cons_zero, List.set_cons_succ]
    refine reg_take 1 44 (.slice qa (s.length + 24) qc) (by kernel_rfl) (fun _ _ => by kernel_rfl) h0 ?_
    simp only [Act.put, List.setIfInBounds_toArray, List.set_cons_zero, List.set_cons_succ]
    refine reg_load 3 46 (by kernel_rfl) _ (.tmp 5) (by kernel_rfl) ⟨n1, 0, none⟩ (by kernel_rfl) (arr .u8 8 a) _ (fun w' hw' => (k1.below hw' k1.lt).cells) rfl rfl (info8s _) h0 ?_
    simp only [Act.put, List.setIfInBounds_toArray, List.set_cons_zero, List.set_cons_succ]
    refine reg_load 4 47 (by kernel_rfl) _ (.tmp 6) (by kernel_rfl) ⟨n2, 0, none⟩ (by kernel_rfl) (arr .u8 8 b) _ (fun w' hw' => (k2.below hw' k2.lt).cells) rfl rfl (info8s _) h0 ?_
    simp only [Act.put, List.setIfInBounds_toArray, List.set_cons_zero, List.set_cons_succ]
    refine reg_take 5 48 (.bool false) (by kernel_rfl) (fun w' _ => (exec_eql_arr (P := Tryd.prog) (k := .u8) (n := 8) a b (ty := 23) (x := .tmp 46) (y := .tmp 47) (by kernel_rfl) (by kernel_rfl) (by kernel_rfl) Tryd.underlying23 Tryd.underlying5 (by kernel_rfl) (by kernel_rfl)).trans (by rw [HQ.out])) h0 ?_
    simp only [Act.put, List.setIfInBounds_toArray, List.set_cons_zero, List.set_cons_succ]
    refine reg_call 2 45 10 #[.slice pa (s.length + 24) pc, .slice qa (s.length + 24) qc] (by kernel_rfl) (by kernel_rfl) ?_
    refine (same_any _ _ X Y _ (PX.out.below h0) (PY.out.below h0)).mono ?_
    rintro e w8 ⟨rfl, hb8⟩
    have h8 := h0.trans (hb8.mono h0.size)
    rw [HSB.out]
    refine ⟨_, rfl, h8, ?_⟩
    simp only [Act.put, List.setIfInBounds_toArray, List.set_cons_zero, List.set_cons_succ]
    refine reg_take 6 49 (.bool true) (by kernel_rfl) (fun _ _ => by kernel_rfl) h8 ?_
    simp only [Act.put, List.setIfInBounds_toArray, List.set_cons_zero, List.set_cons_succ]
    refine reg_take 7 50 (.bool true) (by kernel_rfl) (fun _ _ => by kernel_rfl) h8 ?_
    simp only [Act.put, List.setIfInBounds_toArray, List.set_cons_zero, List.set_cons_succ]
    refine reg_take 8 51 (.bool true) (by kernel_rfl) (fun _ _ => by kernel_rfl) h8 ?_
    simp only [Act.put, List.setIfInBounds_toArray, List.set_cons_zero, List.set_cons_succ]
    refine reg_take 9 52 (.bool true) (by kernel_rfl) (fun _ _ => by kernel_rfl) h8 ?_
    simp only [Act.put, List.setIfInBounds_toArray, List.set_cons_zero, List.set_cons_succ]
    refine reg_take 10 53 (.bool true) (by kernel_rfl) (fun _ _ => by kernel_rfl) h8 ?_
    simp only [Act.put, List.setIfInBounds_toArray, List.set_cons_zero, List.set_cons_succ]
    refine reg_take 11 54 (.bool true) (by kernel_rfl) (fun _ _ => by kernel_rfl) h8 ?_
    simp only [Act.put, List.setIfInBounds_toArray, List.set_cons_zero, List.set_cons_succ]
    refine reg_take 12 55 (.bool true) (by kernel_rfl) (fun _ _ => by kernel_rfl) h8 ?_
    simp only [Act.put, List.setIfInBounds_toArray, List.set_cons_zero, List.set_cons_succ]
    refine reg_take 13 56 (.bool true) (by kernel_rfl) (fun _ _ => by kernel_rfl) h8 ?_
    simp only [Act.put, List.setIfInBounds_toArray, List.set_cons_zero, List.set_cons_succ]
    refine reg_take 14 57 (.slice ta s.length tc) (by kernel_rfl) (fun _ _ => by kernel_rfl) h8 ?_
    simp only [Act.put, List.setIfInBounds_toArray, List.set_cons_zero, List.set_cons_succ]
    refine reg_take 15 58 (.slice xa s.length xc) (by kernel_rfl) (fun _ _ => by kernel_rfl) h8 ?_
    simp only [Act.put, List.setIfInBounds_toArray, List.set_cons_zero, List.set_cons_succ]
    refine reg_call 16 59 10 #[.slice ta s.length tc, .slice xa s.length xc] (by kernel_rfl) (by kernel_rfl) ?_
    refine (same_yes _ _ s _ (PT.out.below h8) (RV.out.below h8)).mono ?_
    rintro e w9 ⟨rfl, hb9⟩
    have h9 := h8.trans (hb9.mono h8.size)
    refine ⟨_, rfl, h9, ?_⟩
    simp only [Act.put, List.setIfInBounds_toArray, List.set_cons_zero, List.set_cons_succ]
    refine reg_take 17 60 (.bool true) (by kernel_rfl) (fun _ _ => by kernel_rfl) h9 ?_
    simp only [Act.put, List.setIfInBounds_toArray, List.set_cons_zero, List.set_cons_succ]
    refine reg_take 18 61 (.bool true) (by kernel_rfl) (fun _ _ => by kernel_rfl) h9 ?_
    simp only [Act.put, List.setIfInBounds_toArray, List.set_cons_zero, List.set_cons_succ]
    refine reg_take 19 62 (.slice ua s.length uc) (by kernel_rfl) (fun _ _ => by kernel_rfl) h9 ?_
    simp only [Act.put, List.setIfInBounds_toArray, List.set_cons_zero, List.set_cons_succ]
    refine reg_take 20 63 (.slice xa s.length xc) (by kernel_rfl) (fun _ _ => by kernel_rfl) h9 ?_
    simp only [Act.put, List.setIfInBounds_toArray, List.set_cons_zero, List.set_cons_succ]
    refine reg_call 21 64 10 #[.slice ua s.length uc, .slice xa s.length xc] (by kernel_rfl) (by kernel_rfl) ?_
    refine (same_yes _ _ s _ (PU.out.below h9) (RV.out.below h9)).mono ?_
    rintro e w10 ⟨rfl, hb10⟩
    have h10 := h9.trans (hb10.mono h9.size)
    refine ⟨_, rfl, h10, ?_⟩
    simp only [Act.put, List.setIfInBounds_toArray, List.set_cons_zero, List.set_cons_succ]
    refine reg_take 22 65 (.bool true) (by kernel_rfl) (fun _ _ => by kernel_rfl) h10 ?_
    simp only [Act.put, List.setIfInBounds_toArray, List.set_cons_zero, List.set_cons_succ]
    refine reg_take 23 8 (.bool true) (by kernel_rfl) (fun _ _ => by kernel_rfl) h10 ?_
    simp only [Act.put, List.setIfInBounds_toArray, List.set_cons_zero, List.set_cons_succ]
    refine reg_done (by kernel_rfl) (HF.out _ _ ?_)
    have BF := B7.trans (h10.mono B7.size)
    clear HF h0 h8 h9 h10 hb8 hb9 hb10
    go_wp2_with fail
    go_ret
    exact ⟨rfl, BF⟩
  · refine wp_reg Tryd.f7 7 24 (fun w' => Below w7.heap.size w7 w') (by kernel_rfl) (by kernel_rfl) (by kernel_rfl) (below_drewN (Below.refl _ _) 1) (fun K hK h0 => ?_)
    refine reg_cast (listed' := #[false, false, false, false, false, false, false, false, false, false, false, false, false, false, false, false, false, false, false, false, false, false, false, false]) (by kernel_rfl) rfl ?_
    have HF := Lib.hid hK; clear hK
    refine reg_take 0 43 (.slice pa (s.length + 24) pc) (by kernel_rfl) (fun _ _ => by kernel_rfl) h0 ?_
    simp only [Act.put, List.setIfInBounds_toArray, List.set_cons_zero, List.set_cons_succ]
    refine reg_take 1 44 (.slice qa (s.length + 24) qc) (by kernel_rfl) (fun _ _ => by kernel_rfl) h0 ?_
    simp only [Act.put, List.setIfInBounds_toArray, List.set_cons_zero, List.set_cons_succ]
    refine reg_load 3 46 (by kernel_rfl) _ (.tmp 5) (by kernel_rfl) ⟨n1, 0, none⟩ (by kernel_rfl) (arr .u8 8 a) _ (fun w' hw' => (k1.below hw' k1.lt).cells) rfl rfl (info8s _) h0 ?_
    simp only [Act.put, List.setIfInBounds_toArray, List.set_cons_zero, List.set_cons_succ]
    refine reg_load 4 47 (by kernel_rfl) _ (.tmp 6) (by kernel_rfl) ⟨n2, 0, none⟩ (by kernel_rfl) (arr .u8 8 b) _ (fun w' hw' => (k2.below hw' k2.lt).cells) rfl rfl (info8s _) h0 ?_
    simp only [Act.put, List.setIfInBounds_toArray, List.set_cons_zero, List.set_cons_succ]
    refine reg_take 5 48 (.bool true) (by kernel_rfl) (fun w' _ => (exec_eql_arr (P := Tryd.prog) (k := .u8) (n := 8) a b (ty := 23) (x := .tmp 46) (y := .tmp 47) (by kernel_rfl) (by kernel_rfl) (by kernel_rfl) Tryd.underlying23 Tryd.underlying5 (by kernel_rfl) (by kernel_rfl)).trans (by rw [HQ.out])) h0 ?_
    simp only [Act.put, List.setIfInBounds_toArray, List.set_cons_zero, List.set_cons_succ]
    refine reg_call 2 45 10 #[.slice pa (s.length + 24) pc, .slice qa (s.length + 24) qc] (by kernel_rfl) (by kernel_rfl) ?_
    refine (same_any _ _ X Y _ (PX.out.below h0) (PY.out.below h0)).mono ?_
    rintro e w8 ⟨rfl, hb8⟩
    have h8 := h0.trans (hb8.mono h0.size)
    rw [HSB.out]
    refine ⟨_, rfl, h8, ?_⟩
    simp only [Act.put, List.setIfInBounds_toArray, List.set_cons_zero, List.set_cons_succ]
    refine reg_take 6 49 (.bool true) (by kernel_rfl) (fun _ _ => by kernel_rfl) h8 ?_
    simp only [Act.put, List.setIfInBounds_toArray, List.set_cons_zero, List.set_cons_succ]
    refine reg_take 7 50 (.bool true) (by kernel_rfl) (fun _ _ => by kernel_rfl) h8 ?_
    simp only [Act.put, List.setIfInBounds_toArray, List.set_cons_zero, List.set_cons_succ]
    refine reg_take 8 51 (.bool true) (by kernel_rfl) (fun _ _ => by kernel_rfl) h8 ?_
    simp only [Act.put, List.setIfInBounds_toArray, List.set_cons_zero, List.set_cons_succ]
    refine reg_take 9 52 (.bool true) (by kernel_rfl) (fun _ _ => by kernel_rfl) h8 ?_
    simp only [Act.put, List.setIfInBounds_toArray, List.set_cons_zero, List.set_cons_succ]
    refine reg_take 10 53 (.bool true) (by kernel_rfl) (fun _ _ => by kernel_rfl) h8 ?_
    simp only [Act.put, List.setIfInBounds_toArray, List.set_cons_zero, List.set_cons_succ]
    refine reg_take 11 54 (.bool true) (by kernel_rfl) (fun _ _ => by kernel_rfl) h8 ?_
    simp only [Act.put, List.setIfInBounds_toArray, List.set_cons_zero, List.set_cons_succ]
    refine reg_take 12 55 (.bool true) (by kernel_rfl) (fun _ _ => by kernel_rfl) h8 ?_
    simp only [Act.put, List.setIfInBounds_toArray, List.set_cons_zero, List.set_cons_succ]
    refine reg_take 13 56 (.bool true) (by kernel_rfl) (fun _ _ => by kernel_rfl) h8 ?_
    simp only [Act.put, List.setIfInBounds_toArray, List.set_cons_zero, List.set_cons_succ]
    refine reg_take 14 57 (.slice ta s.length tc) (by kernel_rfl) (fun _ _ => by kernel_rfl) h8 ?_
    simp only [Act.put, List.setIfInBounds_toArray, List.set_cons_zero, List.set_cons_succ]
    refine reg_take 15 58 (.slice xa s.length xc) (by kernel_rfl) (fun _ _ => by kernel_rfl) h8 ?_
    simp only [Act.put, List.setIfInBounds_toArray, List.set_cons_zero, List.set_cons_succ]
    refine reg_call 16 59 10 #[.slice ta s.length tc, .slice xa s.length xc] (by kernel_rfl) (by kernel_rfl) ?_
    refine (same_yes _ _ s _ (PT.out.below h8) (RV.out.below h8)).mono ?_
    rintro e w9 ⟨rfl, hb9⟩
    have h9 := h8.trans (hb9.mono h8.size)
    refine ⟨_, rfl, h9, ?_⟩
    simp only [Act.put, List.setIfInBounds_toArray, List.set_cons_zero, List.set_cons_succ]
    refine reg_take 17 60 (.bool true) (by kernel_rfl) (fun _ _ => by kernel_rfl) h9 ?_
    simp only [Act.put, List.setIfInBounds_toArray, List.set_cons_zero, List.set_cons_succ]
    refine reg_take 18 61 (.bool true) (by kernel_rfl) (fun _ _ => by kernel_rfl) h9 ?_
    simp only [Act.put, List.setIfInBounds_toArray, List.set_cons_zero, List.set_cons_succ]
    refine reg_take 19 62 (.slice ua s.length uc) (by kernel_rfl) (fun _ _ => by kernel_rfl) h9 ?_
    simp only [Act.put, List.setIfInBounds_toArray, List.set_cons_zero, List.set_cons_succ]
    refine reg_take 20 63 (.slice xa s.length xc) (by kernel_rfl) (fun _ _ => by kernel_rfl) h9 ?_
    simp only [Act.put, List.setIfInBounds_toArray, List.set_cons_zero, List.set_cons_succ]
    refine reg_call 21 64 10 #[.slice ua s.length uc, .slice xa s.length xc] (by kernel_rfl) (by kernel_rfl) ?_
    refine (same_yes _ _ s _ (PU.out.below h9) (RV.out.below h9)).mono ?_
    rintro e w10 ⟨rfl, hb10⟩
    have h10 := h9.trans (hb10.mono h9.size)
    refine ⟨_, rfl, h10, ?_⟩
    simp only [Act.put, List.setIfInBounds_toArray, List.set_cons_zero, List.set_cons_succ]
    refine reg_take 22 65 (.bool true) (by kernel_rfl) (fun _ _ => by kernel_rfl) h10 ?_
    simp only [Act.put, List.setIfInBounds_toArray, List.set_cons_zero, List.set_cons_succ]
    refine reg_take 23 8 (.bool true) (by kernel_rfl) (fun _ _ => by kernel_rfl) h10 ?_
    simp only [Act.put, List.setIfInBounds_toArray, List.set_cons_zero, List.set_cons_succ]
    refine reg_done (by kernel_rfl) (HF.out _ _ ?_)
    have BF := B7.trans (h10.mono B7.size)
    clear HF h0 h8 h9 h10 hb8 hb9 hb10
    go_wp2_with fail
    go_ret
    exact ⟨rfl, BF⟩

theorem sealNonces_walk (w : World) (f : Nat → Int) (wf : ∀ j, j < 16 → (Lit.int .u8 (f j)).wf = true) (g : Nat → Int) (wg : ∀ j, j < 8 → (Lit.int .u8 (g j)).wf = true) (h : Nat → Int) (wh : ∀ j, j < 8 → (Lit.int .u8 (h j)).wf = true) (v : Value) (s : List Nat) (hv : Rs w v s) (hK : Consts w Sha.tab) :
    Calls Tryd.prog 7 #[.agg ((List.range 16).map fun i => Value.int .u8 (f i)).toArray, .agg ((List.range 8).map fun i => Value.int .u8 (g i)).toArray, .agg ((List.range 8).map fun i => Value.int .u8 (h i)).toArray, v] w (RetBool true w) := by
  obtain ⟨key, hk, e1⟩ := bytes_arg f wf
  obtain ⟨a, ha, e2⟩ := bytes_arg g wg
  obtain ⟨b, hb, e3⟩ := bytes_arg h wh
  rw [e1, e2, e3]
  by_cases hl : 500 < s.length
  · exact sealNonces_out key a b v s w hv hl hK
  · exact sealNonces_core key a b hk ha hb v s w hv (by omega) hK

/-! ### THE ROW's STEP -/
namespace sealNoncesF
theorem own : ownKnob Tryd.prog.godebug = none := by kernel_rfl
theorem laidOut : laidOutB Tryd.prog = true := by kernel_rfl
theorem gT : Tryd.prog.globalNamed "toll/sha.constants" = some 0 := by kernel_rfl
theorem gTType : (Tryd.prog.globals[0]?).map (·.type) = some 70 := by kernel_rfl
theorem door_met (os : Os) (args : Array Value) : laidMetH Tryd.prog Rows.sealNoncesRow.laid ((World.doorLaid Tryd.prog 400 os).forCall (fun _ _ => 0) ⟨#[], args, []⟩).memory :=
  laidMetH_of_parts3 (fuel := 8) (laidMet_of_run' 8 (by kernel_rfl) (by kernel_rfl)) (by kernel_rfl) (by kernel_rfl)
theorem of_laid {W : World} (h : laidMetH Tryd.prog Rows.sealNoncesRow.laid W) : Consts W Sha.tab := fun i hi => by
  rw [MakeChecks.laidMetH_plain _ _ _ (by kernel_rfl)] at h
  have hT := Lib.tabIs_of_head (k := .u32) (zs := Sha.tableL.map fun n : Nat => (n : Int)) gT gTType Tryd.underlying70 Tryd.underlying60 (by kernel_rfl) (by kernel_rfl) h
  have hl : i < Sha.tableL.length := hi
  rw [hT.cell gT i (by simpa using hl)]
  simp [Sha.tab, List.getD, hl]
set_option maxRecDepth 100000 in
theorem lifted (os : Os) (started : os.Started) (H : Type) (enc : TypeId × Value → H) :
    ReturnsInHanded {} Tryd.checked os 7 .any (fun w args => (Rows.sealNoncesSpec.pre enc Tryd.prog Tryd.f7 [] false w args ∧ laidMetH Tryd.prog Rows.sealNoncesRow.laid w) ∧ sizedMet enc Tryd.prog Tryd.f7 (OpenSpec.ofChange Rows.sealNoncesSpec) false w args)
      (Rows.sealNoncesSpec.post enc Tryd.prog Tryd.f7 false true false false) := by
  refine returnsInHanded_of_change_and (C := Tryd.checked) (X := fun w _ => laidMetH Tryd.prog Rows.sealNoncesRow.laid w) (fun _ _ _ hh h => h.of_heap hh) own started (by kernel_rfl) Tryd.func7
    (ChangeSpec.witness_shaped (enc := enc) (C := Tryd.checked) (os := os) (X := fun w _ => laidMetH Tryd.prog Rows.sealNoncesRow.laid w) false (World.doorLaid Tryd.prog 400 os) #[.agg #[.int .u8 0, .int .u8 0, .int .u8 0, .int .u8 0, .int .u8 0, .int .u8 0, .int .u8 0, .int .u8 0, .int .u8 0, .int .u8 0, .int .u8 0, .int .u8 0, .int .u8 0, .int .u8 0, .int .u8 0, .int .u8 0], .agg #[.int .u8 0, .int .u8 0, .int .u8 0, .int .u8 0, .int .u8 0, .int .u8 0, .int .u8 0, .int .u8 0], .agg #[.int .u8 0, .int .u8 0, .int .u8 0, .int .u8 0, .int .u8 0, .int .u8 0, .int .u8 0, .int .u8 0], .slice none 0 0] 8 rfl (World.shaped_of_RefB (by kernel_rfl) (by kernel_rfl)) (by kernel_rfl) (by kernel_rfl) (by kernel_rfl) (door_met os _)) ?_
  intro W base args ds gs before hval0 hW _ _ hL _
  have hK := of_laid hL
  have hval : ∀ (j : Nat) t v, Tryd.f7.params[j]? = some t → args[j]? = some v → Value.okWide Tryd.prog W .any base t v := hval0
  have hW' := hW
  obtain ⟨p, q, hA0, hV, rfl, _, _⟩ := hW
  have hA : DataW.TrodAll enc Tryd.prog W 0 (fun _ => true) true Tryd.f7.params.toList args.toList ds p := hA0
  rw [Tryd.params7] at hA hval
  obtain ⟨v0, vs0, d0, ds0, p0, q0, hargs, rfl, rfl, h0, r0⟩ := trodAll_cons hA
  obtain ⟨v1, vs1, d1, ds1, p1, q1, rfl, rfl, rfl, h1, r1⟩ := trodAll_cons r0
  obtain ⟨v2, vs2, d2, ds2, p2, q2, rfl, rfl, rfl, h2, r2⟩ := trodAll_cons r1
  obtain ⟨v3, vs3, d3, ds3, p3, q3, rfl, rfl, rfl, h3, r3⟩ := trodAll_cons r2
  obtain ⟨rfl, rfl, rfl⟩ := trodAll_nil r3
  obtain rfl : args = #[v0, v1, v2, v3] := by cases args; simp_all
  obtain ⟨rfl, rfl⟩ := trodVars_none hV
  have k0 := h0
  have lt0 : ∀ x ∈ p0, x.block < W.heap.size := by obtain ⟨m, hm⟩ := k0; exact DataW.trod_lt m _ _ _ hm
  obtain ⟨a0, rfl, w0⟩ := open_int_array Tryd.underlying22 Tryd.underlying5 (by kernel_rfl) (by kernel_rfl) (hval 0 22 v0 rfl rfl) h0
  have k1 := h1
  have lt1 : ∀ x ∈ p1, x.block < W.heap.size := by obtain ⟨m, hm⟩ := k1; exact DataW.trod_lt m _ _ _ hm
  obtain ⟨a1, rfl, w1⟩ := open_int_array Tryd.underlying23 Tryd.underlying5 (by kernel_rfl) (by kernel_rfl) (hval 1 23 v1 rfl rfl) h1
  have k2 := h2
  have lt2 : ∀ x ∈ p2, x.block < W.heap.size := by obtain ⟨m, hm⟩ := k2; exact DataW.trod_lt m _ _ _ hm
  obtain ⟨a2, rfl, w2⟩ := open_int_array Tryd.underlying23 Tryd.underlying5 (by kernel_rfl) (by kernel_rfl) (hval 2 23 v2 rfl rfl) h2
  have k3 := h3
  have lt3 : ∀ x ∈ p3, x.block < W.heap.size := by obtain ⟨m, hm⟩ := k3; exact DataW.trod_lt m _ _ _ hm
  obtain ⟨a3, len3, cap3, rfl⟩ := okWide_slice Tryd.underlying24 (hval 3 24 v3 rfl rfl)
  obtain ⟨z3, w3⟩ := open_bytes Tryd.underlying24 Tryd.underlying5 (by kernel_rfl) h3
  refine (sealNonces_walk W a0 w0 a1 w1 a2 w2 _ z3 w3 hK).mono fun e W' ⟨he, bel⟩ => ?_
  subst he
  exact ⟨_, rfl, _, _, _, [], _, [], hW', trodAll_mk1 (shut_bool Tryd.underlying4 _), (trodAll_cons_mk (Below.trod laidOut (by kernel_rfl) (of_decide_eq_true (by kernel_rfl)) k0 bel lt0) (trodAll_cons_mk (Below.trod laidOut (by kernel_rfl) (of_decide_eq_true (by kernel_rfl)) k1 bel lt1) (trodAll_cons_mk (Below.trod laidOut (by kernel_rfl) (of_decide_eq_true (by kernel_rfl)) k2 bel lt2) (trodAll_cons_mk (Below.trod laidOut (by kernel_rfl) (of_decide_eq_true (by kernel_rfl)) k3 bel lt3) trodAll_mk0)))), rfl, bel.frame _, fun h => by cases h⟩
theorem over : Rows.sealNoncesRow.holds Tryd.pinned (OpenSpec.ofChange Rows.sealNoncesSpec) :=
  OpenClaim.holds_of_wide 7 Tryd.f7 rfl rfl rfl rfl rfl rfl rfl ⟨rfl, rfl, rfl, rfl, rfl⟩ rfl rfl rfl rfl rfl (by kernel_rfl) Tryd.func7 (by kernel_rfl)
    (of_decide_eq_true (by kernel_rfl)) (by unfold Func.isWrapper; first | (rw [if_pos (by decide +kernel)]; kernel_rfl) | (rw [if_neg (by decide +kernel)]; exact ⟨rfl, rfl⟩))
    (fun os started H enc _ => lifted os started H enc)
end sealNoncesF
/-- The row. -/
theorem sealNonces_row : Rows.SealNoncesSaid := sealNoncesF.over
/-- The statement: the card. -/
theorem sealNonces_holds : Rows.SealNoncesCardSaid :=
  Claim7.holds_tied_plain_at .later [] [.data] true Rows.sealNoncesCard.stood.harness false
    sealNonces_row (fun _ h => by cases h) (by kernel_rfl) (fun _ h => by cases h) sealNonces_row_tie rfl ⟨rfl, rfl⟩ (by kernel_rfl) rfl
    (fun f fn hf hfn => by
      obtain rfl : f = 7 := Option.some.inj ((show Tryd.prog.funcNamed "toll/tolllaw09.SealNonces" = some 7 by kernel_rfl).symm.trans hf) |>.symm
      obtain rfl : fn = Tryd.f7 := (Option.some.inj (Tryd.func7.symm.trans hfn)).symm
      exact ⟨by kernel_rfl, fun j t ht => by
        rw [Tryd.params7] at ht
        have hm : t ∈ [22, 23, 23, 24] := by simpa using Array.mem_of_getElem? ht
        have hall : ([22, 23, 23, 24].all fun u => !Tryd.prog.wantsStandIn u) = true := by kernel_rfl
        exact (show Tryd.prog.wantsStandIn t = false by simpa using List.all_eq_true.1 hall t hm)⟩)
    (by kernel_rfl)
#print axioms sealNonces_holds
end Go.Proofs.YtpbcpdocnjnfiaaDoor
