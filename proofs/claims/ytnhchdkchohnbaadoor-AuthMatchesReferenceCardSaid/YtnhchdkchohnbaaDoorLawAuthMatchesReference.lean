/- Any authenticator is valid as in the reference implementation, and then has its bytes, which lead back to it: for every authenticator the law returns true. The variable sha.constants reads as the program's text lays it. -/
import Derived.Test.YtnhchdkchohnbaaDoorAutG
namespace Go.Proofs.YtnhchdkchohnbaaDoor
open Go.ChangeShapes Go.WideShapes Go.ChangeAt Go.RowKit Go.Deep

theorem aut0_valid : Aut.valid aut0 = false := by decide
theorem parse_nil : Aut.parse [] = none := Aut.parse_not2 (by decide)
set_option maxRecDepth 100000 in
set_option maxHeartbeats 8000000 in
theorem authMatchesReference_out (w : World) (q : ByteArray) (hq : q.size ≤ maxLen) (u : Value) (ss : List ByteArray) (hu : Ss w u ss) (t : Int) (m s : Nat) (hm : m < 4294967296) (hs : s < 4294967296) (hf : few q ss = false) (hK : Consts w Sha.tab) :
    Calls Tryd.prog 7 #[.agg (au q u t m s)] w (RetBool true w) := by
  have HK := Lib.hid hK; clear hK
  have hsz := au_size q u t m s
  have T0 := Ab.new (W := w) (t := t) hu hq hm hs
  have G0 := only_alloc (only_refl w none) (.cells (au q u t m s) 51)
  obtain ⟨ua, uc, rfl⟩ := hu.form
  clear hu
  go_enter Tryd.func7, Tryd.ntmps7
  go_upto_region 1 with fail
  generalize w.alloc (.cells (au q (.slice ua ss.length uc) t m s) 51) = W0 at *
  generalize hb1 : w.heap.size = b1 at T0 ⊢
  clear hb1
  go_wp2_with fail
  refine (awake_aut _ (HK.out.below (below_of_only G0))).mono ?_
  rintro x w1 ⟨rfl, h1⟩
  have T1 := T0.only (only_of_below h1 none)
  have G1 := only_trans G0 (only_of_below h1 none)
  clear T0 G0 h1
  go_wp2_with (refine wpList_load_rowG (by kernel_rfl) _ _ rfl b1 rfl _ _ (0, 0) _ T1.1 rfl rfl (info_au _ _ _ _ _) ?_)
  refine (refaufew_any q _ ss t m s w1 hq T1.2.1).mono ?_
  rintro x w2 ⟨rfl, g2⟩
  rw [hf]
  have G2 := only_trans G1 g2
  go_wp2_with fail
  refine (awake_aut _ (HK.out.below (below_of_only G2))).mono ?_
  rintro x w3 ⟨rfl, h3⟩
  have G3 := only_trans G2 (only_of_below h3 none)
  go_wp2_with fail
  go_ret
  exact ⟨rfl, below_of_only G3⟩
set_option maxRecDepth 100000 in
set_option maxHeartbeats 8000000 in
attribute [local irreducible] wpAnyH in
theorem authMatchesReference_false (w : World) (q : ByteArray) (hq : q.size ≤ maxLen) (u : Value) (ss : List ByteArray) (hu : Ss w u ss) (t : Int) (m s : Nat) (hm : m < 4294967296) (hs : s < 4294967296) (hf : few q ss = true) (hv : Aut.valid (aut q ss t m s) = false) (hK : Consts w Sha.tab) :
    Calls Tryd.prog 7 #[.agg (au q u t m s)] w (RetBool true w) := by
  have HK := Lib.hid hK; clear hK
  have HVV := Lib.hid hv; clear hv
  have hsz := au_size q u t m s
  have T0 := Ab.new (W := w) (t := t) hu hq hm hs
  have G0 := only_alloc (only_refl w none) (.cells (au q u t m s) 51)
  obtain ⟨ua, uc, rfl⟩ := hu.form
  clear hu
  go_enter Tryd.func7, Tryd.ntmps7
  go_upto_region 1 with fail
  generalize w.alloc (.cells (au q (.slice ua ss.length uc) t m s) 51) = W0 at *
  generalize hb1 : w.heap.size = b1 at T0 ⊢
  clear hb1
  go_wp2_with fail
  refine (awake_aut _ (HK.out.below (below_of_only G0))).mono ?_
  rintro x w1 ⟨rfl, h1⟩
  have T1 := T0.only (only_of_below h1 none)
  have G1 := only_trans G0 (only_of_below h1 none)
  clear T0 G0 h1
  go_wp2_with (refine wpList_load_rowG (by kernel_rfl) _ _ rfl b1 rfl _ _ (0, 0) _ T1.1 rfl rfl (info_au _ _ _ _ _) ?_)
  refine (refaufew_any q _ ss t m s w1 hq T1.2.1).mono ?_
  rintro x w2 ⟨rfl, g2⟩
  rw [hf]
  have T2 := T1.only g2
  have G2 := only_trans G1 g2
  clear T1 G1 g2
  go_wp2_with (refine wpList_load_row rfl _ _ rfl b1 rfl _ _ (0, 0) _ T2.1 rfl rfl (info_au _ _ _ _ _) ?_)
  refine (aubytes_any q _ ss t m s w2 hq hm hs T2.2.1).mono ?_
  rintro x w3 ⟨hb3, ht⟩
  have T3 := T2.only (only_of_below hb3 none)
  have G3 := only_trans G2 (only_of_below hb3 none)
  clear T2 G2
  rw [HVV.out] at ht
  rcases ht with ⟨_, rfl⟩ | ⟨_, _, hno, _⟩
  rotate_left
  · cases hno
  clear hb3
  obtain ⟨f, hf2⟩ : ∃ f : Nat → Nat, f = fun _ => 0 := ⟨_, rfl⟩
  have HDI := Lib.hid (show Aut.digI (aut q ss t m s) = f by unfold Aut.digI; rw [HVV.out, hf2]; rfl)
  have HF2 := Lib.hid hf2
  clear hf2
  go_wp2_with (refine wpList_load_row rfl _ _ rfl b1 rfl _ _ (0, 0) _ T3.1 rfl rfl (info_au _ _ _ _ _) ?_)
  refine (audigest_any q _ ss t m s w3 hq hm hs T3.2.1 (HK.out.below (below_of_only G3))).mono ?_
  rintro x w4 ⟨rfl, hb4⟩
  rw [HVV.out, HDI.out]
  have F := fresh_row w4 #[.int .u8 0, .int .u8 0, .int .u8 0, .int .u8 0, .int .u8 0, .int .u8 0, .int .u8 0, .int .u8 0, .int .u8 0, .int .u8 0, .int .u8 0, .int .u8 0, .int .u8 0, .int .u8 0, .int .u8 0, .int .u8 0, .int .u8 0, .int .u8 0, .int .u8 0, .int .u8 0, .int .u8 0, .int .u8 0, .int .u8 0, .int .u8 0, .int .u8 0, .int .u8 0, .int .u8 0, .int .u8 0, .int .u8 0, .int .u8 0, .int .u8 0, .int .u8 0] (arr .u8 32 f) 55
  have F4 := only_trans (only_of_below hb4 none) F.2
  have T4 := T3.only F4
  have D4 : isArr _ w4.heap.size 55 .u8 32 f := F.1
  have G4 := only_trans G3 F4
  have hs32 := arr_size .u8 32 f
  clear T3 G3
  go_upto_region 5 with (refine wpList_store_rowTo rfl _ _ _ rfl rfl w4.heap.size _ rfl rfl _ _ (heap_alloc_new _ _) (info32d _) (by rw [arr_size]; rfl) (arr_one _ _ _) ?_)
  generalize World.setRow _ w4.heap.size _ = W4 at *
  generalize w4.heap.size = b4 at *
  clear F hb4
  refine wp_reg Tryd.f7 5 16 (fun w' => Below W4.heap.size W4 w') (by kernel_rfl) (by kernel_rfl) (by kernel_rfl) (below_drewN (Below.refl _ _) 1) (fun K hK h0 => ?_)
  refine reg_cast (listed' := #[false, false, false, false, false, false, false, false, false, false, false, false, false, false, false, false]) (by kernel_rfl) rfl ?_
  have HF := Lib.hid hK; clear hK
  refine reg_load 0 27 (by kernel_rfl) 51 (.tmp 1) (by kernel_rfl) ⟨b1, 0, none⟩ (by kernel_rfl) (au q (.slice ua ss.length uc) t m s) _ (fun w' hw' => (T4.below hw').cells) Tryd.underlying51 rfl (by kernel_rfl) h0 ?_
  simp only [Act.put, List.setIfInBounds_toArray, List.set_cons_zero, List.set_cons_succ]
  refine reg_load 2 29 (by kernel_rfl) 51 (.tmp 1) (by kernel_rfl) ⟨b1, 0, none⟩ (by kernel_rfl) (au q (.slice ua ss.length uc) t m s) _ (fun w' hw' => (T4.below hw').cells) Tryd.underlying51 rfl (by kernel_rfl) h0 ?_
  simp only [Act.put, List.setIfInBounds_toArray, List.set_cons_zero, List.set_cons_succ]
  refine reg_one 1 (by kernel_rfl) (by kernel_rfl) (HStep.call (some 28) (by kernel_rfl) (by kernel_rfl) 31 #[.agg (au q (.slice ua ss.length uc) t m s)] (by kernel_rfl) ?_)
  refine (auvalid_any q _ ss t m s _ hq (T4.below h0).2.1).mono ?_
  rintro e w1 ⟨rfl, hg⟩
  rw [HVV.out]
  have hb_1 := below_of_only hg
  have h_1 := h0.trans (hb_1.mono h0.size)
  refine ⟨_, rfl, h_1, ?_⟩
  simp only [Act.put, List.setIfInBounds_toArray, List.set_cons_zero, List.set_cons_succ]
  refine reg_one 3 (by kernel_rfl) (by kernel_rfl) (HStep.call (some 30) (by kernel_rfl) (by kernel_rfl) 32 #[.agg (au q (.slice ua ss.length uc) t m s)] (by kernel_rfl) ?_)
  refine (refauvalid_any q _ ss t m s _ hq (T4.below h_1).2.1).mono ?_
  rintro e w2 ⟨rfl, hg⟩
  rw [HVV.out]
  have hb_2 := below_of_only hg
  have h_2 := h_1.trans (hb_2.mono h_1.size)
  refine ⟨_, rfl, h_2, ?_⟩
  simp only [Act.put, List.setIfInBounds_toArray, List.set_cons_zero, List.set_cons_succ]
  refine reg_take 4 31 (.bool false) (by kernel_rfl) (fun _ _ => by kernel_rfl) h_2 ?_
  simp only [Act.put, List.setIfInBounds_toArray, List.set_cons_zero, List.set_cons_succ]
  refine reg_take 5 32 (.bool false) (by kernel_rfl) (fun _ _ => by kernel_rfl) h_2 ?_
  simp only [Act.put, List.setIfInBounds_toArray, List.set_cons_zero, List.set_cons_succ]
  refine reg_take 6 33 (.bool false) (by kernel_rfl) (fun _ _ => by kernel_rfl) h_2 ?_
  simp only [Act.put, List.setIfInBounds_toArray, List.set_cons_zero, List.set_cons_succ]
  refine reg_load 7 34 (by kernel_rfl) 51 (.tmp 1) (by kernel_rfl) ⟨b1, 0, none⟩ (by kernel_rfl) (au q (.slice ua ss.length uc) t m s) _ (fun w' hw' => (T4.below hw').cells) Tryd.underlying51 rfl (by kernel_rfl) h_2 ?_
  simp only [Act.put, List.setIfInBounds_toArray, List.set_cons_zero, List.set_cons_succ]
  refine reg_one 8 (by kernel_rfl) (by kernel_rfl) (HStep.call (some 35) (by kernel_rfl) (by kernel_rfl) 32 #[.agg (au q (.slice ua ss.length uc) t m s)] (by kernel_rfl) ?_)
  refine (refauvalid_any q _ ss t m s _ hq (T4.below h_2).2.1).mono ?_
  rintro e w3 ⟨rfl, hg⟩
  rw [HVV.out]
  have hb_3 := below_of_only hg
  have h_3 := h_2.trans (hb_3.mono h_2.size)
  refine ⟨_, rfl, h_3, ?_⟩
  simp only [Act.put, List.setIfInBounds_toArray, List.set_cons_zero, List.set_cons_succ]
  refine reg_take 9 36 (.bool false) (by kernel_rfl) (fun _ _ => by kernel_rfl) h_3 ?_
  simp only [Act.put, List.setIfInBounds_toArray, List.set_cons_zero, List.set_cons_succ]
  refine reg_take 10 37 (.bool false) (by kernel_rfl) (fun _ _ => by kernel_rfl) h_3 ?_
  simp only [Act.put, List.setIfInBounds_toArray, List.set_cons_zero, List.set_cons_succ]
  refine reg_take 11 38 (.bool false) (by kernel_rfl) (fun _ _ => by kernel_rfl) h_3 ?_
  simp only [Act.put, List.setIfInBounds_toArray, List.set_cons_zero, List.set_cons_succ]
  refine reg_take 12 39 (.bool false) (by kernel_rfl) (fun _ _ => by kernel_rfl) h_3 ?_
  simp only [Act.put, List.setIfInBounds_toArray, List.set_cons_zero, List.set_cons_succ]
  refine reg_take 13 40 (.bool false) (by kernel_rfl) (fun _ _ => by kernel_rfl) h_3 ?_
  simp only [Act.put, List.setIfInBounds_toArray, List.set_cons_zero, List.set_cons_succ]
  refine reg_take 14 41 (.bool false) (by kernel_rfl) (fun _ _ => by kernel_rfl) h_3 ?_
  simp only [Act.put, List.setIfInBounds_toArray, List.set_cons_zero, List.set_cons_succ]
  refine reg_take 15 42 (.bool false) (by kernel_rfl) (fun _ _ => by kernel_rfl) h_3 ?_
  simp only [Act.put, List.setIfInBounds_toArray, List.set_cons_zero, List.set_cons_succ]
  refine reg_done (by kernel_rfl) (HF.out _ _ ?_)
  have G5 := only_trans G4 (only_of_below h_3 none)
  have T5 := T4.below h_3
  have D5 := D4.below h_3 D4.lt
  have BV := h_3
  clear T4 G4 D4 HF
  go_wp2_with fail
  refine (auparse_any _ [] _ ⟨AllB.nil, by simp, .inl ⟨rfl, rfl⟩⟩ (by simp)).mono ?_
  rintro x w6 ⟨hb6, q6, u6, ss6, t6, m6, s6, rfl, o6, hq6, hm6, hs6, ht6⟩
  rw [parse_nil]
  obtain ⟨ua6, uc6, rfl⟩ := o6.ss.form
  have F := fresh_row w6 #[.string ⟨#[]⟩, .slice none 0 0, .int .i64 0, .int .u32 0, .int .u32 0] (au q6 (.slice ua6 ss6.length uc6) t6 m6 s6) 51
  have F6 := only_trans (only_of_below hb6 none) F.2
  have D7 := isArr.only D5 F6
  have G7 := only_trans G5 F6
  clear o6 G5 T5 D5 F6
  go_upto_region 8 with (refine wpList_store_rowTo rfl _ _ _ rfl rfl w6.heap.size _ rfl rfl _ _ (heap_alloc_new _ _) (info_au _ _ _ _ _) (by rw [au_size]; rfl) (au_one _ _ _ _ _ rfl) ?_)
  generalize World.setRow _ w6.heap.size _ = W7 at *
  generalize w6.heap.size = b6 at *
  clear F hb6
  have heq : ∀ W : World, (Op.equalIn 10000 55 (.agg (arr .u8 32 f)) (.agg (arr .u8 32 (fun _ => 0)))).run Tryd.prog W = .ok true W := fun W => by
    rw [HF2.out, run_equalIn_arr (P := Tryd.prog) (k := .u8) (n := 32) W (fun _ => 0) (fun _ => 0) Tryd.underlying55 Tryd.underlying5 (by kernel_rfl), sameArr_refl]
  go_wp2_with (first | refine wpList_load_rowG (by kernel_rfl) _ _ rfl b4 rfl _ _ (0, 0) _ D7 rfl rfl (info32d _) ?_ | refine wpList_buildG (by kernel_rfl) 55 _ rfl _ rfl (arr .u8 32 (fun _ => 0)) (by kernel_rfl) ?_)
  go_ret
  exact ⟨rfl, below_of_only G7⟩
set_option maxRecDepth 100000 in
set_option maxHeartbeats 8000000 in
attribute [local irreducible] wpAnyH in
theorem authMatchesReference_true (w : World) (q : ByteArray) (hq : q.size ≤ maxLen) (u : Value) (ss : List ByteArray) (hu : Ss w u ss) (t : Int) (m s : Nat) (hm : m < 4294967296) (hs : s < 4294967296) (hf : few q ss = true) (hv : Aut.valid (aut q ss t m s) = true) (hK : Consts w Sha.tab) :
    Calls Tryd.prog 7 #[.agg (au q u t m s)] w (RetBool true w) := by
  have HK := Lib.hid hK; clear hK
  have HVV := Lib.hid hv; clear hv
  have hsz := au_size q u t m s
  have T0 := Ab.new (W := w) (t := t) hu hq hm hs
  have G0 := only_alloc (only_refl w none) (.cells (au q u t m s) 51)
  obtain ⟨ua, uc, rfl⟩ := hu.form
  clear hu
  go_enter Tryd.func7, Tryd.ntmps7
  go_upto_region 1 with fail
  generalize w.alloc (.cells (au q (.slice ua ss.length uc) t m s) 51) = W0 at *
  generalize hb1 : w.heap.size = b1 at T0 ⊢
  clear hb1
  go_wp2_with fail
  refine (awake_aut _ (HK.out.below (below_of_only G0))).mono ?_
  rintro x w1 ⟨rfl, h1⟩
  have T1 := T0.only (only_of_below h1 none)
  have G1 := only_trans G0 (only_of_below h1 none)
  clear T0 G0 h1
  go_wp2_with (refine wpList_load_rowG (by kernel_rfl) _ _ rfl b1 rfl _ _ (0, 0) _ T1.1 rfl rfl (info_au _ _ _ _ _) ?_)
  refine (refaufew_any q _ ss t m s w1 hq T1.2.1).mono ?_
  rintro x w2 ⟨rfl, g2⟩
  rw [hf]
  have T2 := T1.only g2
  have G2 := only_trans G1 g2
  clear T1 G1 g2
  go_wp2_with (refine wpList_load_row rfl _ _ rfl b1 rfl _ _ (0, 0) _ T2.1 rfl rfl (info_au _ _ _ _ _) ?_)
  refine (aubytes_any q _ ss t m s w2 hq hm hs T2.2.1).mono ?_
  rintro x w3 ⟨hb3, ht⟩
  have T3 := T2.only (only_of_below hb3 none)
  have G3 := only_trans G2 (only_of_below hb3 none)
  clear T2 G2
  rw [if_pos HVV.out] at ht
  have hbl := Aut.bytes_len HVV.out
  have HPB := Lib.hid (Aut.parse_bytes HVV.out hs)
  rcases ht with ⟨hno, _⟩ | ⟨l3, v3, hl3, rfl, o3⟩
  · cases hno
  cases hl3
  obtain ⟨a3, c3, rfl⟩ := o3.form
  have O3 := Lib.hid o3.bs.rs
  have HBL := Lib.hid hbl
  clear o3 hb3 hbl
  have HRB := fun (W : World) (h : Ss W (.slice ua ss.length uc) ss) => refaubytes_any q _ ss t m s W hq hm hs h HVV.out
  have HRD := fun (W : World) (h : Ss W (.slice ua ss.length uc) ss) => refaudigest_any q _ ss t m s W hq hm hs h HVV.out
  have hdi : Aut.digI (aut q ss t m s) = Sha.dig (Aut.bytes (aut q ss t m s)) := by unfold Aut.digI; rw [if_pos HVV.out]
  generalize Aut.bytes (aut q ss t m s) = BB at *
  generalize Sha.dig BB = f at *
  have HDI := Lib.hid hdi
  clear hdi
  go_wp2_with (refine wpList_load_row rfl _ _ rfl b1 rfl _ _ (0, 0) _ T3.1 rfl rfl (info_au _ _ _ _ _) ?_)
  refine (audigest_any q _ ss t m s w3 hq hm hs T3.2.1 (HK.out.below (below_of_only G3))).mono ?_
  rintro x w4 ⟨rfl, hb4⟩
  rw [HVV.out, HDI.out]
  have F := fresh_row w4 #[.int .u8 0, .int .u8 0, .int .u8 0, .int .u8 0, .int .u8 0, .int .u8 0, .int .u8 0, .int .u8 0, .int .u8 0, .int .u8 0, .int .u8 0, .int .u8 0, .int .u8 0, .int .u8 0, .int .u8 0, .int .u8 0, .int .u8 0, .int .u8 0, .int .u8 0, .int .u8 0, .int .u8 0, .int .u8 0, .int .u8 0, .int .u8 0, .int .u8 0, .int .u8 0, .int .u8 0, .int .u8 0, .int .u8 0, .int .u8 0, .int .u8 0, .int .u8 0] (arr .u8 32 f) 55
  have F4 := only_trans (only_of_below hb4 none) F.2
  have T4 := T3.only F4
  have D4 : isArr _ w4.heap.size 55 .u8 32 f := F.1
  have G4 := only_trans G3 F4
  have hs32 := arr_size .u8 32 f
  clear T3 G3
  go_upto_region 5 with (refine wpList_store_rowTo rfl _ _ _ rfl rfl w4.heap.size _ rfl rfl _ _ (heap_alloc_new _ _) (info32d _) (by rw [arr_size]; rfl) (arr_one _ _ _) ?_)
  generalize World.setRow _ w4.heap.size _ = W4 at *
  generalize w4.heap.size = b4 at *
  clear F hb4
  have O4 := Lib.hid (O3.out.below (below_of_only F4))
  clear O3
  refine wp_reg Tryd.f7 5 16 (fun w' => Below W4.heap.size W4 w') (by kernel_rfl) (by kernel_rfl) (by kernel_rfl) (below_drewN (Below.refl _ _) 1) (fun K hK h0 => ?_)
  refine reg_cast (listed' := #[false, false, false, false, false, false, false, false, false, false, false, false, false, false, false, false]) (by kernel_rfl) rfl ?_
  have HF := Lib.hid hK; clear hK
  refine reg_load 0 27 (by kernel_rfl) 51 (.tmp 1) (by kernel_rfl) ⟨b1, 0, none⟩ (by kernel_rfl) (au q (.slice ua ss.length uc) t m s) _ (fun w' hw' => (T4.below hw').cells) Tryd.underlying51 rfl (by kernel_rfl) h0 ?_
  simp only [Act.put, List.setIfInBounds_toArray, List.set_cons_zero, List.set_cons_succ]
  refine reg_load 2 29 (by kernel_rfl) 51 (.tmp 1) (by kernel_rfl) ⟨b1, 0, none⟩ (by kernel_rfl) (au q (.slice ua ss.length uc) t m s) _ (fun w' hw' => (T4.below hw').cells) Tryd.underlying51 rfl (by kernel_rfl) h0 ?_
  simp only [Act.put, List.setIfInBounds_toArray, List.set_cons_zero, List.set_cons_succ]
  refine reg_one 1 (by kernel_rfl) (by kernel_rfl) (HStep.call (some 28) (by kernel_rfl) (by kernel_rfl) 31 #[.agg (au q (.slice ua ss.length uc) t m s)] (by kernel_rfl) ?_)
  refine (auvalid_any q _ ss t m s _ hq (T4.below h0).2.1).mono ?_
  rintro e w4 ⟨rfl, hg⟩
  rw [HVV.out]
  have hb_4 := below_of_only hg
  have h_4 := h0.trans (hb_4.mono h0.size)
  refine ⟨_, rfl, h_4, ?_⟩
  simp only [Act.put, List.setIfInBounds_toArray, List.set_cons_zero, List.set_cons_succ]
  refine reg_one 3 (by kernel_rfl) (by kernel_rfl) (HStep.call (some 30) (by kernel_rfl) (by kernel_rfl) 32 #[.agg (au q (.slice ua ss.length uc) t m s)] (by kernel_rfl) ?_)
  refine (refauvalid_any q _ ss t m s _ hq (T4.below h_4).2.1).mono ?_
  rintro e w5 ⟨rfl, hg⟩
  rw [HVV.out]
  have hb_5 := below_of_only hg
  have h_5 := h_4.trans (hb_5.mono h_4.size)
  refine ⟨_, rfl, h_5, ?_⟩
  simp only [Act.put, List.setIfInBounds_toArray, List.set_cons_zero, List.set_cons_succ]
  refine reg_take 4 31 (.bool false) (by kernel_rfl) (fun _ _ => by kernel_rfl) h_5 ?_
  simp only [Act.put, List.setIfInBounds_toArray, List.set_cons_zero, List.set_cons_succ]
  refine reg_take 5 32 (.bool false) (by kernel_rfl) (fun _ _ => by kernel_rfl) h_5 ?_
  simp only [Act.put, List.setIfInBounds_toArray, List.set_cons_zero, List.set_cons_succ]
  refine reg_take 6 33 (.bool true) (by kernel_rfl) (fun _ _ => by kernel_rfl) h_5 ?_
  simp only [Act.put, List.setIfInBounds_toArray, List.set_cons_zero, List.set_cons_succ]
  refine reg_load 7 34 (by kernel_rfl) 51 (.tmp 1) (by kernel_rfl) ⟨b1, 0, none⟩ (by kernel_rfl) (au q (.slice ua ss.length uc) t m s) _ (fun w' hw' => (T4.below hw').cells) Tryd.underlying51 rfl (by kernel_rfl) h_5 ?_
  simp only [Act.put, List.setIfInBounds_toArray, List.set_cons_zero, List.set_cons_succ]
  refine reg_one 8 (by kernel_rfl) (by kernel_rfl) (HStep.call (some 35) (by kernel_rfl) (by kernel_rfl) 32 #[.agg (au q (.slice ua ss.length uc) t m s)] (by kernel_rfl) ?_)
  refine (refauvalid_any q _ ss t m s _ hq (T4.below h_5).2.1).mono ?_
  rintro e w6 ⟨rfl, hg⟩
  rw [HVV.out]
  have hb_6 := below_of_only hg
  have h_6 := h_5.trans (hb_6.mono h_5.size)
  refine ⟨_, rfl, h_6, ?_⟩
  simp only [Act.put, List.setIfInBounds_toArray, List.set_cons_zero, List.set_cons_succ]
  refine reg_take 9 36 (.bool false) (by kernel_rfl) (fun _ _ => by kernel_rfl) h_6 ?_
  simp only [Act.put, List.setIfInBounds_toArray, List.set_cons_zero, List.set_cons_succ]
  refine reg_take 10 37 (.bool false) (by kernel_rfl) (fun _ _ => by kernel_rfl) h_6 ?_
  simp only [Act.put, List.setIfInBounds_toArray, List.set_cons_zero, List.set_cons_succ]
  refine reg_take 11 38 (.bool false) (by kernel_rfl) (fun _ _ => by kernel_rfl) h_6 ?_
  simp only [Act.put, List.setIfInBounds_toArray, List.set_cons_zero, List.set_cons_succ]
  refine reg_take 12 39 (.bool true) (by kernel_rfl) (fun _ _ => by kernel_rfl) h_6 ?_
  simp only [Act.put, List.setIfInBounds_toArray, List.set_cons_zero, List.set_cons_succ]
  refine reg_take 13 40 (.bool true) (by kernel_rfl) (fun _ _ => by kernel_rfl) h_6 ?_
  simp only [Act.put, List.setIfInBounds_toArray, List.set_cons_zero, List.set_cons_succ]
  refine reg_take 14 41 (.bool false) (by kernel_rfl) (fun _ _ => by kernel_rfl) h_6 ?_
  simp only [Act.put, List.setIfInBounds_toArray, List.set_cons_zero, List.set_cons_succ]
  refine reg_take 15 42 (.bool false) (by kernel_rfl) (fun _ _ => by kernel_rfl) h_6 ?_
  simp only [Act.put, List.setIfInBounds_toArray, List.set_cons_zero, List.set_cons_succ]
  refine reg_done (by kernel_rfl) (HF.out _ _ ?_)
  have G5 := only_trans G4 (only_of_below h_6 none)
  have T5 := T4.below h_6
  have D5 := D4.below h_6 D4.lt
  have BV := h_6
  clear T4 G4 D4 HF
  go_wp2_with fail
  refine (auparse_any _ BB _ (O4.out.below BV) (by have := HBL.out; omega)).mono ?_
  rintro x w6 ⟨hb6, q6, u6, ss6, t6, m6, s6, rfl, o6, hq6, hm6, hs6, ht6⟩
  rw [HPB.out] at ht6 ⊢
  have ht6 : aut q6 ss6 t6 m6 s6 = aut q ss t m s := ht6
  obtain ⟨ua6, uc6, rfl⟩ := o6.ss.form
  have F := fresh_row w6 #[.string ⟨#[]⟩, .slice none 0 0, .int .i64 0, .int .u32 0, .int .u32 0] (au q6 (.slice ua6 ss6.length uc6) t6 m6 s6) 51
  have P7 : Ab _ w6.heap.size q6 _ ss6 t6 m6 s6 := ⟨F.1, o6.ss.only F.2, hq6, hm6, hs6⟩
  have F6 := only_trans (only_of_below hb6 none) F.2
  have T7 := T5.only F6
  have D7 := isArr.only D5 F6
  have O7 := Lib.hid ((O4.out.below BV).below (below_of_only F6))
  have G7 := only_trans G5 F6
  clear o6 G5 T5 D5 O4 BV F6
  go_upto_region 8 with (refine wpList_store_rowTo rfl _ _ _ rfl rfl w6.heap.size _ rfl rfl _ _ (heap_alloc_new _ _) (info_au _ _ _ _ _) (by rw [au_size]; rfl) (au_one _ _ _ _ _ rfl) ?_)
  generalize World.setRow _ w6.heap.size _ = W7 at *
  generalize w6.heap.size = b6 at *
  clear F hb6
  have HSM := Lib.hid (asame_of ht6)
  clear ht6
  go_upto_region 10 with fail
  refine wp_reg Tryd.f7 10 19 (fun w' => Below W7.heap.size W7 w') (by kernel_rfl) (by kernel_rfl) (by kernel_rfl) (below_drewN (Below.refl _ _) 1) (fun K hK h0 => ?_)
  refine reg_cast (listed' := #[false, false, false, false, false, false, false, false, false, false, false, false, false, false, false, false, false, false, false]) (by kernel_rfl) rfl ?_
  have HF := Lib.hid hK; clear hK
  refine reg_take 0 62 (.slice a3 BB.length c3) (by kernel_rfl) (fun _ _ => by kernel_rfl) h0 ?_
  simp only [Act.put, List.setIfInBounds_toArray, List.set_cons_zero, List.set_cons_succ]
  refine reg_load 1 63 (by kernel_rfl) 51 (.tmp 1) (by kernel_rfl) ⟨b1, 0, none⟩ (by kernel_rfl) (au q (.slice ua ss.length uc) t m s) _ (fun w' hw' => (T7.below hw').cells) Tryd.underlying51 rfl (by kernel_rfl) h0 ?_
  simp only [Act.put, List.setIfInBounds_toArray, List.set_cons_zero, List.set_cons_succ]
  refine reg_one 2 (by kernel_rfl) (by kernel_rfl) (HStep.call (some 64) (by kernel_rfl) (by kernel_rfl) 34 #[.agg (au q (.slice ua ss.length uc) t m s)] (by kernel_rfl) ?_)
  refine (HRB _ (T7.below h0).2.1).mono ?_
  rintro e w7 ⟨vB, rfl, oB, hq'⟩
  obtain ⟨xB, yB, rfl⟩ := oB.form
  have hb_7 := hq'
  have h_7 := h0.trans (hb_7.mono h0.size)
  refine ⟨_, rfl, h_7, ?_⟩
  simp only [Act.put, List.setIfInBounds_toArray, List.set_cons_zero, List.set_cons_succ]
  refine reg_one 3 (by kernel_rfl) (by kernel_rfl) (HStep.call (some 65) (by kernel_rfl) (by kernel_rfl) 19 #[.slice a3 BB.length c3, .slice xB BB.length yB] (by kernel_rfl) ?_)
  refine (same_yes _ _ BB _ (O7.out.below h_7) oB.bs.rs).mono ?_
  rintro e w8 ⟨rfl, hq'⟩
  have hb_8 := hq'
  have h_8 := h_7.trans (hb_8.mono h_7.size)
  have oB := oB.below hb_8
  refine ⟨_, rfl, h_8, ?_⟩
  simp only [Act.put, List.setIfInBounds_toArray, List.set_cons_zero, List.set_cons_succ]
  refine reg_take 4 66 (.bool true) (by kernel_rfl) (fun _ _ => by kernel_rfl) h_8 ?_
  simp only [Act.put, List.setIfInBounds_toArray, List.set_cons_zero, List.set_cons_succ]
  refine reg_load 5 67 (by kernel_rfl) 55 (.tmp 5) (by kernel_rfl) ⟨b4, 0, none⟩ (by kernel_rfl) (arr .u8 32 f) _ (fun w' hw' => (D7.below hw' D7.lt).cells) Tryd.underlying55 rfl (by kernel_rfl) h_8 ?_
  simp only [Act.put, List.setIfInBounds_toArray, List.set_cons_zero, List.set_cons_succ]
  refine reg_load 6 68 (by kernel_rfl) 51 (.tmp 1) (by kernel_rfl) ⟨b1, 0, none⟩ (by kernel_rfl) (au q (.slice ua ss.length uc) t m s) _ (fun w' hw' => (T7.below hw').cells) Tryd.underlying51 rfl (by kernel_rfl) h_8 ?_
  simp only [Act.put, List.setIfInBounds_toArray, List.set_cons_zero, List.set_cons_succ]
  refine reg_one 7 (by kernel_rfl) (by kernel_rfl) (HStep.call (some 69) (by kernel_rfl) (by kernel_rfl) 35 #[.agg (au q (.slice ua ss.length uc) t m s)] (by kernel_rfl) ?_)
  refine (HRD _ (T7.below h_8).2.1).mono ?_
  rintro e w9 ⟨rfl, hq'⟩
  have hb_9 := hq'
  have h_9 := h_8.trans (hb_9.mono h_8.size)
  have oB := oB.below hb_9
  refine ⟨_, rfl, h_9, ?_⟩
  simp only [Act.put, List.setIfInBounds_toArray, List.set_cons_zero, List.set_cons_succ]
  refine reg_take 8 70 (.bool true) (by kernel_rfl) (fun w' _ => (exec_eql_arr (t := 55) (e := 5) (ty := 55) (n := 32) (k := .u8) f f (x := .tmp 67) (y := .tmp 69) (by kernel_rfl) (by kernel_rfl) (by kernel_rfl) Tryd.underlying55 Tryd.underlying5 (by kernel_rfl) (by kernel_rfl)).trans (by rw [sameArr_refl])) h_9 ?_
  simp only [Act.put, List.setIfInBounds_toArray, List.set_cons_zero, List.set_cons_succ]
  refine reg_take 9 71 (.bool true) (by kernel_rfl) (fun _ _ => by kernel_rfl) h_9 ?_
  simp only [Act.put, List.setIfInBounds_toArray, List.set_cons_zero, List.set_cons_succ]
  refine reg_take 10 72 (.bool true) (by kernel_rfl) (fun _ _ => by kernel_rfl) h_9 ?_
  simp only [Act.put, List.setIfInBounds_toArray, List.set_cons_zero, List.set_cons_succ]
  refine reg_take 11 73 (.bool true) (by kernel_rfl) (fun _ _ => by kernel_rfl) h_9 ?_
  simp only [Act.put, List.setIfInBounds_toArray, List.set_cons_zero, List.set_cons_succ]
  refine reg_take 12 74 (.bool true) (by kernel_rfl) (fun _ _ => by kernel_rfl) h_9 ?_
  simp only [Act.put, List.setIfInBounds_toArray, List.set_cons_zero, List.set_cons_succ]
  refine reg_take 13 75 (.bool true) (by kernel_rfl) (fun _ _ => by kernel_rfl) h_9 ?_
  simp only [Act.put, List.setIfInBounds_toArray, List.set_cons_zero, List.set_cons_succ]
  refine reg_load 14 76 (by kernel_rfl) 51 (.tmp 7) (by kernel_rfl) ⟨b6, 0, none⟩ (by kernel_rfl) (au q6 (.slice ua6 ss6.length uc6) t6 m6 s6) _ (fun w' hw' => (P7.below hw').cells) Tryd.underlying51 rfl (by kernel_rfl) h_9 ?_
  simp only [Act.put, List.setIfInBounds_toArray, List.set_cons_zero, List.set_cons_succ]
  refine reg_load 15 77 (by kernel_rfl) 51 (.tmp 1) (by kernel_rfl) ⟨b1, 0, none⟩ (by kernel_rfl) (au q (.slice ua ss.length uc) t m s) _ (fun w' hw' => (T7.below hw').cells) Tryd.underlying51 rfl (by kernel_rfl) h_9 ?_
  simp only [Act.put, List.setIfInBounds_toArray, List.set_cons_zero, List.set_cons_succ]
  refine reg_one 16 (by kernel_rfl) (by kernel_rfl) (HStep.call (some 78) (by kernel_rfl) (by kernel_rfl) 36 #[.agg (au q6 (.slice ua6 ss6.length uc6) t6 m6 s6), .agg (au q (.slice ua ss.length uc) t m s)] (by kernel_rfl) ?_)
  refine (refausame_any q6 q _ _ ss6 ss t6 t m6 s6 m s _ hq6 hq (P7.below h_9).2.1 (T7.below h_9).2.1).mono ?_
  rintro e w10 ⟨rfl, hg⟩
  rw [HSM.out]
  have hb_10 := below_of_only hg
  have h_10 := h_9.trans (hb_10.mono h_9.size)
  have oB := oB.below hb_10
  refine ⟨_, rfl, h_10, ?_⟩
  simp only [Act.put, List.setIfInBounds_toArray, List.set_cons_zero, List.set_cons_succ]
  refine reg_take 17 79 (.bool true) (by kernel_rfl) (fun _ _ => by kernel_rfl) h_10 ?_
  simp only [Act.put, List.setIfInBounds_toArray, List.set_cons_zero, List.set_cons_succ]
  refine reg_take 18 2 (.bool true) (by kernel_rfl) (fun _ _ => by kernel_rfl) h_10 ?_
  simp only [Act.put, List.setIfInBounds_toArray, List.set_cons_zero, List.set_cons_succ]
  refine reg_done (by kernel_rfl) (HF.out _ _ ?_)
  have G8 := only_trans G7 (only_of_below h_10 none)
  go_wp2_with fail
  go_ret
  exact ⟨rfl, below_of_only G8⟩
theorem authMatchesReference_walk (w : World) (q : ByteArray) (hq : q.size ≤ maxLen) (u : Value) (ss : List ByteArray) (hu : Ss w u ss) (t : Int) (_wt : (Lit.int .i64 t).wf = true) (m : Nat) (hm : m < 4294967296) (s : Nat) (hs : s < 4294967296) (hK : Consts w Sha.tab) :
    Calls Tryd.prog 7 #[.agg (au q u t m s)] w (RetBool true w) := by
  cases hf : few q ss
  · exact authMatchesReference_out w q hq u ss hu t m s hm hs hf hK
  · cases hv : Aut.valid (aut q ss t m s)
    · exact authMatchesReference_false w q hq u ss hu t m s hm hs hf hv hK
    · exact authMatchesReference_true w q hq u ss hu t m s hm hs hf hv hK

/-! ### THE ROW's STEP -/
namespace authMatchesReferenceF
theorem own : ownKnob Tryd.prog.godebug = none := by kernel_rfl
theorem laidOut : laidOutB Tryd.prog = true := by kernel_rfl
theorem gT : Tryd.prog.globalNamed "toll/sha.constants" = some 0 := by kernel_rfl
theorem gTType : (Tryd.prog.globals[0]?).map (·.type) = some 141 := by kernel_rfl
theorem door_met (os : Os) (args : Array Value) : laidMetH Tryd.prog Rows.authMatchesReferenceRow.laid ((World.doorLaid Tryd.prog 400 os).forCall (fun _ _ => 0) ⟨#[], args, []⟩).memory :=
  laidMetH_of_parts3 (fuel := 8) (laidMet_of_run' 8 (by kernel_rfl) (by kernel_rfl)) (by kernel_rfl) (by kernel_rfl)
theorem of_laid {W : World} (h : laidMetH Tryd.prog Rows.authMatchesReferenceRow.laid W) : Consts W Sha.tab := fun i hi => by
  rw [MakeChecks.laidMetH_plain _ _ _ (by kernel_rfl)] at h
  have hT := Lib.tabIs_of_head (k := .u32) (zs := Sha.tableL.map fun n : Nat => (n : Int)) gT gTType Tryd.underlying141 Tryd.underlying49 (by kernel_rfl) (by kernel_rfl) h
  have hl : i < Sha.tableL.length := hi
  rw [hT.cell gT i (by simpa using hl)]
  simp [Sha.tab, List.getD, hl]
set_option maxRecDepth 100000 in
theorem lifted (os : Os) (started : os.Started) (H : Type) (enc : TypeId × Value → H) :
    ReturnsInHanded {} Tryd.checked os 7 .any (fun w args => (Rows.authMatchesReferenceSpec.pre enc Tryd.prog Tryd.f7 [] false w args ∧ laidMetH Tryd.prog Rows.authMatchesReferenceRow.laid w) ∧ sizedMet enc Tryd.prog Tryd.f7 (OpenSpec.ofChange Rows.authMatchesReferenceSpec) false w args)
      (Rows.authMatchesReferenceSpec.post enc Tryd.prog Tryd.f7 false true false false) := by
  refine returnsInHanded_of_change_and (C := Tryd.checked) (X := fun w _ => laidMetH Tryd.prog Rows.authMatchesReferenceRow.laid w) (fun _ _ _ hh h => h.of_heap hh) own started (by kernel_rfl) Tryd.func7
    (ChangeSpec.witness_shaped (enc := enc) (C := Tryd.checked) (os := os) (X := fun w _ => laidMetH Tryd.prog Rows.authMatchesReferenceRow.laid w) false (World.doorLaid Tryd.prog 400 os) #[.agg #[.string ByteArray.empty, .slice none 0 0, .int .i64 0, .int .u32 0, .int .u32 0]] 8 rfl (World.shaped_of_RefB (by kernel_rfl) (by kernel_rfl)) (by kernel_rfl) (by kernel_rfl) (by kernel_rfl) (door_met os _)) ?_
  intro W base args ds gs before hval0 hW _ _ hL _
  have hK := of_laid hL
  have hval : ∀ (j : Nat) t v, Tryd.f7.params[j]? = some t → args[j]? = some v → Value.okWide Tryd.prog W .any base t v := hval0
  have hW' := hW
  obtain ⟨p, q, hA0, hV, rfl, _, _⟩ := hW
  have hA : DataW.TrodAll enc Tryd.prog W 0 (fun _ => true) true Tryd.f7.params.toList args.toList ds p := hA0
  rw [Tryd.params7] at hA hval
  obtain ⟨v0, vs0, d0, ds0, p0, q0, hargs, rfl, rfl, h0, r0⟩ := trodAll_cons hA
  obtain ⟨rfl, rfl, rfl⟩ := trodAll_nil r0
  obtain rfl : args = #[v0] := by cases args; simp_all
  obtain ⟨rfl, rfl⟩ := trodVars_none hV
  have k0 := h0
  have lt0 : ∀ x ∈ p0, x.block < W.heap.size := by obtain ⟨m, hm⟩ := k0; exact DataW.trod_lt m _ _ _ hm
  obtain ⟨q0, u0, ss0, t0, m0, s0, rfl, w0, x0, wt0, wm0, ws0⟩ := open_auth (hval 0 51 v0 rfl rfl) h0
  refine (authMatchesReference_walk W q0 w0 u0 ss0 x0 t0 wt0 m0 wm0 s0 ws0 hK).mono fun e W' ⟨he, bel⟩ => ?_
  subst he
  exact ⟨_, rfl, _, _, _, [], _, [], hW', trodAll_mk1 (shut_bool Tryd.underlying4 _), (trodAll_cons_mk (Below.trod laidOut (by kernel_rfl) (of_decide_eq_true (by kernel_rfl)) k0 bel lt0) trodAll_mk0), rfl, bel.frame _, fun h => by cases h⟩
theorem over : Rows.authMatchesReferenceRow.holds Tryd.pinned (OpenSpec.ofChange Rows.authMatchesReferenceSpec) :=
  OpenClaim.holds_of_wide 7 Tryd.f7 rfl rfl rfl rfl rfl rfl rfl ⟨rfl, rfl, rfl, rfl, rfl⟩ rfl rfl rfl rfl rfl (by kernel_rfl) Tryd.func7 (by kernel_rfl)
    (of_decide_eq_true (by kernel_rfl)) (by unfold Func.isWrapper; first | (rw [if_pos (by decide +kernel)]; kernel_rfl) | (rw [if_neg (by decide +kernel)]; exact ⟨rfl, rfl⟩))
    (fun os started H enc _ => lifted os started H enc)
end authMatchesReferenceF
/-- The row. -/
theorem authMatchesReference_row : Rows.AuthMatchesReferenceSaid := authMatchesReferenceF.over
/-- The statement: the card. -/
theorem authMatchesReference_holds : Rows.AuthMatchesReferenceCardSaid :=
  Claim7.holds_tied_plain_at .later [] [.data] true Rows.authMatchesReferenceCard.stood.harness false
    authMatchesReference_row (fun _ h => by cases h) (by kernel_rfl) (fun _ h => by cases h) authMatchesReference_row_tie rfl ⟨rfl, rfl⟩ (by kernel_rfl) rfl
    (fun f fn hf hfn => by
      obtain rfl : f = 7 := Option.some.inj ((show Tryd.prog.funcNamed "toll/tolllaw13.AuthMatchesReference" = some 7 by kernel_rfl).symm.trans hf) |>.symm
      obtain rfl : fn = Tryd.f7 := (Option.some.inj (Tryd.func7.symm.trans hfn)).symm
      exact ⟨by kernel_rfl, fun j t ht => by
        rw [Tryd.params7] at ht
        have hm : t ∈ [51] := by simpa using Array.mem_of_getElem? ht
        have hall : ([51].all fun u => !Tryd.prog.wantsStandIn u) = true := by kernel_rfl
        exact (show Tryd.prog.wantsStandIn t = false by simpa using List.all_eq_true.1 hall t hm)⟩)
    (by kernel_rfl)
#print axioms authMatchesReference_holds
end Go.Proofs.YtnhchdkchohnbaaDoor
