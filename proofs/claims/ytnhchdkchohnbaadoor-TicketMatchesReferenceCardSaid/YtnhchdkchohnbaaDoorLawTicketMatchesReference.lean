/- Any ticket is valid as in the reference implementation, and then has its bytes, which lead back to it: for every ticket the law returns true. The variable sha.constants reads as the program's text lays it. -/
import Derived.Test.YtnhchdkchohnbaaDoorTicKit
import Derived.Test.YtnhchdkchohnbaaDoorTicG
namespace Go.Proofs.YtnhchdkchohnbaaDoor
open Go.ChangeShapes Go.WideShapes Go.ChangeAt Go.RowKit Go.Deep

theorem tic0_valid : Tic.valid tic0 = false := by decide
theorem tk_zero_tic : tic ⟨#[]⟩ [] 0 0 (fun _ => 0) = tic0 := rfl
theorem parse_nil : Tic.parse [] = none := Tic.parse_not1 (by decide)
theorem Tb.cells {W : World} {b : Nat} {r : ByteArray} {u : Value} {ss : List ByteArray} {s e : Int} {key : Nat → Nat} (h : Tb W b r u ss s e key) : ∀ j v, (tk r u s e key)[j]? = some v → W.cell? ((⟨b, 0, none⟩ : Addr).add j) = some v := fun j v hj => by
  rw [Addr.add_lit, Nat.zero_add]; exact h.1.cell hj
set_option maxRecDepth 100000 in
set_option maxHeartbeats 8000000 in
theorem ticketMatchesReference_out (w : World) (q : ByteArray) (hq : q.size ≤ maxLen) (u : Value) (ss : List ByteArray) (hu : Ss w u ss) (s e : Int) (key : Nat → Nat) (hk : Aes.B8 key) (hf : few q ss = false) (hK : Consts w Sha.tab) :
    Calls Tryd.prog 3 #[.agg (tk q u s e key)] w (RetBool true w) := by
  have HK := Lib.hid hK; clear hK
  have hsz := tk_size q u s e key
  have T0 := Tb.new (W := w) (s := s) (e := e) hu hq hk
  have G0 := only_alloc (only_refl w none) (.cells (tk q u s e key) 27)
  obtain ⟨ua, uc, rfl⟩ := hu.form
  clear hu
  go_enter Tryd.func3, Tryd.ntmps3
  go_upto_region 1 with fail
  generalize w.alloc (.cells (tk q (.slice ua ss.length uc) s e key) 27) = W0 at *
  generalize hb1 : w.heap.size = b1 at T0 ⊢
  clear hb1
  go_wp2_with fail
  refine (awake_tic _ (HK.out.below (below_of_only G0))).mono ?_
  rintro x w1 ⟨rfl, h1⟩
  have T1 := T0.only (only_of_below h1 none)
  have G1 := only_trans G0 (only_of_below h1 none)
  clear T0 G0 h1
  go_wp2_with (refine wpList_load_rowG (by kernel_rfl) _ _ rfl b1 rfl _ _ (0, 0) _ T1.1 rfl rfl (info_tk _ _ _ _ _) ?_)
  refine (reftkfew_any q _ ss s e key w1 hq T1.2.1).mono ?_
  rintro x w2 ⟨rfl, g2⟩
  rw [hf]
  have G2 := only_trans G1 g2
  go_wp2_with fail
  refine (awake_tic _ (HK.out.below (below_of_only G2))).mono ?_
  rintro x w3 ⟨rfl, h3⟩
  have G3 := only_trans G2 (only_of_below h3 none)
  go_wp2_with fail
  go_ret
  exact ⟨rfl, below_of_only G3⟩
set_option maxRecDepth 100000 in
set_option maxHeartbeats 8000000 in
attribute [local irreducible] wpAnyH in
theorem ticketMatchesReference_false (w : World) (q : ByteArray) (hq : q.size ≤ maxLen) (u : Value) (ss : List ByteArray) (hu : Ss w u ss) (s e : Int) (key : Nat → Nat) (hk : Aes.B8 key) (hf : few q ss = true) (hv : Tic.valid (tic q ss s e key) = false) (hK : Consts w Sha.tab) :
    Calls Tryd.prog 3 #[.agg (tk q u s e key)] w (RetBool true w) := by
  have HK := Lib.hid hK; clear hK
  have HVV := Lib.hid hv; clear hv
  have hsz := tk_size q u s e key
  have T0 := Tb.new (W := w) (s := s) (e := e) hu hq hk
  have G0 := only_alloc (only_refl w none) (.cells (tk q u s e key) 27)
  obtain ⟨ua, uc, rfl⟩ := hu.form
  clear hu
  go_enter Tryd.func3, Tryd.ntmps3
  go_upto_region 1 with fail
  generalize w.alloc (.cells (tk q (.slice ua ss.length uc) s e key) 27) = W0 at *
  generalize hb1 : w.heap.size = b1 at T0 ⊢
  clear hb1
  go_wp2_with fail
  refine (awake_tic _ (HK.out.below (below_of_only G0))).mono ?_
  rintro x w1 ⟨rfl, h1⟩
  have T1 := T0.only (only_of_below h1 none)
  have G1 := only_trans G0 (only_of_below h1 none)
  clear T0 G0 h1
  go_wp2_with (refine wpList_load_rowG (by kernel_rfl) _ _ rfl b1 rfl _ _ (0, 0) _ T1.1 rfl rfl (info_tk _ _ _ _ _) ?_)
  refine (reftkfew_any q _ ss s e key w1 hq T1.2.1).mono ?_
  rintro x w2 ⟨rfl, g2⟩
  rw [hf]
  have T2 := T1.only g2
  have G2 := only_trans G1 g2
  clear T1 G1 g2
  go_wp2_with (refine wpList_load_row rfl _ _ rfl b1 rfl _ _ (0, 0) _ T2.1 rfl rfl (info_tk _ _ _ _ _) ?_)
  refine (tkbytes_any q _ ss s e key w2 hq hk T2.2.1).mono ?_
  rintro x w3 ⟨hb3, ht⟩
  have T3 := T2.only (only_of_below hb3 none)
  have G3 := only_trans G2 (only_of_below hb3 none)
  clear T2 G2
  rw [HVV.out] at ht
  rcases ht with ⟨_, rfl⟩ | ⟨_, _, hno, _⟩
  rotate_left
  · cases hno
  clear hb3
  go_upto_region 4 with fail
  generalize hW4 : w3 = W4 at *
  clear hW4
  have T4 := T3
  refine wp_reg Tryd.f3 4 11 (fun w' => Below W4.heap.size W4 w') (by kernel_rfl) (by kernel_rfl) (by kernel_rfl) (below_drewN (Below.refl _ _) 1) (fun K hK h0 => ?_)
  refine reg_cast (listed' := #[false, false, false, false, false, false, false, false, false, false, false]) (by kernel_rfl) rfl ?_
  have HF := Lib.hid hK; clear hK
  refine reg_load 0 20 (by kernel_rfl) 27 (.tmp 1) (by kernel_rfl) ⟨b1, 0, none⟩ (by kernel_rfl) (tk q (.slice ua ss.length uc) s e key) _ (fun w' hw' => (T4.below hw').cells) Tryd.underlying27 rfl (by kernel_rfl) h0 ?_
  simp only [Act.put, List.setIfInBounds_toArray, List.set_cons_zero, List.set_cons_succ]
  refine reg_load 2 22 (by kernel_rfl) 27 (.tmp 1) (by kernel_rfl) ⟨b1, 0, none⟩ (by kernel_rfl) (tk q (.slice ua ss.length uc) s e key) _ (fun w' hw' => (T4.below hw').cells) Tryd.underlying27 rfl (by kernel_rfl) h0 ?_
  simp only [Act.put, List.setIfInBounds_toArray, List.set_cons_zero, List.set_cons_succ]
  refine reg_one 1 (by kernel_rfl) (by kernel_rfl) (HStep.call (some 21) (by kernel_rfl) (by kernel_rfl) 15 #[.agg (tk q (.slice ua ss.length uc) s e key)] (by kernel_rfl) ?_)
  refine (tkvalid_any q _ ss s e key _ hq (T4.below h0).2.1).mono ?_
  rintro e w1 ⟨rfl, hg⟩
  rw [HVV.out]
  have hb_1 := below_of_only hg
  have h_1 := h0.trans (hb_1.mono h0.size)
  refine ⟨_, rfl, h_1, ?_⟩
  simp only [Act.put, List.setIfInBounds_toArray, List.set_cons_zero, List.set_cons_succ]
  refine reg_one 3 (by kernel_rfl) (by kernel_rfl) (HStep.call (some 23) (by kernel_rfl) (by kernel_rfl) 16 #[.agg (tk q (.slice ua ss.length uc) s e key)] (by kernel_rfl) ?_)
  refine (reftkvalid_any q _ ss s e key _ hq (T4.below h_1).2.1).mono ?_
  rintro e w2 ⟨rfl, hg⟩
  rw [HVV.out]
  have hb_2 := below_of_only hg
  have h_2 := h_1.trans (hb_2.mono h_1.size)
  refine ⟨_, rfl, h_2, ?_⟩
  simp only [Act.put, List.setIfInBounds_toArray, List.set_cons_zero, List.set_cons_succ]
  refine reg_take 4 24 (.bool false) (by kernel_rfl) (fun _ _ => by kernel_rfl) h_2 ?_
  simp only [Act.put, List.setIfInBounds_toArray, List.set_cons_zero, List.set_cons_succ]
  refine reg_take 5 25 (.bool false) (by kernel_rfl) (fun _ _ => by kernel_rfl) h_2 ?_
  simp only [Act.put, List.setIfInBounds_toArray, List.set_cons_zero, List.set_cons_succ]
  refine reg_take 6 26 (.bool false) (by kernel_rfl) (fun _ _ => by kernel_rfl) h_2 ?_
  simp only [Act.put, List.setIfInBounds_toArray, List.set_cons_zero, List.set_cons_succ]
  refine reg_load 7 27 (by kernel_rfl) 27 (.tmp 1) (by kernel_rfl) ⟨b1, 0, none⟩ (by kernel_rfl) (tk q (.slice ua ss.length uc) s e key) _ (fun w' hw' => (T4.below hw').cells) Tryd.underlying27 rfl (by kernel_rfl) h_2 ?_
  simp only [Act.put, List.setIfInBounds_toArray, List.set_cons_zero, List.set_cons_succ]
  refine reg_one 8 (by kernel_rfl) (by kernel_rfl) (HStep.call (some 28) (by kernel_rfl) (by kernel_rfl) 16 #[.agg (tk q (.slice ua ss.length uc) s e key)] (by kernel_rfl) ?_)
  refine (reftkvalid_any q _ ss s e key _ hq (T4.below h_2).2.1).mono ?_
  rintro e w3 ⟨rfl, hg⟩
  rw [HVV.out]
  have hb_3 := below_of_only hg
  have h_3 := h_2.trans (hb_3.mono h_2.size)
  refine ⟨_, rfl, h_3, ?_⟩
  simp only [Act.put, List.setIfInBounds_toArray, List.set_cons_zero, List.set_cons_succ]
  refine reg_take 9 29 (.bool false) (by kernel_rfl) (fun _ _ => by kernel_rfl) h_3 ?_
  simp only [Act.put, List.setIfInBounds_toArray, List.set_cons_zero, List.set_cons_succ]
  refine reg_take 10 30 (.bool false) (by kernel_rfl) (fun _ _ => by kernel_rfl) h_3 ?_
  simp only [Act.put, List.setIfInBounds_toArray, List.set_cons_zero, List.set_cons_succ]
  refine reg_done (by kernel_rfl) (HF.out _ _ ?_)
  have G5 := only_trans G3 (only_of_below h_3 none)
  have T5 := T3.below h_3
  have BV := h_3
  clear T3 T4 G3 HF
  go_wp2_with fail
  refine (tkparse_any _ [] _ ⟨AllB.nil, by simp, .inl ⟨rfl, rfl⟩⟩ (by simp)).mono ?_
  rintro x w6 ⟨hb6, q6, u6, ss6, s6, x6, k6, rfl, o6, hq6, hk6, ht6⟩
  rw [parse_nil] at ht6 ⊢
  obtain ⟨ua6, uc6, rfl⟩ := o6.ss.form
  have F := fresh_row w6 #[.string ⟨#[]⟩, .slice none 0 0, .int .i64 0, .int .i64 0, .int .u8 0, .int .u8 0, .int .u8 0, .int .u8 0, .int .u8 0, .int .u8 0, .int .u8 0, .int .u8 0, .int .u8 0, .int .u8 0, .int .u8 0, .int .u8 0, .int .u8 0, .int .u8 0, .int .u8 0, .int .u8 0] (tk q6 (.slice ua6 ss6.length uc6) s6 x6 k6) 27
  have P7 : Tb _ w6.heap.size q6 _ ss6 s6 x6 k6 := ⟨F.1, o6.ss.only F.2, hq6, hk6⟩
  have G7 := only_trans (only_trans G5 (only_of_below hb6 none)) F.2
  clear o6 G5 T5
  go_upto_region 7 with (refine wpList_store_rowTo rfl _ _ _ rfl rfl w6.heap.size _ rfl rfl _ _ (heap_alloc_new _ _) (info_tk _ _ _ _ _) (by rw [tk_size]; rfl) (tk_one _ _ _ _ _ rfl) ?_)
  generalize World.setRow _ w6.heap.size _ = W7 at *
  generalize w6.heap.size = b6 at *
  clear F hb6
  have HSM := Lib.hid (tsame_of (q := ⟨#[]⟩) (tt := []) (s' := 0) (e' := 0) (key' := fun _ => 0) ht6)
  go_wp2_with (first | refine wpList_load_rowG (by kernel_rfl) _ _ rfl b6 rfl _ _ (0, 0) _ P7.1 rfl rfl (info_tk _ _ _ _ _) ?_ | refine wpList_buildG (by kernel_rfl) 27 _ rfl _ rfl (tk ⟨#[]⟩ (.slice none 0 0) 0 0 (fun _ => 0)) (by kernel_rfl) ?_)
  refine (reftksame_any q6 ⟨#[]⟩ _ _ ss6 [] s6 x6 0 0 k6 (fun _ => 0) W7 hq6 (Nat.zero_le _) hk6 (fun _ => (by decide : 0 < 256)) P7.2.1 (Ss.nil _)).mono ?_
  rintro x w8 ⟨rfl, g8⟩
  rw [HSM.out]
  have G8 := only_trans G7 g8
  go_wp2_with fail
  go_ret
  exact ⟨rfl, below_of_only G8⟩
set_option maxRecDepth 100000 in
set_option maxHeartbeats 8000000 in
attribute [local irreducible] wpAnyH in
theorem ticketMatchesReference_true (w : World) (q : ByteArray) (hq : q.size ≤ maxLen) (u : Value) (ss : List ByteArray) (hu : Ss w u ss) (s e : Int) (key : Nat → Nat) (hk : Aes.B8 key) (hf : few q ss = true) (hv : Tic.valid (tic q ss s e key) = true) (hK : Consts w Sha.tab) :
    Calls Tryd.prog 3 #[.agg (tk q u s e key)] w (RetBool true w) := by
  have HK := Lib.hid hK; clear hK
  have HVV := Lib.hid hv; clear hv
  have hsz := tk_size q u s e key
  have T0 := Tb.new (W := w) (s := s) (e := e) hu hq hk
  have G0 := only_alloc (only_refl w none) (.cells (tk q u s e key) 27)
  obtain ⟨ua, uc, rfl⟩ := hu.form
  clear hu
  go_enter Tryd.func3, Tryd.ntmps3
  go_upto_region 1 with fail
  generalize w.alloc (.cells (tk q (.slice ua ss.length uc) s e key) 27) = W0 at *
  generalize hb1 : w.heap.size = b1 at T0 ⊢
  clear hb1
  go_wp2_with fail
  refine (awake_tic _ (HK.out.below (below_of_only G0))).mono ?_
  rintro x w1 ⟨rfl, h1⟩
  have T1 := T0.only (only_of_below h1 none)
  have G1 := only_trans G0 (only_of_below h1 none)
  clear T0 G0 h1
  go_wp2_with (refine wpList_load_rowG (by kernel_rfl) _ _ rfl b1 rfl _ _ (0, 0) _ T1.1 rfl rfl (info_tk _ _ _ _ _) ?_)
  refine (reftkfew_any q _ ss s e key w1 hq T1.2.1).mono ?_
  rintro x w2 ⟨rfl, g2⟩
  rw [hf]
  have T2 := T1.only g2
  have G2 := only_trans G1 g2
  clear T1 G1 g2
  go_wp2_with (refine wpList_load_row rfl _ _ rfl b1 rfl _ _ (0, 0) _ T2.1 rfl rfl (info_tk _ _ _ _ _) ?_)
  refine (tkbytes_any q _ ss s e key w2 hq hk T2.2.1).mono ?_
  rintro x w3 ⟨hb3, ht⟩
  have T3 := T2.only (only_of_below hb3 none)
  have G3 := only_trans G2 (only_of_below hb3 none)
  clear T2 G2
  rw [if_pos HVV.out] at ht
  have hbl := Tic.bytes_len HVV.out (Sea.nl_length _ _)
  have HPB := Lib.hid (Tic.parse_bytes HVV.out (Sea.nl_length _ _))
  rcases ht with ⟨hno, _⟩ | ⟨l3, v3, hl3, rfl, o3⟩
  · cases hno
  cases hl3
  obtain ⟨a3, c3, rfl⟩ := o3.form
  have O3 := Lib.hid o3.bs.rs
  have HBL := Lib.hid hbl
  clear o3 hb3 hbl
  have HRB := fun (W : World) (h : Ss W (.slice ua ss.length uc) ss) => reftkbytes_any q _ ss s e key W hq hk h HVV.out
  generalize Tic.bytes (tic q ss s e key) = BB at *
  go_upto_region 4 with fail
  generalize hW4 : w3 = W4 at *
  clear hW4
  have T4 := T3
  refine wp_reg Tryd.f3 4 11 (fun w' => Below W4.heap.size W4 w') (by kernel_rfl) (by kernel_rfl) (by kernel_rfl) (below_drewN (Below.refl _ _) 1) (fun K hK h0 => ?_)
  refine reg_cast (listed' := #[false, false, false, false, false, false, false, false, false, false, false]) (by kernel_rfl) rfl ?_
  have HF := Lib.hid hK; clear hK
  refine reg_load 0 20 (by kernel_rfl) 27 (.tmp 1) (by kernel_rfl) ⟨b1, 0, none⟩ (by kernel_rfl) (tk q (.slice ua ss.length uc) s e key) _ (fun w' hw' => (T4.below hw').cells) Tryd.underlying27 rfl (by kernel_rfl) h0 ?_
  simp only [Act.put, List.setIfInBounds_toArray, List.set_cons_zero, List.set_cons_succ]
  refine reg_load 2 22 (by kernel_rfl) 27 (.tmp 1) (by kernel_rfl) ⟨b1, 0, none⟩ (by kernel_rfl) (tk q (.slice ua ss.length uc) s e key) _ (fun w' hw' => (T4.below hw').cells) Tryd.underlying27 rfl (by kernel_rfl) h0 ?_
  simp only [Act.put, List.setIfInBounds_toArray, List.set_cons_zero, List.set_cons_succ]
  refine reg_one 1 (by kernel_rfl) (by kernel_rfl) (HStep.call (some 21) (by kernel_rfl) (by kernel_rfl) 15 #[.agg (tk q (.slice ua ss.length uc) s e key)] (by kernel_rfl) ?_)
  refine (tkvalid_any q _ ss s e key _ hq (T4.below h0).2.1).mono ?_
  rintro e w4 ⟨rfl, hg⟩
  rw [HVV.out]
  have hb_4 := below_of_only hg
  have h_4 := h0.trans (hb_4.mono h0.size)
  refine ⟨_, rfl, h_4, ?_⟩
  simp only [Act.put, List.setIfInBounds_toArray, List.set_cons_zero, List.set_cons_succ]
  refine reg_one 3 (by kernel_rfl) (by kernel_rfl) (HStep.call (some 23) (by kernel_rfl) (by kernel_rfl) 16 #[.agg (tk q (.slice ua ss.length uc) s e key)] (by kernel_rfl) ?_)
  refine (reftkvalid_any q _ ss s e key _ hq (T4.below h_4).2.1).mono ?_
  rintro e w5 ⟨rfl, hg⟩
  rw [HVV.out]
  have hb_5 := below_of_only hg
  have h_5 := h_4.trans (hb_5.mono h_4.size)
  refine ⟨_, rfl, h_5, ?_⟩
  simp only [Act.put, List.setIfInBounds_toArray, List.set_cons_zero, List.set_cons_succ]
  refine reg_take 4 24 (.bool false) (by kernel_rfl) (fun _ _ => by kernel_rfl) h_5 ?_
  simp only [Act.put, List.setIfInBounds_toArray, List.set_cons_zero, List.set_cons_succ]
  refine reg_take 5 25 (.bool false) (by kernel_rfl) (fun _ _ => by kernel_rfl) h_5 ?_
  simp only [Act.put, List.setIfInBounds_toArray, List.set_cons_zero, List.set_cons_succ]
  refine reg_take 6 26 (.bool true) (by kernel_rfl) (fun _ _ => by kernel_rfl) h_5 ?_
  simp only [Act.put, List.setIfInBounds_toArray, List.set_cons_zero, List.set_cons_succ]
  refine reg_load 7 27 (by kernel_rfl) 27 (.tmp 1) (by kernel_rfl) ⟨b1, 0, none⟩ (by kernel_rfl) (tk q (.slice ua ss.length uc) s e key) _ (fun w' hw' => (T4.below hw').cells) Tryd.underlying27 rfl (by kernel_rfl) h_5 ?_
  simp only [Act.put, List.setIfInBounds_toArray, List.set_cons_zero, List.set_cons_succ]
  refine reg_one 8 (by kernel_rfl) (by kernel_rfl) (HStep.call (some 28) (by kernel_rfl) (by kernel_rfl) 16 #[.agg (tk q (.slice ua ss.length uc) s e key)] (by kernel_rfl) ?_)
  refine (reftkvalid_any q _ ss s e key _ hq (T4.below h_5).2.1).mono ?_
  rintro e w6 ⟨rfl, hg⟩
  rw [HVV.out]
  have hb_6 := below_of_only hg
  have h_6 := h_5.trans (hb_6.mono h_5.size)
  refine ⟨_, rfl, h_6, ?_⟩
  simp only [Act.put, List.setIfInBounds_toArray, List.set_cons_zero, List.set_cons_succ]
  refine reg_take 9 29 (.bool false) (by kernel_rfl) (fun _ _ => by kernel_rfl) h_6 ?_
  simp only [Act.put, List.setIfInBounds_toArray, List.set_cons_zero, List.set_cons_succ]
  refine reg_take 10 30 (.bool false) (by kernel_rfl) (fun _ _ => by kernel_rfl) h_6 ?_
  simp only [Act.put, List.setIfInBounds_toArray, List.set_cons_zero, List.set_cons_succ]
  refine reg_done (by kernel_rfl) (HF.out _ _ ?_)
  have G5 := only_trans G3 (only_of_below h_6 none)
  have T5 := T3.below h_6
  have BV := h_6
  clear T3 T4 G3 HF
  go_wp2_with fail
  refine (tkparse_any _ BB _ (O3.out.below BV) (by have := HBL.out; omega)).mono ?_
  rintro x w6 ⟨hb6, q6, u6, ss6, s6, x6, k6, rfl, o6, hq6, hk6, ht6⟩
  rw [HPB.out] at ht6 ⊢
  have ht6 : tic q6 ss6 s6 x6 k6 = tic q ss s e key := ht6
  obtain ⟨ua6, uc6, rfl⟩ := o6.ss.form
  have F := fresh_row w6 #[.string ⟨#[]⟩, .slice none 0 0, .int .i64 0, .int .i64 0, .int .u8 0, .int .u8 0, .int .u8 0, .int .u8 0, .int .u8 0, .int .u8 0, .int .u8 0, .int .u8 0, .int .u8 0, .int .u8 0, .int .u8 0, .int .u8 0, .int .u8 0, .int .u8 0, .int .u8 0, .int .u8 0] (tk q6 (.slice ua6 ss6.length uc6) s6 x6 k6) 27
  have P7 : Tb _ w6.heap.size q6 _ ss6 s6 x6 k6 := ⟨F.1, o6.ss.only F.2, hq6, hk6⟩
  have T7 := (T5.only (only_of_below hb6 none)).only F.2
  have O7 := Lib.hid (((O3.out.below BV).below hb6).below (below_of_only F.2))
  have G7 := only_trans (only_trans G5 (only_of_below hb6 none)) F.2
  clear o6 G5 T5 O3 BV
  go_upto_region 7 with (refine wpList_store_rowTo rfl _ _ _ rfl rfl w6.heap.size _ rfl rfl _ _ (heap_alloc_new _ _) (info_tk _ _ _ _ _) (by rw [tk_size]; rfl) (tk_one _ _ _ _ _ rfl) ?_)
  generalize World.setRow _ w6.heap.size _ = W7 at *
  generalize w6.heap.size = b6 at *
  clear F hb6
  have HSM := Lib.hid (tsame_of ht6)
  clear ht6
  go_wp2_with (refine wpList_load_row rfl _ _ rfl b1 rfl _ _ (0, 0) _ T7.1 rfl rfl (info_tk _ _ _ _ _) ?_)
  refine (HRB W7 T7.2.1).mono ?_
  rintro x w8 ⟨v8, rfl, o8, hb8⟩
  obtain ⟨a8, c8, rfl⟩ := o8.form
  have T8 := T7.only (only_of_below hb8 none)
  have P8 := P7.only (only_of_below hb8 none)
  have G8 := only_trans G7 (only_of_below hb8 none)
  have O8 := O7.out.below hb8
  clear T7 P7 G7 O7
  go_wp2_with fail
  refine (same_yes _ _ BB w8 O8 o8.bs.rs).mono ?_
  rintro x w9 ⟨rfl, hb9⟩
  have T9 := T8.only (only_of_below hb9 none)
  have P9 := P8.only (only_of_below hb9 none)
  have G9 := only_trans G8 (only_of_below hb9 none)
  clear T8 P8 G8 O8 o8 hb8 hb9
  go_wp2_with (first | refine wpList_load_rowG (by kernel_rfl) _ _ rfl b6 rfl _ _ (0, 0) _ P9.1 rfl rfl (info_tk _ _ _ _ _) ?_ | refine wpList_load_rowG (by kernel_rfl) _ _ rfl b1 rfl _ _ (0, 0) _ T9.1 rfl rfl (info_tk _ _ _ _ _) ?_)
  refine (reftksame_any q6 q _ _ ss6 ss s6 x6 s e k6 key w9 hq6 hq hk6 hk P9.2.1 T9.2.1).mono ?_
  rintro x w10 ⟨rfl, g10⟩
  rw [HSM.out]
  have T10 := T9.only g10
  have P10 := P9.only g10
  have G10 := only_trans G9 g10
  clear T9 P9 G9 g10
  go_wp2_with (first | refine wpList_load_rowG (by kernel_rfl) _ _ rfl b6 rfl _ _ (0, 0) _ P10.1 rfl rfl (info_tk _ _ _ _ _) ?_ | refine wpList_load_rowG (by kernel_rfl) _ _ rfl b1 rfl _ _ (0, 0) _ T10.1 rfl rfl (info_tk _ _ _ _ _) ?_)
  refine (tksame_any q6 q _ _ ss6 ss s6 x6 s e k6 key w10 hq6 hq hk6 hk P10.2.1 T10.2.1).mono ?_
  rintro x w11 ⟨rfl, g11⟩
  rw [HSM.out]
  have G11 := only_trans G10 g11
  go_wp2_with fail
  go_ret
  exact ⟨rfl, below_of_only G11⟩
theorem ticketMatchesReference_walk (w : World) (q : ByteArray) (hq : q.size ≤ maxLen) (u : Value) (ss : List ByteArray) (hu : Ss w u ss) (s e : Int) (_ws : (Lit.int .i64 s).wf = true) (_we : (Lit.int .i64 e).wf = true) (key : Nat → Nat) (hk : Aes.B8 key) (hK : Consts w Sha.tab) :
    Calls Tryd.prog 3 #[.agg (tk q u s e key)] w (RetBool true w) := by
  cases hf : few q ss
  · exact ticketMatchesReference_out w q hq u ss hu s e key hk hf hK
  · cases hv : Tic.valid (tic q ss s e key)
    · exact ticketMatchesReference_false w q hq u ss hu s e key hk hf hv hK
    · exact ticketMatchesReference_true w q hq u ss hu s e key hk hf hv hK

/-! ### THE ROW's STEP -/
namespace ticketMatchesReferenceF
theorem own : ownKnob Tryd.prog.godebug = none := by kernel_rfl
theorem laidOut : laidOutB Tryd.prog = true := by kernel_rfl
theorem gT : Tryd.prog.globalNamed "toll/sha.constants" = some 0 := by kernel_rfl
theorem gTType : (Tryd.prog.globals[0]?).map (·.type) = some 141 := by kernel_rfl
theorem door_met (os : Os) (args : Array Value) : laidMetH Tryd.prog Rows.ticketMatchesReferenceRow.laid ((World.doorLaid Tryd.prog 400 os).forCall (fun _ _ => 0) ⟨#[], args, []⟩).memory :=
  laidMetH_of_parts3 (fuel := 8) (laidMet_of_run' 8 (by kernel_rfl) (by kernel_rfl)) (by kernel_rfl) (by kernel_rfl)
theorem of_laid {W : World} (h : laidMetH Tryd.prog Rows.ticketMatchesReferenceRow.laid W) : Consts W Sha.tab := fun i hi => by
  rw [MakeChecks.laidMetH_plain _ _ _ (by kernel_rfl)] at h
  have hT := Lib.tabIs_of_head (k := .u32) (zs := Sha.tableL.map fun n : Nat => (n : Int)) gT gTType Tryd.underlying141 Tryd.underlying49 (by kernel_rfl) (by kernel_rfl) h
  have hl : i < Sha.tableL.length := hi
  rw [hT.cell gT i (by simpa using hl)]
  simp [Sha.tab, List.getD, hl]
set_option maxRecDepth 100000 in
theorem lifted (os : Os) (started : os.Started) (H : Type) (enc : TypeId × Value → H) :
    ReturnsInHanded {} Tryd.checked os 3 .any (fun w args => (Rows.ticketMatchesReferenceSpec.pre enc Tryd.prog Tryd.f3 [] false w args ∧ laidMetH Tryd.prog Rows.ticketMatchesReferenceRow.laid w) ∧ sizedMet enc Tryd.prog Tryd.f3 (OpenSpec.ofChange Rows.ticketMatchesReferenceSpec) false w args)
      (Rows.ticketMatchesReferenceSpec.post enc Tryd.prog Tryd.f3 false true false false) := by
  refine returnsInHanded_of_change_and (C := Tryd.checked) (X := fun w _ => laidMetH Tryd.prog Rows.ticketMatchesReferenceRow.laid w) (fun _ _ _ hh h => h.of_heap hh) own started (by kernel_rfl) Tryd.func3
    (ChangeSpec.witness_shaped (enc := enc) (C := Tryd.checked) (os := os) (X := fun w _ => laidMetH Tryd.prog Rows.ticketMatchesReferenceRow.laid w) false (World.doorLaid Tryd.prog 400 os) #[.agg #[.string ByteArray.empty, .slice none 0 0, .int .i64 0, .int .i64 0, .int .u8 0, .int .u8 0, .int .u8 0, .int .u8 0, .int .u8 0, .int .u8 0, .int .u8 0, .int .u8 0, .int .u8 0, .int .u8 0, .int .u8 0, .int .u8 0, .int .u8 0, .int .u8 0, .int .u8 0, .int .u8 0]] 8 rfl (World.shaped_of_RefB (by kernel_rfl) (by kernel_rfl)) (by kernel_rfl) (by kernel_rfl) (by kernel_rfl) (door_met os _)) ?_
  intro W base args ds gs before hval0 hW _ _ hL _
  have hK := of_laid hL
  have hval : ∀ (j : Nat) t v, Tryd.f3.params[j]? = some t → args[j]? = some v → Value.okWide Tryd.prog W .any base t v := hval0
  have hW' := hW
  obtain ⟨p, q, hA0, hV, rfl, _, _⟩ := hW
  have hA : DataW.TrodAll enc Tryd.prog W 0 (fun _ => true) true Tryd.f3.params.toList args.toList ds p := hA0
  rw [Tryd.params3] at hA hval
  obtain ⟨v0, vs0, d0, ds0, p0, q0, hargs, rfl, rfl, h0, r0⟩ := trodAll_cons hA
  obtain ⟨rfl, rfl, rfl⟩ := trodAll_nil r0
  obtain rfl : args = #[v0] := by cases args; simp_all
  obtain ⟨rfl, rfl⟩ := trodVars_none hV
  have k0 := h0
  have lt0 : ∀ x ∈ p0, x.block < W.heap.size := by obtain ⟨m, hm⟩ := k0; exact DataW.trod_lt m _ _ _ hm
  obtain ⟨q0, u0, ss0, s0, e0, key0, rfl, w0, x0, ws0, we0, wk0⟩ := open_ticket (hval 0 27 v0 rfl rfl) h0
  refine (ticketMatchesReference_walk W q0 w0 u0 ss0 x0 s0 e0 ws0 we0 key0 wk0 hK).mono fun e W' ⟨he, bel⟩ => ?_
  subst he
  exact ⟨_, rfl, _, _, _, [], _, [], hW', trodAll_mk1 (shut_bool Tryd.underlying4 _), (trodAll_cons_mk (Below.trod laidOut (by kernel_rfl) (of_decide_eq_true (by kernel_rfl)) k0 bel lt0) trodAll_mk0), rfl, bel.frame _, fun h => by cases h⟩
theorem over : Rows.ticketMatchesReferenceRow.holds Tryd.pinned (OpenSpec.ofChange Rows.ticketMatchesReferenceSpec) :=
  OpenClaim.holds_of_wide 3 Tryd.f3 rfl rfl rfl rfl rfl rfl rfl ⟨rfl, rfl, rfl, rfl, rfl⟩ rfl rfl rfl rfl rfl (by kernel_rfl) Tryd.func3 (by kernel_rfl)
    (of_decide_eq_true (by kernel_rfl)) (by unfold Func.isWrapper; first | (rw [if_pos (by decide +kernel)]; kernel_rfl) | (rw [if_neg (by decide +kernel)]; exact ⟨rfl, rfl⟩))
    (fun os started H enc _ => lifted os started H enc)
end ticketMatchesReferenceF
/-- The row. -/
theorem ticketMatchesReference_row : Rows.TicketMatchesReferenceSaid := ticketMatchesReferenceF.over
/-- The statement: the card. -/
theorem ticketMatchesReference_holds : Rows.TicketMatchesReferenceCardSaid :=
  Claim7.holds_tied_plain_at .later [] [.data] true Rows.ticketMatchesReferenceCard.stood.harness false
    ticketMatchesReference_row (fun _ h => by cases h) (by kernel_rfl) (fun _ h => by cases h) ticketMatchesReference_row_tie rfl ⟨rfl, rfl⟩ (by kernel_rfl) rfl
    (fun f fn hf hfn => by
      obtain rfl : f = 3 := Option.some.inj ((show Tryd.prog.funcNamed "toll/tolllaw12.TicketMatchesReference" = some 3 by kernel_rfl).symm.trans hf) |>.symm
      obtain rfl : fn = Tryd.f3 := (Option.some.inj (Tryd.func3.symm.trans hfn)).symm
      exact ⟨by kernel_rfl, fun j t ht => by
        rw [Tryd.params3] at ht
        have hm : t ∈ [27] := by simpa using Array.mem_of_getElem? ht
        have hall : ([27].all fun u => !Tryd.prog.wantsStandIn u) = true := by kernel_rfl
        exact (show Tryd.prog.wantsStandIn t = false by simpa using List.all_eq_true.1 hall t hm)⟩)
    (by kernel_rfl)
#print axioms ticketMatchesReference_holds
end Go.Proofs.YtnhchdkchohnbaaDoor
