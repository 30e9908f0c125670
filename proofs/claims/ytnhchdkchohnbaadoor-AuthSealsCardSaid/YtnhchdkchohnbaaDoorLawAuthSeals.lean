/- An authenticator is sealed as in the reference implementation, and opened again; others are not sealed: for every key, nonce and authenticator the law returns true. The variable sha.constants reads as the program's text lays it. -/
import Derived.Test.YtnhchdkchohnbaaDoorAutG
namespace Go.Proofs.YtnhchdkchohnbaaDoor
open Go.ChangeShapes Go.WideShapes Go.ChangeAt Go.RowKit Go.Deep

set_option maxRecDepth 100000 in
set_option maxHeartbeats 8000000 in
theorem authSeals_out (key nonce : Nat → Nat) (_hk : Aes.B8 key) (_hn : Aes.B8 nonce) (w : World) (q : ByteArray) (hq : q.size ≤ maxLen) (u : Value) (ss : List ByteArray) (hu : Ss w u ss) (t : Int) (m s : Nat) (hm : m < 4294967296) (hs : s < 4294967296) (hf : few q ss = false) (hK : Consts w Sha.tab) :
    Calls Tryd.prog 9 #[.agg (arr .u8 16 key), .agg (arr .u8 8 nonce), .agg (au q u t m s)] w (RetBool true w) := by
  have HK := Lib.hid hK; clear hK
  obtain ⟨a0, e0, t0, G0⟩ := three_boxes w key nonce (au q u t m s) 51
  have T0 : Ab _ (w.heap.size + 1 + 1) q u ss t m s := ⟨t0, hu.only G0, hq, hm, hs⟩
  have s1 := arr_size .u8 16 key
  have s2 := arr_size .u8 8 nonce
  have s3 := au_size q u t m s
  obtain ⟨ua, uc, rfl⟩ := hu.form
  clear hu t0
  go_enter Tryd.func9, Tryd.ntmps9
  go_upto_region 1 with fail
  generalize ((w.alloc (.cells (arr .u8 16 key) 25)).alloc (.cells (arr .u8 8 nonce) 39)).alloc (.cells (au q (.slice ua ss.length uc) t m s) 51) = W0 at *
  obtain ⟨n2, hn2⟩ : ∃ n, n = w.heap.size + 1 + 1 := ⟨_, rfl⟩
  rw [← hn2] at T0 ⊢
  obtain ⟨n1, hn1⟩ : ∃ n, n = w.heap.size + 1 := ⟨_, rfl⟩
  rw [← hn1] at e0 ⊢
  obtain ⟨n0, hn0⟩ : ∃ n, n = w.heap.size := ⟨_, rfl⟩
  rw [← hn0] at a0 ⊢
  clear hn0 hn1 hn2
  go_wp2_with fail
  refine (awake_aut _ (HK.out.below (below_of_only G0))).mono ?_
  rintro x w1 ⟨rfl, h1⟩
  have T1 := T0.only (only_of_below h1 none)
  have A1 := a0.only (only_of_below h1 none)
  have N1 := e0.only (only_of_below h1 none)
  have G1 := only_trans G0 (only_of_below h1 none)
  clear T0 a0 e0 G0 h1
  go_wp2_with (refine wpList_load_rowG (by kernel_rfl) _ _ rfl n2 rfl _ _ (0, 0) _ T1.1 rfl rfl (info_au _ _ _ _ _) ?_)
  refine (refaufew_any q _ ss t m s w1 hq T1.2.1).mono ?_
  rintro x w2 ⟨rfl, g2⟩
  rw [hf]
  have T2 := T1.only g2
  have A2 := A1.only g2
  have N2 := N1.only g2
  have G2 := only_trans G1 g2
  clear T1 A1 N1 G1 g2
  go_wp2_with fail
  refine (awake_aut _ (HK.out.below (below_of_only G2))).mono ?_
  rintro x w3 ⟨rfl, h3⟩
  have G3 := only_trans G2 (only_of_below h3 none)
  go_wp2_with fail
  go_ret
  exact ⟨rfl, below_of_only G3⟩
set_option maxRecDepth 100000 in
set_option maxHeartbeats 8000000 in
theorem authSeals_bad (key nonce : Nat → Nat) (hk : Aes.B8 key) (hn : Aes.B8 nonce) (w : World) (q : ByteArray) (hq : q.size ≤ maxLen) (u : Value) (ss : List ByteArray) (hu : Ss w u ss) (t : Int) (m s : Nat) (hm : m < 4294967296) (hs : s < 4294967296) (hf : few q ss = true) (hv : Aut.valid (aut q ss t m s) = false) (hK : Consts w Sha.tab) :
    Calls Tryd.prog 9 #[.agg (arr .u8 16 key), .agg (arr .u8 8 nonce), .agg (au q u t m s)] w (RetBool true w) := by
  have HK := Lib.hid hK; clear hK
  obtain ⟨a0, e0, t0, G0⟩ := three_boxes w key nonce (au q u t m s) 51
  have T0 : Ab _ (w.heap.size + 1 + 1) q u ss t m s := ⟨t0, hu.only G0, hq, hm, hs⟩
  have s1 := arr_size .u8 16 key
  have s2 := arr_size .u8 8 nonce
  have s3 := au_size q u t m s
  obtain ⟨ua, uc, rfl⟩ := hu.form
  clear hu t0
  go_enter Tryd.func9, Tryd.ntmps9
  go_upto_region 1 with fail
  generalize ((w.alloc (.cells (arr .u8 16 key) 25)).alloc (.cells (arr .u8 8 nonce) 39)).alloc (.cells (au q (.slice ua ss.length uc) t m s) 51) = W0 at *
  obtain ⟨n2, hn2⟩ : ∃ n, n = w.heap.size + 1 + 1 := ⟨_, rfl⟩
  rw [← hn2] at T0 ⊢
  obtain ⟨n1, hn1⟩ : ∃ n, n = w.heap.size + 1 := ⟨_, rfl⟩
  rw [← hn1] at e0 ⊢
  obtain ⟨n0, hn0⟩ : ∃ n, n = w.heap.size := ⟨_, rfl⟩
  rw [← hn0] at a0 ⊢
  clear hn0 hn1 hn2
  go_wp2_with fail
  refine (awake_aut _ (HK.out.below (below_of_only G0))).mono ?_
  rintro x w1 ⟨rfl, h1⟩
  have T1 := T0.only (only_of_below h1 none)
  have A1 := a0.only (only_of_below h1 none)
  have N1 := e0.only (only_of_below h1 none)
  have G1 := only_trans G0 (only_of_below h1 none)
  clear T0 a0 e0 G0 h1
  go_wp2_with (refine wpList_load_rowG (by kernel_rfl) _ _ rfl n2 rfl _ _ (0, 0) _ T1.1 rfl rfl (info_au _ _ _ _ _) ?_)
  refine (refaufew_any q _ ss t m s w1 hq T1.2.1).mono ?_
  rintro x w2 ⟨rfl, g2⟩
  rw [hf]
  have T2 := T1.only g2
  have A2 := A1.only g2
  have N2 := N1.only g2
  have G2 := only_trans G1 g2
  clear T1 A1 N1 G1 g2
  go_wp2_with (first | refine wpList_load_row rfl _ _ rfl n0 rfl _ _ (0, 0) _ A2 rfl rfl (info16s _) ?_ | refine wpList_load_row rfl _ _ rfl n1 rfl _ _ (0, 0) _ N2 rfl rfl (info8s _) ?_ | refine wpList_load_row rfl _ _ rfl n2 rfl _ _ (0, 0) _ T2.1 rfl rfl (info_au _ _ _ _ _) ?_)
  refine (auseal_any key nonce q _ ss t m s w2 hk hn hq hm hs T2.2.1 (HK.out.below (below_of_only G2))).mono ?_
  rintro x w3 ⟨hb3, hp⟩
  rw [hv] at hp
  rcases hp with ⟨_, rfl⟩ | ⟨_, _, hno, _⟩
  rotate_left
  · cases hno
  have T3 := T2.only (only_of_below hb3 none)
  have G3 := only_trans G2 (only_of_below hb3 none)
  clear T2 A2 N2 G2 hb3
  go_wp2_with (refine wpList_load_row rfl _ _ rfl n2 rfl _ _ (0, 0) _ T3.1 rfl rfl (info_au _ _ _ _ _) ?_)
  refine (refauvalid_any q _ ss t m s w3 hq T3.2.1).mono ?_
  rintro x w4 ⟨rfl, g4⟩
  rw [hv]
  have G4 := only_trans G3 g4
  go_wp2_with fail
  go_ret
  exact ⟨rfl, below_of_only G4⟩
set_option maxRecDepth 100000 in
set_option maxHeartbeats 8000000 in
attribute [local irreducible] wpAnyH in
theorem authSeals_good (key nonce : Nat → Nat) (hk : Aes.B8 key) (hn : Aes.B8 nonce) (w : World) (q : ByteArray) (hq : q.size ≤ maxLen) (u : Value) (ss : List ByteArray) (hu : Ss w u ss) (t : Int) (m s : Nat) (hm : m < 4294967296) (hs : s < 4294967296) (hf : few q ss = true) (hv : Aut.valid (aut q ss t m s) = true) (hK : Consts w Sha.tab) :
    Calls Tryd.prog 9 #[.agg (arr .u8 16 key), .agg (arr .u8 8 nonce), .agg (au q u t m s)] w (RetBool true w) := by
  have HK := Lib.hid hK; clear hK
  obtain ⟨a0, e0, t0, G0⟩ := three_boxes w key nonce (au q u t m s) 51
  have T0 : Ab _ (w.heap.size + 1 + 1) q u ss t m s := ⟨t0, hu.only G0, hq, hm, hs⟩
  have s1 := arr_size .u8 16 key
  have s2 := arr_size .u8 8 nonce
  have s3 := au_size q u t m s
  obtain ⟨ua, uc, rfl⟩ := hu.form
  clear hu t0
  go_enter Tryd.func9, Tryd.ntmps9
  go_upto_region 1 with fail
  generalize ((w.alloc (.cells (arr .u8 16 key) 25)).alloc (.cells (arr .u8 8 nonce) 39)).alloc (.cells (au q (.slice ua ss.length uc) t m s) 51) = W0 at *
  obtain ⟨n2, hn2⟩ : ∃ n, n = w.heap.size + 1 + 1 := ⟨_, rfl⟩
  rw [← hn2] at T0 ⊢
  obtain ⟨n1, hn1⟩ : ∃ n, n = w.heap.size + 1 := ⟨_, rfl⟩
  rw [← hn1] at e0 ⊢
  obtain ⟨n0, hn0⟩ : ∃ n, n = w.heap.size := ⟨_, rfl⟩
  rw [← hn0] at a0 ⊢
  clear hn0 hn1 hn2
  go_wp2_with fail
  refine (awake_aut _ (HK.out.below (below_of_only G0))).mono ?_
  rintro x w1 ⟨rfl, h1⟩
  have T1 := T0.only (only_of_below h1 none)
  have A1 := a0.only (only_of_below h1 none)
  have N1 := e0.only (only_of_below h1 none)
  have G1 := only_trans G0 (only_of_below h1 none)
  clear T0 a0 e0 G0 h1
  go_wp2_with (refine wpList_load_rowG (by kernel_rfl) _ _ rfl n2 rfl _ _ (0, 0) _ T1.1 rfl rfl (info_au _ _ _ _ _) ?_)
  refine (refaufew_any q _ ss t m s w1 hq T1.2.1).mono ?_
  rintro x w2 ⟨rfl, g2⟩
  rw [hf]
  have T2 := T1.only g2
  have A2 := A1.only g2
  have N2 := N1.only g2
  have G2 := only_trans G1 g2
  clear T1 A1 N1 G1 g2
  have HVV := Lib.hid hv
  have hbl := Aut.bytes_len hv
  have hpb := Aut.parse_bytes hv hs
  have HRB := fun (W : World) (h : Ss W (.slice ua ss.length uc) ss) => refaubytes_any q _ ss t m s W hq hm hs h hv
  have hsl := Sea.seal_length key 11 nonce (Aut.bytes (aut q ss t m s))
  have hop := Aut.opn_yes (Sea.op_seal key 11 nonce (Aut.bytes (aut q ss t m s))) hpb
  clear hv hpb
  go_wp2_with (first | refine wpList_load_row rfl _ _ rfl n0 rfl _ _ (0, 0) _ A2 rfl rfl (info16s _) ?_ | refine wpList_load_row rfl _ _ rfl n1 rfl _ _ (0, 0) _ N2 rfl rfl (info8s _) ?_ | refine wpList_load_row rfl _ _ rfl n2 rfl _ _ (0, 0) _ T2.1 rfl rfl (info_au _ _ _ _ _) ?_)
  refine (auseal_any key nonce q _ ss t m s w2 hk hn hq hm hs T2.2.1 (HK.out.below (below_of_only G2))).mono ?_
  rintro x w3 ⟨hb3, hp⟩
  rw [if_pos HVV.out] at hp
  generalize Aut.bytes (aut q ss t m s) = BB at *
  generalize hSS : Sea.sld key 11 nonce BB = SS at *
  have HSS := Lib.hid hSS
  have HOP := Lib.hid hop
  have HBL := Lib.hid hbl
  have HSL := Lib.hid (show SS.length ≤ 1000 by omega)
  clear hSS hop hbl hsl
  rcases hp with ⟨hno, _⟩ | ⟨l3, v3, hl3, rfl, o3⟩
  · cases hno
  cases hl3
  obtain ⟨a5, c5, rfl⟩ := o3.form
  have T3 := T2.only (only_of_below hb3 none)
  have A3 := A2.only (only_of_below hb3 none)
  have N3 := N2.only (only_of_below hb3 none)
  have G3 := only_trans G2 (only_of_below hb3 none)
  have O3 := Lib.hid o3.bs.rs
  clear T2 A2 N2 G2 hb3 o3
  go_wp2_with (refine wpList_load_row rfl _ _ rfl n2 rfl _ _ (0, 0) _ T3.1 rfl rfl (info_au _ _ _ _ _) ?_)
  refine (refauvalid_any q _ ss t m s w3 hq T3.2.1).mono ?_
  rintro x w4 ⟨rfl, g4⟩
  rw [HVV.out]
  have T4 := T3.only g4
  have A4 := A3.only g4
  have N4 := N3.only g4
  have G4 := only_trans G3 g4
  have O4 := Lib.hid (O3.out.below (below_of_only g4))
  clear T3 A3 N3 G3 g4 O3
  go_wp2_with (refine wpList_load_row rfl _ _ rfl n0 rfl _ _ (0, 0) _ A4 rfl rfl (info16s _) ?_)
  refine (auopen_any key _ SS w4 hk O4.out (by have := HSL.out; omega) (HK.out.below (below_of_only G4))).mono ?_
  rintro x w6 ⟨hb6, q6, u6, ss6, t6, m6, s6, rfl, o6, hq6, hm6, hs6, ht6⟩
  rw [HOP.out] at ht6 ⊢
  have ht6 : aut q6 ss6 t6 m6 s6 = aut q ss t m s := ht6
  obtain ⟨ua6, uc6, rfl⟩ := o6.ss.form
  have F := fresh_row w6 #[.string ⟨#[]⟩, .slice none 0 0, .int .i64 0, .int .u32 0, .int .u32 0] (au q6 (.slice ua6 ss6.length uc6) t6 m6 s6) 51
  have P7 : Ab _ w6.heap.size q6 _ ss6 t6 m6 s6 := ⟨F.1, o6.ss.only F.2, hq6, hm6, hs6⟩
  have F6 := only_trans (only_of_below hb6 none) F.2
  have T7 := T4.only F6
  have A7 := A4.only F6
  have N7 := N4.only F6
  have O7 := Lib.hid (O4.out.below (below_of_only F6))
  have G7 := only_trans G4 F6
  clear o6 G4 T4 A4 N4 O4 F6
  go_upto_region 7 with (refine wpList_store_rowTo rfl _ _ _ rfl rfl w6.heap.size _ rfl rfl _ _ (heap_alloc_new _ _) (info_au _ _ _ _ _) (by rw [au_size]; rfl) (au_one _ _ _ _ _ rfl) ?_)
  generalize World.setRow _ w6.heap.size _ = W7 at *
  generalize w6.heap.size = b6 at *
  clear F hb6
  have HSM := Lib.hid (asame_of ht6)
  clear ht6 s1 s2 s3
  refine wp_reg Tryd.f9 7 20 (fun w' => Below W7.heap.size W7 w') (by kernel_rfl) (by kernel_rfl) (by kernel_rfl) (below_drewN (Below.refl _ _) 1) (fun K hK h0 => ?_)
  refine reg_cast (listed' := #[false, false, false, false, false, false, false, false, false, false, false, false, false, false, false, false, false, false, false, false]) (by kernel_rfl) rfl ?_
  have HF := Lib.hid hK; clear hK
  refine reg_take 0 42 (.bool true) (by kernel_rfl) (fun _ _ => by kernel_rfl) h0 ?_
  simp only [Act.put, List.setIfInBounds_toArray, List.set_cons_zero, List.set_cons_succ]
  refine reg_take 1 43 (.bool true) (by kernel_rfl) (fun _ _ => by kernel_rfl) h0 ?_
  simp only [Act.put, List.setIfInBounds_toArray, List.set_cons_zero, List.set_cons_succ]
  refine reg_take 2 44 (.slice a5 SS.length c5) (by kernel_rfl) (fun _ _ => by kernel_rfl) h0 ?_
  simp only [Act.put, List.setIfInBounds_toArray, List.set_cons_zero, List.set_cons_succ]
  refine reg_load 3 45 (by kernel_rfl) 25 (.tmp 3) (by kernel_rfl) ⟨n0, 0, none⟩ (by kernel_rfl) (arr .u8 16 key) _ (fun w' hw' => (A7.below hw' A7.lt).cells) Tryd.underlying25 rfl (by kernel_rfl) h0 ?_
  simp only [Act.put, List.setIfInBounds_toArray, List.set_cons_zero, List.set_cons_succ]
  refine reg_load 4 46 (by kernel_rfl) 39 (.tmp 4) (by kernel_rfl) ⟨n1, 0, none⟩ (by kernel_rfl) (arr .u8 8 nonce) _ (fun w' hw' => (N7.below hw' N7.lt).cells) Tryd.underlying39 rfl (by kernel_rfl) h0 ?_
  simp only [Act.put, List.setIfInBounds_toArray, List.set_cons_zero, List.set_cons_succ]
  refine reg_load 5 47 (by kernel_rfl) 51 (.tmp 5) (by kernel_rfl) ⟨n2, 0, none⟩ (by kernel_rfl) (au q (.slice ua ss.length uc) t m s) _ (fun w' hw' => (T7.below hw').cells) Tryd.underlying51 rfl (by kernel_rfl) h0 ?_
  simp only [Act.put, List.setIfInBounds_toArray, List.set_cons_zero, List.set_cons_succ]
  refine reg_one 6 (by kernel_rfl) (by kernel_rfl) (HStep.call (some 48) (by kernel_rfl) (by kernel_rfl) 34 #[.agg (au q (.slice ua ss.length uc) t m s)] (by kernel_rfl) ?_)
  refine (HRB _ (T7.below h0).2.1).mono ?_
  rintro e w11 ⟨vB, rfl, oB, hq'⟩
  obtain ⟨xB, yB, rfl⟩ := oB.form
  have hb_11 := hq'
  have h_11 := h0.trans (hb_11.mono h0.size)
  refine ⟨_, rfl, h_11, ?_⟩
  simp only [Act.put, List.setIfInBounds_toArray, List.set_cons_zero, List.set_cons_succ]
  refine reg_one 7 (by kernel_rfl) (by kernel_rfl) (HStep.call (some 49) (by kernel_rfl) (by kernel_rfl) 25 #[.agg (arr .u8 16 key), .int .u8 11, .agg (arr .u8 8 nonce), .slice xB BB.length yB] (by kernel_rfl) ?_)
  refine (refseal_lit key nonce 11 11 rfl _ BB _ hk hn (by omega) oB.bs.rs (by have := HBL.out; omega)).mono ?_
  rintro e w12 ⟨vS, rfl, oS, hq'⟩
  rw [HSS.out] at oS
  obtain ⟨xS, yS, rfl⟩ := oS.form
  have hb_12 := hq'
  have h_12 := h_11.trans (hb_12.mono h_11.size)
  have oB := oB.below hb_12
  refine ⟨_, rfl, h_12, ?_⟩
  simp only [Act.put, List.setIfInBounds_toArray, List.set_cons_zero, List.set_cons_succ]
  refine reg_one 8 (by kernel_rfl) (by kernel_rfl) (HStep.call (some 50) (by kernel_rfl) (by kernel_rfl) 19 #[.slice a5 SS.length c5, .slice xS SS.length yS] (by kernel_rfl) ?_)
  refine (same_yes _ _ SS _ (O7.out.below h_12) oS.bs.rs).mono ?_
  rintro e w13 ⟨rfl, hq'⟩
  have hb_13 := hq'
  have h_13 := h_12.trans (hb_13.mono h_12.size)
  have oB := oB.below hb_13
  have oS := oS.below hb_13
  refine ⟨_, rfl, h_13, ?_⟩
  simp only [Act.put, List.setIfInBounds_toArray, List.set_cons_zero, List.set_cons_succ]
  refine reg_take 9 51 (.bool true) (by kernel_rfl) (fun _ _ => by kernel_rfl) h_13 ?_
  simp only [Act.put, List.setIfInBounds_toArray, List.set_cons_zero, List.set_cons_succ]
  refine reg_take 10 52 (.bool true) (by kernel_rfl) (fun _ _ => by kernel_rfl) h_13 ?_
  simp only [Act.put, List.setIfInBounds_toArray, List.set_cons_zero, List.set_cons_succ]
  refine reg_take 11 53 (.int .i64 0) (by kernel_rfl) (fun _ _ => by kernel_rfl) h_13 ?_
  simp only [Act.put, List.setIfInBounds_toArray, List.set_cons_zero, List.set_cons_succ]
  refine reg_take 12 54 (.bool true) (by kernel_rfl) (fun _ _ => by kernel_rfl) h_13 ?_
  simp only [Act.put, List.setIfInBounds_toArray, List.set_cons_zero, List.set_cons_succ]
  refine reg_take 13 55 (.bool true) (by kernel_rfl) (fun _ _ => by kernel_rfl) h_13 ?_
  simp only [Act.put, List.setIfInBounds_toArray, List.set_cons_zero, List.set_cons_succ]
  refine reg_take 14 56 (.bool true) (by kernel_rfl) (fun _ _ => by kernel_rfl) h_13 ?_
  simp only [Act.put, List.setIfInBounds_toArray, List.set_cons_zero, List.set_cons_succ]
  refine reg_load 15 57 (by kernel_rfl) 51 (.tmp 9) (by kernel_rfl) ⟨b6, 0, none⟩ (by kernel_rfl) (au q6 (.slice ua6 ss6.length uc6) t6 m6 s6) _ (fun w' hw' => (P7.below hw').cells) Tryd.underlying51 rfl (by kernel_rfl) h_13 ?_
  simp only [Act.put, List.setIfInBounds_toArray, List.set_cons_zero, List.set_cons_succ]
  refine reg_load 16 58 (by kernel_rfl) 51 (.tmp 5) (by kernel_rfl) ⟨n2, 0, none⟩ (by kernel_rfl) (au q (.slice ua ss.length uc) t m s) _ (fun w' hw' => (T7.below hw').cells) Tryd.underlying51 rfl (by kernel_rfl) h_13 ?_
  simp only [Act.put, List.setIfInBounds_toArray, List.set_cons_zero, List.set_cons_succ]
  refine reg_one 17 (by kernel_rfl) (by kernel_rfl) (HStep.call (some 59) (by kernel_rfl) (by kernel_rfl) 36 #[.agg (au q6 (.slice ua6 ss6.length uc6) t6 m6 s6), .agg (au q (.slice ua ss.length uc) t m s)] (by kernel_rfl) ?_)
  refine (refausame_any q6 q _ _ ss6 ss t6 t m6 s6 m s _ hq6 hq (P7.below h_13).2.1 (T7.below h_13).2.1).mono ?_
  rintro e w14 ⟨rfl, hg⟩
  rw [HSM.out]
  have hb_14 := below_of_only hg
  have h_14 := h_13.trans (hb_14.mono h_13.size)
  have oB := oB.below hb_14
  have oS := oS.below hb_14
  refine ⟨_, rfl, h_14, ?_⟩
  simp only [Act.put, List.setIfInBounds_toArray, List.set_cons_zero, List.set_cons_succ]
  refine reg_take 18 60 (.bool true) (by kernel_rfl) (fun _ _ => by kernel_rfl) h_14 ?_
  simp only [Act.put, List.setIfInBounds_toArray, List.set_cons_zero, List.set_cons_succ]
  refine reg_take 19 6 (.bool true) (by kernel_rfl) (fun _ _ => by kernel_rfl) h_14 ?_
  simp only [Act.put, List.setIfInBounds_toArray, List.set_cons_zero, List.set_cons_succ]
  refine reg_done (by kernel_rfl) (HF.out _ _ ?_)
  have G8 := only_trans G7 (only_of_below h_14 none)
  go_wp2_with fail
  go_ret
  exact ⟨rfl, below_of_only G8⟩
theorem authSeals_walk (w : World) (f : Nat → Int) (wf : ∀ j, j < 16 → (Lit.int .u8 (f j)).wf = true) (g : Nat → Int) (wg : ∀ j, j < 8 → (Lit.int .u8 (g j)).wf = true) (q : ByteArray) (hq : q.size ≤ maxLen) (u : Value) (ss : List ByteArray) (hu : Ss w u ss) (t : Int) (_wt : (Lit.int .i64 t).wf = true) (m : Nat) (hm : m < 4294967296) (s : Nat) (hs : s < 4294967296) (hK : Consts w Sha.tab) :
    Calls Tryd.prog 9 #[.agg ((List.range 16).map fun i => Value.int .u8 (f i)).toArray, .agg ((List.range 8).map fun i => Value.int .u8 (g i)).toArray, .agg (au q u t m s)] w (RetBool true w) := by
  obtain ⟨key, hk, e1⟩ := bytes_arg f wf
  obtain ⟨nonce, hn, e2⟩ := bytes_arg g wg
  rw [e1, e2]
  cases hf : few q ss
  · exact authSeals_out key nonce hk hn w q hq u ss hu t m s hm hs hf hK
  · cases hv : Aut.valid (aut q ss t m s)
    · exact authSeals_bad key nonce hk hn w q hq u ss hu t m s hm hs hf hv hK
    · exact authSeals_good key nonce hk hn w q hq u ss hu t m s hm hs hf hv hK

/-! ### THE ROW's STEP -/
namespace authSealsF
theorem own : ownKnob Tryd.prog.godebug = none := by kernel_rfl
theorem laidOut : laidOutB Tryd.prog = true := by kernel_rfl
theorem gT : Tryd.prog.globalNamed "toll/sha.constants" = some 0 := by kernel_rfl
theorem gTType : (Tryd.prog.globals[0]?).map (·.type) = some 141 := by kernel_rfl
theorem door_met (os : Os) (args : Array Value) : laidMetH Tryd.prog Rows.authSealsRow.laid ((World.doorLaid Tryd.prog 400 os).forCall (fun _ _ => 0) ⟨#[], args, []⟩).memory :=
  laidMetH_of_parts3 (fuel := 8) (laidMet_of_run' 8 (by kernel_rfl) (by kernel_rfl)) (by kernel_rfl) (by kernel_rfl)
theorem of_laid {W : World} (h : laidMetH Tryd.prog Rows.authSealsRow.laid W) : Consts W Sha.tab := fun i hi => by
  rw [MakeChecks.laidMetH_plain _ _ _ (by kernel_rfl)] at h
  have hT := Lib.tabIs_of_head (k := .u32) (zs := Sha.tableL.map fun n : Nat => (n : Int)) gT gTType Tryd.underlying141 Tryd.underlying49 (by kernel_rfl) (by kernel_rfl) h
  have hl : i < Sha.tableL.length := hi
  rw [hT.cell gT i (by simpa using hl)]
  simp [Sha.tab, List.getD, hl]
set_option maxRecDepth 100000 in
theorem lifted (os : Os) (started : os.Started) (H : Type) (enc : TypeId × Value → H) :
    ReturnsInHanded {} Tryd.checked os 9 .any (fun w args => (Rows.authSealsSpec.pre enc Tryd.prog Tryd.f9 [] false w args ∧ laidMetH Tryd.prog Rows.authSealsRow.laid w) ∧ sizedMet enc Tryd.prog Tryd.f9 (OpenSpec.ofChange Rows.authSealsSpec) false w args)
      (Rows.authSealsSpec.post enc Tryd.prog Tryd.f9 false true false false) := by
  refine returnsInHanded_of_change_and (C := Tryd.checked) (X := fun w _ => laidMetH Tryd.prog Rows.authSealsRow.laid w) (fun _ _ _ hh h => h.of_heap hh) own started (by kernel_rfl) Tryd.func9
    (ChangeSpec.witness_shaped (enc := enc) (C := Tryd.checked) (os := os) (X := fun w _ => laidMetH Tryd.prog Rows.authSealsRow.laid w) false (World.doorLaid Tryd.prog 400 os) #[.agg #[.int .u8 0, .int .u8 0, .int .u8 0, .int .u8 0, .int .u8 0, .int .u8 0, .int .u8 0, .int .u8 0, .int .u8 0, .int .u8 0, .int .u8 0, .int .u8 0, .int .u8 0, .int .u8 0, .int .u8 0, .int .u8 0], .agg #[.int .u8 0, .int .u8 0, .int .u8 0, .int .u8 0, .int .u8 0, .int .u8 0, .int .u8 0, .int .u8 0], .agg #[.string ByteArray.empty, .slice none 0 0, .int .i64 0, .int .u32 0, .int .u32 0]] 8 rfl (World.shaped_of_RefB (by kernel_rfl) (by kernel_rfl)) (by kernel_rfl) (by kernel_rfl) (by kernel_rfl) (door_met os _)) ?_
  intro W base args ds gs before hval0 hW _ _ hL _
  have hK := of_laid hL
  have hval : ∀ (j : Nat) t v, Tryd.f9.params[j]? = some t → args[j]? = some v → Value.okWide Tryd.prog W .any base t v := hval0
  have hW' := hW
  obtain ⟨p, q, hA0, hV, rfl, _, _⟩ := hW
  have hA : DataW.TrodAll enc Tryd.prog W 0 (fun _ => true) true Tryd.f9.params.toList args.toList ds p := hA0
  rw [Tryd.params9] at hA hval
  obtain ⟨v0, vs0, d0, ds0, p0, q0, hargs, rfl, rfl, h0, r0⟩ := trodAll_cons hA
  obtain ⟨v1, vs1, d1, ds1, p1, q1, rfl, rfl, rfl, h1, r1⟩ := trodAll_cons r0
  obtain ⟨v2, vs2, d2, ds2, p2, q2, rfl, rfl, rfl, h2, r2⟩ := trodAll_cons r1
  obtain ⟨rfl, rfl, rfl⟩ := trodAll_nil r2
  obtain rfl : args = #[v0, v1, v2] := by cases args; simp_all
  obtain ⟨rfl, rfl⟩ := trodVars_none hV
  have k0 := h0
  have lt0 : ∀ x ∈ p0, x.block < W.heap.size := by obtain ⟨m, hm⟩ := k0; exact DataW.trod_lt m _ _ _ hm
  obtain ⟨a0, rfl, w0⟩ := open_int_array Tryd.underlying25 Tryd.underlying5 (by kernel_rfl) (by kernel_rfl) (hval 0 25 v0 rfl rfl) h0
  have k1 := h1
  have lt1 : ∀ x ∈ p1, x.block < W.heap.size := by obtain ⟨m, hm⟩ := k1; exact DataW.trod_lt m _ _ _ hm
  obtain ⟨a1, rfl, w1⟩ := open_int_array Tryd.underlying39 Tryd.underlying5 (by kernel_rfl) (by kernel_rfl) (hval 1 39 v1 rfl rfl) h1
  have k2 := h2
  have lt2 : ∀ x ∈ p2, x.block < W.heap.size := by obtain ⟨m, hm⟩ := k2; exact DataW.trod_lt m _ _ _ hm
  obtain ⟨q2, u2, ss2, t2, m2, s2, rfl, w2, x2, wt2, wm2, ws2⟩ := open_auth (hval 2 51 v2 rfl rfl) h2
  refine (authSeals_walk W a0 w0 a1 w1 q2 w2 u2 ss2 x2 t2 wt2 m2 wm2 s2 ws2 hK).mono fun e W' ⟨he, bel⟩ => ?_
  subst he
  exact ⟨_, rfl, _, _, _, [], _, [], hW', trodAll_mk1 (shut_bool Tryd.underlying4 _), (trodAll_cons_mk (Below.trod laidOut (by kernel_rfl) (of_decide_eq_true (by kernel_rfl)) k0 bel lt0) (trodAll_cons_mk (Below.trod laidOut (by kernel_rfl) (of_decide_eq_true (by kernel_rfl)) k1 bel lt1) (trodAll_cons_mk (Below.trod laidOut (by kernel_rfl) (of_decide_eq_true (by kernel_rfl)) k2 bel lt2) trodAll_mk0))), rfl, bel.frame _, fun h => by cases h⟩
theorem over : Rows.authSealsRow.holds Tryd.pinned (OpenSpec.ofChange Rows.authSealsSpec) :=
  OpenClaim.holds_of_wide 9 Tryd.f9 rfl rfl rfl rfl rfl rfl rfl ⟨rfl, rfl, rfl, rfl, rfl⟩ rfl rfl rfl rfl rfl (by kernel_rfl) Tryd.func9 (by kernel_rfl)
    (of_decide_eq_true (by kernel_rfl)) (by unfold Func.isWrapper; first | (rw [if_pos (by decide +kernel)]; kernel_rfl) | (rw [if_neg (by decide +kernel)]; exact ⟨rfl, rfl⟩))
    (fun os started H enc _ => lifted os started H enc)
end authSealsF
/-- The row. -/
theorem authSeals_row : Rows.AuthSealsSaid := authSealsF.over
/-- The statement: the card. -/
theorem authSeals_holds : Rows.AuthSealsCardSaid :=
  Claim7.holds_tied_plain_at .later [] [.data] true Rows.authSealsCard.stood.harness false
    authSeals_row (fun _ h => by cases h) (by kernel_rfl) (fun _ h => by cases h) authSeals_row_tie rfl ⟨rfl, rfl⟩ (by kernel_rfl) rfl
    (fun f fn hf hfn => by
      obtain rfl : f = 9 := Option.some.inj ((show Tryd.prog.funcNamed "toll/tolllaw13.AuthSeals" = some 9 by kernel_rfl).symm.trans hf) |>.symm
      obtain rfl : fn = Tryd.f9 := (Option.some.inj (Tryd.func9.symm.trans hfn)).symm
      exact ⟨by kernel_rfl, fun j t ht => by
        rw [Tryd.params9] at ht
        have hm : t ∈ [25, 39, 51] := by simpa using Array.mem_of_getElem? ht
        have hall : ([25, 39, 51].all fun u => !Tryd.prog.wantsStandIn u) = true := by kernel_rfl
        exact (show Tryd.prog.wantsStandIn t = false by simpa using List.all_eq_true.1 hall t hm)⟩)
    (by kernel_rfl)
#print axioms authSeals_holds
end Go.Proofs.YtnhchdkchohnbaaDoor
