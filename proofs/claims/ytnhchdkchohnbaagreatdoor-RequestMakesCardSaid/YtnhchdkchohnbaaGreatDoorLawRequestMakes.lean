/- A right request is that of the reference implementation, and is opened again; others are not made: for every key, nonce, ticket and authenticator the law returns true. The variable sha.constants reads as the program's text lays it. -/
import Derived.Test.YtnhchdkchohnbaaGreatDoorReqK
namespace Go.Proofs.YtnhchdkchohnbaaGreatDoor
open Go.ChangeShapes Go.WideShapes Go.ChangeAt Go.RowKit Go.Deep

theorem Req.mk_facts {key nonce kt : Nat → Nat} {t : Tic.T} {a : Aut.A} (ht : Tic.valid t = true) (ha : Aut.valid a = true) (hk : tkey t = kt) (hl : t.key.length = 16) (hs : a.seq < 4294967296) : ∃ M : List Nat, Req.mk key nonce kt t a = some M ∧ M.length ≤ 3000 ∧ Req.opn key M = (t, a, 0) := by
  have h1 := Tic.bytes_len ht hl
  have h2 := Tic.parse_bytes ht hl
  have h3 := Aut.bytes_len ha
  have h4 := Aut.parse_bytes ha hs
  rw [Req.mk_valid ht ha]
  clear ht ha
  generalize Tic.bytes t = TB at *
  generalize Aut.bytes a = AB at *
  have h5 := Sea.seal_length key 2 nonce TB
  have h6 := Sea.seal_length kt 11 nonce AB
  have h7 := Tic.opn_yes (Sea.op_seal key 2 nonce TB) h2
  have h8 := Aut.opn_yes (Sea.op_seal kt 11 nonce AB) h4
  generalize Sea.sld key 2 nonce TB = S1 at *
  generalize Sea.sld kt 11 nonce AB = S2 at *
  obtain ⟨M, hM⟩ : ∃ M, Req.bytes S1 S2 = some M := by unfold Req.bytes; rw [if_neg (by omega)]; exact ⟨_, rfl⟩
  have hl := (Req.bytes_some hM).2.2
  refine ⟨M, hM, by omega, ?_⟩
  unfold Req.opn
  rw [Req.parse_bytes hM]
  dsimp only
  rw [h7]
  dsimp only
  rw [hk, h8]
  exact (if_neg (fun h : (0 : Int) ≠ 0 => h rfl)).trans (if_neg (fun h : (0 : Int) ≠ 0 => h rfl))
theorem tkey_tic (q : ByteArray) (ss : List ByteArray) (s e : Int) (k : Nat → Nat) : tkey (tic q ss s e (tkey (tic q ss s e k))) = tkey (tic q ss s e k) := by
  have h : (tic q ss s e (tkey (tic q ss s e k))).key = (tic q ss s e k).key := by
    unfold tic
    dsimp only
    exact List.map_congr_left fun i hi => Sea.nl_get 16 k i (List.mem_range.1 hi)
  unfold tkey at h ⊢
  rw [h]
set_option maxRecDepth 100000 in
set_option maxHeartbeats 8000000 in
theorem requestMakes_outA (key nonce : Nat → Nat) (_hk : Aes.B8 key) (_hn : Aes.B8 nonce) (w : World) (q : ByteArray) (hq : q.size ≤ maxLen) (u : Value) (ss : List ByteArray) (hu : Ss w u ss) (s e : Int) (kt : Nat → Nat) (ht : Aes.B8 kt) (r : ByteArray) (hr : r.size ≤ maxLen) (v : Value) (tt : List ByteArray) (hv : Ss w v tt) (t : Int) (m : Nat) (hm : m < 4294967296) (z : Nat) (hz : z < 4294967296) (hf1 : few q ss = false) (hK : Consts w Sha.tab) :
    Calls Tryz.prog 4 #[.agg (arr .u8 16 key), .agg (arr .u8 8 nonce), .agg (tk q u s e kt), .agg (au r v t m z)] w (RetBool true w) := by
  have HK := Lib.hid hK; clear hK
  obtain ⟨W0, hW0, a0, e0, t0, z0, G0⟩ := four_boxes w key nonce (tk q u s e kt) (au r v t m z) 41 32
  have T0 : Tb W0 (w.heap.size + 1 + 1) q u ss s e kt := ⟨t0, hu.only G0, hq, ht⟩
  have Z0 : Ab W0 (w.heap.size + 1 + 1 + 1) r v tt t m z := ⟨z0, hv.only G0, hr, hm, hz⟩
  have s1 := arr_size .u8 16 key
  have s2 := arr_size .u8 8 nonce
  have s3 := tk_size q u s e kt
  have s4 := au_size r v t m z
  obtain ⟨ua, uc, rfl⟩ := hu.form
  obtain ⟨va, vc, rfl⟩ := hv.form
  clear hu hv t0 z0
  go_enter Tryz.func4, Tryz.ntmps4
  go_upto_region 1 with fail
  rw [← hW0]
  clear hW0
  obtain ⟨n3, hn3⟩ : ∃ n, n = w.heap.size + 1 + 1 + 1 := ⟨_, rfl⟩
  rw [← hn3] at Z0 ⊢
  obtain ⟨n2, hn2⟩ : ∃ n, n = w.heap.size + 1 + 1 := ⟨_, rfl⟩
  rw [← hn2] at T0 ⊢
  obtain ⟨n1, hn1⟩ : ∃ n, n = w.heap.size + 1 := ⟨_, rfl⟩
  rw [← hn1] at e0 ⊢
  obtain ⟨n0, hn0⟩ : ∃ n, n = w.heap.size := ⟨_, rfl⟩
  rw [← hn0] at a0 ⊢
  clear hn3 hn2 hn1 hn0
  go_wp2_with fail
  refine (awake_rq _ (HK.out.below (below_of_only G0))).mono ?_
  rintro x w1 ⟨rfl, h1⟩
  have g1 := only_of_below h1 none
  have A1 := isArr.only a0 g1
  have N1 := isArr.only e0 g1
  have T1 := T0.only g1
  have Z1 := Z0.only g1
  have G1 := only_trans G0 g1
  clear a0 e0 T0 Z0 G0 g1 h1
  go_wp2_with (refine wpList_load_rowG (by kernel_rfl) _ _ rfl n2 rfl _ _ (0, 0) _ T1.1 rfl rfl (info_tk _ _ _ _ _) ?_)
  refine (reftkfew_any q _ ss s e kt w1 hq T1.2.1).mono ?_
  rintro x w2 ⟨rfl, g2⟩
  rw [hf1]
  have A2 := isArr.only A1 g2
  have N2 := isArr.only N1 g2
  have T2 := T1.only g2
  have Z2 := Z1.only g2
  have G2 := only_trans G1 g2
  clear A1 N1 T1 Z1 G1 g2
  go_wp2_with fail
  refine (awake_rq _ (HK.out.below (below_of_only G2))).mono ?_
  rintro x w9 ⟨rfl, h9⟩
  have G9 := only_trans G2 (only_of_below h9 none)
  go_wp2_with fail
  go_ret
  exact ⟨rfl, below_of_only G9⟩
set_option maxRecDepth 100000 in
set_option maxHeartbeats 8000000 in
theorem requestMakes_outB (key nonce : Nat → Nat) (_hk : Aes.B8 key) (_hn : Aes.B8 nonce) (w : World) (q : ByteArray) (hq : q.size ≤ maxLen) (u : Value) (ss : List ByteArray) (hu : Ss w u ss) (s e : Int) (kt : Nat → Nat) (ht : Aes.B8 kt) (r : ByteArray) (hr : r.size ≤ maxLen) (v : Value) (tt : List ByteArray) (hv : Ss w v tt) (t : Int) (m : Nat) (hm : m < 4294967296) (z : Nat) (hz : z < 4294967296) (hf1 : few q ss = true) (hf2 : few r tt = false) (hK : Consts w Sha.tab) :
    Calls Tryz.prog 4 #[.agg (arr .u8 16 key), .agg (arr .u8 8 nonce), .agg (tk q u s e kt), .agg (au r v t m z)] w (RetBool true w) := by
  have HK := Lib.hid hK; clear hK
  obtain ⟨W0, hW0, a0, e0, t0, z0, G0⟩ := four_boxes w key nonce (tk q u s e kt) (au r v t m z) 41 32
  have T0 : Tb W0 (w.heap.size + 1 + 1) q u ss s e kt := ⟨t0, hu.only G0, hq, ht⟩
  have Z0 : Ab W0 (w.heap.size + 1 + 1 + 1) r v tt t m z := ⟨z0, hv.only G0, hr, hm, hz⟩
  have s1 := arr_size .u8 16 key
  have s2 := arr_size .u8 8 nonce
  have s3 := tk_size q u s e kt
  have s4 := au_size r v t m z
  obtain ⟨ua, uc, rfl⟩ := hu.form
  obtain ⟨va, vc, rfl⟩ := hv.form
  clear hu hv t0 z0
  go_enter Tryz.func4, Tryz.ntmps4
  go_upto_region 1 with fail
  rw [← hW0]
  clear hW0
  obtain ⟨n3, hn3⟩ : ∃ n, n = w.heap.size + 1 + 1 + 1 := ⟨_, rfl⟩
  rw [← hn3] at Z0 ⊢
  obtain ⟨n2, hn2⟩ : ∃ n, n = w.heap.size + 1 + 1 := ⟨_, rfl⟩
  rw [← hn2] at T0 ⊢
  obtain ⟨n1, hn1⟩ : ∃ n, n = w.heap.size + 1 := ⟨_, rfl⟩
  rw [← hn1] at e0 ⊢
  obtain ⟨n0, hn0⟩ : ∃ n, n = w.heap.size := ⟨_, rfl⟩
  rw [← hn0] at a0 ⊢
  clear hn3 hn2 hn1 hn0
  go_wp2_with fail
  refine (awake_rq _ (HK.out.below (below_of_only G0))).mono ?_
  rintro x w1 ⟨rfl, h1⟩
  have g1 := only_of_below h1 none
  have A1 := isArr.only a0 g1
  have N1 := isArr.only e0 g1
  have T1 := T0.only g1
  have Z1 := Z0.only g1
  have G1 := only_trans G0 g1
  clear a0 e0 T0 Z0 G0 g1 h1
  go_wp2_with (refine wpList_load_rowG (by kernel_rfl) _ _ rfl n2 rfl _ _ (0, 0) _ T1.1 rfl rfl (info_tk _ _ _ _ _) ?_)
  refine (reftkfew_any q _ ss s e kt w1 hq T1.2.1).mono ?_
  rintro x w2 ⟨rfl, g2⟩
  rw [hf1]
  have A2 := isArr.only A1 g2
  have N2 := isArr.only N1 g2
  have T2 := T1.only g2
  have Z2 := Z1.only g2
  have G2 := only_trans G1 g2
  clear A1 N1 T1 Z1 G1 g2
  go_wp2_with (refine wpList_load_rowG (by kernel_rfl) _ _ rfl n3 rfl _ _ (0, 0) _ Z2.1 rfl rfl (info_au _ _ _ _ _) ?_)
  refine (refaufew_any r _ tt t m z w2 hr Z2.2.1).mono ?_
  rintro x w3 ⟨rfl, g3⟩
  rw [hf2]
  have A3 := isArr.only A2 g3
  have N3 := isArr.only N2 g3
  have T3 := T2.only g3
  have Z3 := Z2.only g3
  have G3 := only_trans G2 g3
  clear A2 N2 T2 Z2 G2 g3
  go_wp2_with fail
  refine (awake_rq _ (HK.out.below (below_of_only G3))).mono ?_
  rintro x w9 ⟨rfl, h9⟩
  have G9 := only_trans G3 (only_of_below h9 none)
  go_wp2_with fail
  go_ret
  exact ⟨rfl, below_of_only G9⟩
set_option maxRecDepth 100000 in
set_option maxHeartbeats 8000000 in
theorem requestMakes_bad (key nonce : Nat → Nat) (hk : Aes.B8 key) (hn : Aes.B8 nonce) (w : World) (q : ByteArray) (hq : q.size ≤ maxLen) (u : Value) (ss : List ByteArray) (hu : Ss w u ss) (s e : Int) (kt : Nat → Nat) (ht : Aes.B8 kt) (r : ByteArray) (hr : r.size ≤ maxLen) (v : Value) (tt : List ByteArray) (hv : Ss w v tt) (t : Int) (m : Nat) (hm : m < 4294967296) (z : Nat) (hz : z < 4294967296) (hf1 : few q ss = true) (hf2 : few r tt = true) (hbad : Tic.valid (tic q ss s e kt) = false ∨ Tic.valid (tic q ss s e kt) = true ∧ Aut.valid (aut r tt t m z) = false) (hK : Consts w Sha.tab) :
    Calls Tryz.prog 4 #[.agg (arr .u8 16 key), .agg (arr .u8 8 nonce), .agg (tk q u s e kt), .agg (au r v t m z)] w (RetBool true w) := by
  have HBAD := Lib.hid hbad; clear hbad
  have HK := Lib.hid hK; clear hK
  obtain ⟨W0, hW0, a0, e0, t0, z0, G0⟩ := four_boxes w key nonce (tk q u s e kt) (au r v t m z) 41 32
  have T0 : Tb W0 (w.heap.size + 1 + 1) q u ss s e kt := ⟨t0, hu.only G0, hq, ht⟩
  have Z0 : Ab W0 (w.heap.size + 1 + 1 + 1) r v tt t m z := ⟨z0, hv.only G0, hr, hm, hz⟩
  have s1 := arr_size .u8 16 key
  have s2 := arr_size .u8 8 nonce
  have s3 := tk_size q u s e kt
  have s4 := au_size r v t m z
  obtain ⟨ua, uc, rfl⟩ := hu.form
  obtain ⟨va, vc, rfl⟩ := hv.form
  clear hu hv t0 z0
  go_enter Tryz.func4, Tryz.ntmps4
  go_upto_region 1 with fail
  rw [← hW0]
  clear hW0
  obtain ⟨n3, hn3⟩ : ∃ n, n = w.heap.size + 1 + 1 + 1 := ⟨_, rfl⟩
  rw [← hn3] at Z0 ⊢
  obtain ⟨n2, hn2⟩ : ∃ n, n = w.heap.size + 1 + 1 := ⟨_, rfl⟩
  rw [← hn2] at T0 ⊢
  obtain ⟨n1, hn1⟩ : ∃ n, n = w.heap.size + 1 := ⟨_, rfl⟩
  rw [← hn1] at e0 ⊢
  obtain ⟨n0, hn0⟩ : ∃ n, n = w.heap.size := ⟨_, rfl⟩
  rw [← hn0] at a0 ⊢
  clear hn3 hn2 hn1 hn0
  go_wp2_with fail
  refine (awake_rq _ (HK.out.below (below_of_only G0))).mono ?_
  rintro x w1 ⟨rfl, h1⟩
  have g1 := only_of_below h1 none
  have A1 := isArr.only a0 g1
  have N1 := isArr.only e0 g1
  have T1 := T0.only g1
  have Z1 := Z0.only g1
  have G1 := only_trans G0 g1
  clear a0 e0 T0 Z0 G0 g1 h1
  go_wp2_with (refine wpList_load_rowG (by kernel_rfl) _ _ rfl n2 rfl _ _ (0, 0) _ T1.1 rfl rfl (info_tk _ _ _ _ _) ?_)
  refine (reftkfew_any q _ ss s e kt w1 hq T1.2.1).mono ?_
  rintro x w2 ⟨rfl, g2⟩
  rw [hf1]
  have A2 := isArr.only A1 g2
  have N2 := isArr.only N1 g2
  have T2 := T1.only g2
  have Z2 := Z1.only g2
  have G2 := only_trans G1 g2
  clear A1 N1 T1 Z1 G1 g2
  go_wp2_with (refine wpList_load_rowG (by kernel_rfl) _ _ rfl n3 rfl _ _ (0, 0) _ Z2.1 rfl rfl (info_au _ _ _ _ _) ?_)
  refine (refaufew_any r _ tt t m z w2 hr Z2.2.1).mono ?_
  rintro x w3 ⟨rfl, g3⟩
  rw [hf2]
  have A3 := isArr.only A2 g3
  have N3 := isArr.only N2 g3
  have T3 := T2.only g3
  have Z3 := Z2.only g3
  have G3 := only_trans G2 g3
  clear A2 N2 T2 Z2 G2 g3
  go_upto_region 3 with fail
  go_wp2_with (first | refine wpList_load_rowG (by kernel_rfl) _ _ rfl n0 rfl _ _ (0, 0) _ A3 rfl rfl (info16s _) ?_ | refine wpList_load_rowG (by kernel_rfl) _ _ rfl n1 rfl _ _ (0, 0) _ N3 rfl rfl (info8s _) ?_ | refine wpList_load_rowG (by kernel_rfl) _ _ rfl n2 rfl _ _ (0, 0) _ T3.1 rfl rfl (info_tk _ _ _ _ _) ?_ | refine wpList_load_rowG (by kernel_rfl) _ _ rfl n3 rfl _ _ (0, 0) _ Z3.1 rfl rfl (info_au _ _ _ _ _) ?_)
  refine (rqmake_any key nonce q _ ss s e kt r _ tt t m z w3 hk hn hq ht T3.2.1 hr hm hz Z3.2.1 (HK.out.below (below_of_only G3))).mono ?_
  rintro x w4 ⟨hb4, hp⟩
  have g4 := only_of_below hb4 none
  have A4 := isArr.only A3 g4
  have N4 := isArr.only N3 g4
  have T4 := T3.only g4
  have Z4 := Z3.only g4
  have G4 := only_trans G3 g4
  clear A3 N3 T3 Z3 G3 g4
  have hno : Req.mk key nonce kt (tic q ss s e kt) (aut r tt t m z) = none := if_neg (fun h => by
    rcases HBAD.out with h' | ⟨_, h'⟩
    · rw [h.1] at h'; cases h'
    · rw [h.2] at h'; cases h')
  rw [hno] at hp
  rcases hp with ⟨_, rfl⟩ | ⟨l, v', hx, _⟩
  rotate_left
  · cases hx
  clear hno hb4
  go_upto_region 4 with fail
  go_wp2_with (refine wpList_load_rowG (by kernel_rfl) _ _ rfl n2 rfl _ _ (0, 0) _ T4.1 rfl rfl (info_tk _ _ _ _ _) ?_)
  refine (reftkvalid_any q _ ss s e kt w4 hq T4.2.1).mono ?_
  rintro x w5 ⟨rfl, g5⟩
  have Z5 := Z4.only g5
  have G5 := only_trans G4 g5
  clear A4 N4 T4 Z4 G4 g5
  rcases HBAD.out with h' | ⟨h', h2⟩
  · rw [h']
    go_wp2_with fail
    go_ret
    exact ⟨rfl, below_of_only G5⟩
  · rw [h']
    go_wp2_with (refine wpList_load_rowG (by kernel_rfl) _ _ rfl n3 rfl _ _ (0, 0) _ Z5.1 rfl rfl (info_au _ _ _ _ _) ?_)
    refine (refauvalid_any r _ tt t m z w5 hr Z5.2.1).mono ?_
    rintro x w6 ⟨rfl, g6⟩
    have G6 := only_trans G5 g6
    rw [h2]
    go_wp2_with fail
    go_ret
    exact ⟨rfl, below_of_only G6⟩
set_option maxRecDepth 100000 in
set_option maxHeartbeats 8000000 in
theorem requestMakes_good (key nonce : Nat → Nat) (hk : Aes.B8 key) (hn : Aes.B8 nonce) (w : World) (q : ByteArray) (hq : q.size ≤ maxLen) (u : Value) (ss : List ByteArray) (hu : Ss w u ss) (s e : Int) (kt : Nat → Nat) (ht : Aes.B8 kt) (r : ByteArray) (hr : r.size ≤ maxLen) (v : Value) (tt : List ByteArray) (hv : Ss w v tt) (t : Int) (m : Nat) (hm : m < 4294967296) (z : Nat) (hz : z < 4294967296) (hkt : tkey (tic q ss s e kt) = kt) (hf1 : few q ss = true) (hf2 : few r tt = true) (htv : Tic.valid (tic q ss s e kt) = true) (hav : Aut.valid (aut r tt t m z) = true) (hK : Consts w Sha.tab) :
    Calls Tryz.prog 4 #[.agg (arr .u8 16 key), .agg (arr .u8 8 nonce), .agg (tk q u s e kt), .agg (au r v t m z)] w (RetBool true w) := by
  have HTV := Lib.hid htv
  have HAV := Lib.hid hav
  obtain ⟨M, hM, hML, hO⟩ := Req.mk_facts (key := key) (nonce := nonce) (kt := kt) htv hav hkt (Sea.nl_length _ _) hz
  have HM := Lib.hid hM
  have HL := Lib.hid (show M.length ≤ 1000000 by omega)
  have HO := Lib.hid hO
  clear hkt htv hav hM hML hO
  have HK := Lib.hid hK; clear hK
  obtain ⟨W0, hW0, a0, e0, t0, z0, G0⟩ := four_boxes w key nonce (tk q u s e kt) (au r v t m z) 41 32
  have T0 : Tb W0 (w.heap.size + 1 + 1) q u ss s e kt := ⟨t0, hu.only G0, hq, ht⟩
  have Z0 : Ab W0 (w.heap.size + 1 + 1 + 1) r v tt t m z := ⟨z0, hv.only G0, hr, hm, hz⟩
  have s1 := arr_size .u8 16 key
  have s2 := arr_size .u8 8 nonce
  have s3 := tk_size q u s e kt
  have s4 := au_size r v t m z
  obtain ⟨ua, uc, rfl⟩ := hu.form
  obtain ⟨va, vc, rfl⟩ := hv.form
  clear hu hv t0 z0
  go_enter Tryz.func4, Tryz.ntmps4
  go_upto_region 1 with fail
  rw [← hW0]
  clear hW0
  obtain ⟨n3, hn3⟩ : ∃ n, n = w.heap.size + 1 + 1 + 1 := ⟨_, rfl⟩
  rw [← hn3] at Z0 ⊢
  obtain ⟨n2, hn2⟩ : ∃ n, n = w.heap.size + 1 + 1 := ⟨_, rfl⟩
  rw [← hn2] at T0 ⊢
  obtain ⟨n1, hn1⟩ : ∃ n, n = w.heap.size + 1 := ⟨_, rfl⟩
  rw [← hn1] at e0 ⊢
  obtain ⟨n0, hn0⟩ : ∃ n, n = w.heap.size := ⟨_, rfl⟩
  rw [← hn0] at a0 ⊢
  clear hn3 hn2 hn1 hn0
  go_wp2_with fail
  refine (awake_rq _ (HK.out.below (below_of_only G0))).mono ?_
  rintro x w1 ⟨rfl, h1⟩
  have g1 := only_of_below h1 none
  have A1 := isArr.only a0 g1
  have N1 := isArr.only e0 g1
  have T1 := T0.only g1
  have Z1 := Z0.only g1
  have G1 := only_trans G0 g1
  clear a0 e0 T0 Z0 G0 g1 h1
  go_wp2_with (refine wpList_load_rowG (by kernel_rfl) _ _ rfl n2 rfl _ _ (0, 0) _ T1.1 rfl rfl (info_tk _ _ _ _ _) ?_)
  refine (reftkfew_any q _ ss s e kt w1 hq T1.2.1).mono ?_
  rintro x w2 ⟨rfl, g2⟩
  rw [hf1]
  have A2 := isArr.only A1 g2
  have N2 := isArr.only N1 g2
  have T2 := T1.only g2
  have Z2 := Z1.only g2
  have G2 := only_trans G1 g2
  clear A1 N1 T1 Z1 G1 g2
  go_wp2_with (refine wpList_load_rowG (by kernel_rfl) _ _ rfl n3 rfl _ _ (0, 0) _ Z2.1 rfl rfl (info_au _ _ _ _ _) ?_)
  refine (refaufew_any r _ tt t m z w2 hr Z2.2.1).mono ?_
  rintro x w3 ⟨rfl, g3⟩
  rw [hf2]
  have A3 := isArr.only A2 g3
  have N3 := isArr.only N2 g3
  have T3 := T2.only g3
  have Z3 := Z2.only g3
  have G3 := only_trans G2 g3
  clear A2 N2 T2 Z2 G2 g3
  go_upto_region 3 with fail
  go_wp2_with (first | refine wpList_load_rowG (by kernel_rfl) _ _ rfl n0 rfl _ _ (0, 0) _ A3 rfl rfl (info16s _) ?_ | refine wpList_load_rowG (by kernel_rfl) _ _ rfl n1 rfl _ _ (0, 0) _ N3 rfl rfl (info8s _) ?_ | refine wpList_load_rowG (by kernel_rfl) _ _ rfl n2 rfl _ _ (0, 0) _ T3.1 rfl rfl (info_tk _ _ _ _ _) ?_ | refine wpList_load_rowG (by kernel_rfl) _ _ rfl n3 rfl _ _ (0, 0) _ Z3.1 rfl rfl (info_au _ _ _ _ _) ?_)
  refine (rqmake_any key nonce q _ ss s e kt r _ tt t m z w3 hk hn hq ht T3.2.1 hr hm hz Z3.2.1 (HK.out.below (below_of_only G3))).mono ?_
  rintro x w4 ⟨hb4, hp⟩
  have g4 := only_of_below hb4 none
  have A4 := isArr.only A3 g4
  have N4 := isArr.only N3 g4
  have T4 := T3.only g4
  have Z4 := Z3.only g4
  have G4 := only_trans G3 g4
  clear A3 N3 T3 Z3 G3 g4
  rw [HM.out] at hp
  rcases hp with ⟨hx, _⟩ | ⟨l, v4, hl4, rfl, o4⟩
  · cases hx
  cases hl4
  obtain ⟨xa, xc, rfl⟩ := o4.form
  have HB := Lib.hid o4.bs.rs
  clear o4 hb4
  go_upto_region 4 with fail
  go_wp2_with (refine wpList_load_rowG (by kernel_rfl) _ _ rfl n2 rfl _ _ (0, 0) _ T4.1 rfl rfl (info_tk _ _ _ _ _) ?_)
  refine (reftkvalid_any q _ ss s e kt w4 hq T4.2.1).mono ?_
  rintro x w5 ⟨rfl, g5⟩
  rw [HTV.out]
  have A5 := isArr.only A4 g5
  have N5 := isArr.only N4 g5
  have T5 := T4.only g5
  have Z5 := Z4.only g5
  have G5 := only_trans G4 g5
  have HB := Lib.hid (HB.out.below (below_of_only g5))
  clear A4 N4 T4 Z4 G4 g5
  go_wp2_with (refine wpList_load_rowG (by kernel_rfl) _ _ rfl n3 rfl _ _ (0, 0) _ Z5.1 rfl rfl (info_au _ _ _ _ _) ?_)
  refine (refauvalid_any r _ tt t m z w5 hr Z5.2.1).mono ?_
  rintro x w6 ⟨rfl, g6⟩
  rw [HAV.out]
  have A6 := isArr.only A5 g6
  have N6 := isArr.only N5 g6
  have T6 := T5.only g6
  have Z6 := Z5.only g6
  have G6 := only_trans G5 g6
  have HB := Lib.hid (HB.out.below (below_of_only g6))
  clear A5 N5 T5 Z5 G5 g6
  go_upto_region 6 with fail
  go_wp2_with (refine wpList_load_rowG (by kernel_rfl) _ _ rfl n0 rfl _ _ (0, 0) _ A6 rfl rfl (info16s _) ?_)
  refine (rqopen_any key _ M w6 hk HB.out HL.out (HK.out.below (below_of_only G6))).mono ?_
  rintro x w7 ⟨hb7, q7, u7, ss7, s7, x7, k7, r7, v7, tt7, t7, m7, z7, rfl, o7, p7, hq7, hk7, hr7, hm7, hz7, ht7, ha7⟩
  obtain ⟨ua7, uc7, rfl⟩ := o7.ss.form
  obtain ⟨va7, vc7, rfl⟩ := p7.ss.form
  have F := fresh_two w7 #[.string ⟨#[]⟩, .slice none 0 0, .int .i64 0, .int .i64 0, .int .u8 0, .int .u8 0, .int .u8 0, .int .u8 0, .int .u8 0, .int .u8 0, .int .u8 0, .int .u8 0, .int .u8 0, .int .u8 0, .int .u8 0, .int .u8 0, .int .u8 0, .int .u8 0, .int .u8 0, .int .u8 0] #[.string ⟨#[]⟩, .slice none 0 0, .int .i64 0, .int .u32 0, .int .u32 0] (tk q7 (.slice ua7 ss7.length uc7) s7 x7 k7) (au r7 (.slice va7 tt7.length vc7) t7 m7 z7) 41 32
  have P7 : Tb _ w7.heap.size q7 _ ss7 s7 x7 k7 := ⟨F.2.2.1, o7.ss.only F.2.2.2.2, hq7, hk7⟩
  have Q7 : Ab _ (w7.heap.size + 1) r7 _ tt7 t7 m7 z7 := ⟨F.2.2.2.1, p7.ss.only F.2.2.2.2, hr7, hm7, hz7⟩
  have F7 := only_trans (only_of_below hb7 none) F.2.2.2.2
  have G8 := only_trans G6 F7
  have A8 := isArr.only A6 F7
  have N8 := isArr.only N6 F7
  have T8 := T6.only F7
  have Z8 := Z6.only F7
  have HB := Lib.hid (HB.out.below (below_of_only F7))
  clear o7 p7 F7 G6 hb7 A6 N6 T6 Z6
  rw [HO.out] at ht7 ha7 ⊢
  have HT := Lib.hid (tsame_of ht7)
  have HA := Lib.hid (asame_of ha7)
  clear ht7 ha7
  dsimp only
  go_upto_region 7 with (first | refine wpList_store_rowTo rfl _ _ _ rfl rfl w7.heap.size _ rfl rfl _ _ F.1 (info_tk _ _ _ _ _) (by rw [tk_size]; rfl) (tk_one _ _ _ _ _ rfl) ?_ | refine wpList_store_rowTo rfl _ _ _ rfl rfl (w7.heap.size + 1) _ rfl rfl _ _ F.2.1 (info_au _ _ _ _ _) (by rw [au_size]; rfl) (au_one _ _ _ _ _ rfl) ?_)
  generalize World.setRow _ (w7.heap.size + 1) _ = W8 at *
  clear F
  obtain ⟨c7, hc7⟩ : ∃ n, n = w7.heap.size + 1 := ⟨_, rfl⟩
  rw [← hc7] at Q7 ⊢
  generalize w7.heap.size = b7 at *
  clear hc7
  go_wp2_with (first | refine wpList_load_rowG (by kernel_rfl) _ _ rfl n0 rfl _ _ (0, 0) _ A8 rfl rfl (info16s _) ?_ | refine wpList_load_rowG (by kernel_rfl) _ _ rfl n1 rfl _ _ (0, 0) _ N8 rfl rfl (info8s _) ?_ | refine wpList_load_rowG (by kernel_rfl) _ _ rfl n2 rfl _ _ (0, 0) _ T8.1 rfl rfl (info_tk _ _ _ _ _) ?_ | refine wpList_load_rowG (by kernel_rfl) _ _ rfl n3 rfl _ _ (0, 0) _ Z8.1 rfl rfl (info_au _ _ _ _ _) ?_)
  refine (refrqmake_any key nonce q _ ss s e kt r _ tt t m z W8 hk hn hq ht T8.2.1 hr hm hz Z8.2.1 HTV.out HAV.out).mono ?_
  rw [HM.out]
  rintro x w9 ⟨v9, rfl, o9, hb9⟩
  obtain ⟨ya, yc, rfl⟩ := o9.form
  have g9 := only_of_below hb9 none
  have T10 := T8.only g9
  have Z10 := Z8.only g9
  have P10 := P7.only g9
  have Q10 := Q7.only g9
  have G10 := only_trans G8 g9
  have O9 := Lib.hid o9.bs.rs
  have HB := Lib.hid (HB.out.below hb9)
  clear A8 N8 T8 Z8 G8 P7 Q7 g9 o9 hb9
  go_wp2_with fail
  refine (same_yes _ _ M w9 HB.out O9.out).mono ?_
  rintro x w10 ⟨rfl, hb10⟩
  have g10 := only_of_below hb10 none
  have T11 := T10.only g10
  have Z11 := Z10.only g10
  have P11 := P10.only g10
  have Q11 := Q10.only g10
  have G11 := only_trans G10 g10
  clear T10 Z10 P10 Q10 G10 g10 hb10 HB O9
  go_wp2_with (first | refine wpList_load_rowG (by kernel_rfl) _ _ rfl b7 rfl _ _ (0, 0) _ P11.1 rfl rfl (info_tk _ _ _ _ _) ?_ | refine wpList_load_rowG (by kernel_rfl) _ _ rfl n2 rfl _ _ (0, 0) _ T11.1 rfl rfl (info_tk _ _ _ _ _) ?_)
  refine (reftksame_any q7 q _ _ ss7 ss s7 x7 s e k7 kt w10 hq7 hq hk7 ht P11.2.1 T11.2.1).mono ?_
  rintro x w11 ⟨rfl, g11⟩
  rw [HT.out]
  have Z12 := Z11.only g11
  have Q12 := Q11.only g11
  have G12 := only_trans G11 g11
  clear T11 Z11 P11 Q11 G11 g11
  go_wp2_with (first | refine wpList_load_rowG (by kernel_rfl) _ _ rfl c7 rfl _ _ (0, 0) _ Q12.1 rfl rfl (info_au _ _ _ _ _) ?_ | refine wpList_load_rowG (by kernel_rfl) _ _ rfl n3 rfl _ _ (0, 0) _ Z12.1 rfl rfl (info_au _ _ _ _ _) ?_)
  refine (refausame_any r7 r _ _ tt7 tt t7 t m7 z7 m z w11 hr7 hr Q12.2.1 Z12.2.1).mono ?_
  rintro x w12 ⟨rfl, g12⟩
  rw [HA.out]
  have G13 := only_trans G12 g12
  clear Z12 Q12 G12 g12
  go_wp2_with fail
  go_ret
  exact ⟨rfl, below_of_only G13⟩
theorem tk_tkey (q : ByteArray) (u : Value) (ss : List ByteArray) (s e : Int) (kt : Nat → Nat) : tk q u s e kt = tk q u s e (tkey (tic q ss s e kt)) := by unfold tk; rw [← arr_tkey]
theorem requestMakes_walk (w : World) (f : Nat → Int) (wf : ∀ j, j < 16 → (Lit.int .u8 (f j)).wf = true) (g : Nat → Int) (wg : ∀ j, j < 8 → (Lit.int .u8 (g j)).wf = true) (q : ByteArray) (hq : q.size ≤ maxLen) (u : Value) (ss : List ByteArray) (hu : Ss w u ss) (s e : Int) (_ws : (Lit.int .i64 s).wf = true) (_we : (Lit.int .i64 e).wf = true) (kt : Nat → Nat) (ht : Aes.B8 kt)
    (r : ByteArray) (hr : r.size ≤ maxLen) (v : Value) (tt : List ByteArray) (hv : Ss w v tt) (t : Int) (_wt : (Lit.int .i64 t).wf = true) (m : Nat) (hm : m < 4294967296) (z : Nat) (hz : z < 4294967296) (hK : Consts w Sha.tab) :
    Calls Tryz.prog 4 #[.agg ((List.range 16).map fun i => Value.int .u8 (f i)).toArray, .agg ((List.range 8).map fun i => Value.int .u8 (g i)).toArray, .agg (tk q u s e kt), .agg (au r v t m z)] w (RetBool true w) := by
  obtain ⟨key, hk, e1⟩ := bytes_arg f wf
  obtain ⟨nonce, hn, e2⟩ := bytes_arg g wg
  rw [e1, e2, tk_tkey q u ss s e kt]
  have ht' := tkey_b8 (q := q) (ss := ss) (s := s) (e := e) ht
  have hkt := tkey_tic q ss s e kt
  generalize tkey (tic q ss s e kt) = kt' at *
  cases hf : few q ss
  · exact requestMakes_outA key nonce hk hn w q hq u ss hu s e kt' ht' r hr v tt hv t m hm z hz hf hK
  · cases hf2 : few r tt
    · exact requestMakes_outB key nonce hk hn w q hq u ss hu s e kt' ht' r hr v tt hv t m hm z hz hf hf2 hK
    · cases h1 : Tic.valid (tic q ss s e kt')
      · exact requestMakes_bad key nonce hk hn w q hq u ss hu s e kt' ht' r hr v tt hv t m hm z hz hf hf2 (.inl h1) hK
      · cases h2 : Aut.valid (aut r tt t m z)
        · exact requestMakes_bad key nonce hk hn w q hq u ss hu s e kt' ht' r hr v tt hv t m hm z hz hf hf2 (.inr ⟨h1, h2⟩) hK
        · exact requestMakes_good key nonce hk hn w q hq u ss hu s e kt' ht' r hr v tt hv t m hm z hz hkt hf hf2 h1 h2 hK

/-! ### THE ROW's STEP -/
namespace requestMakesF
theorem own : ownKnob Tryz.prog.godebug = none := by kernel_rfl
theorem laidOut : laidOutB Tryz.prog = true := by kernel_rfl
theorem gT : Tryz.prog.globalNamed "toll/sha.constants" = some 0 := by kernel_rfl
theorem gTType : (Tryz.prog.globals[0]?).map (·.type) = some 147 := by kernel_rfl
theorem door_met (os : Os) (args : Array Value) : laidMetH Tryz.prog Rows.requestMakesRow.laid ((World.doorLaid Tryz.prog 400 os).forCall (fun _ _ => 0) ⟨#[], args, []⟩).memory :=
  laidMetH_of_parts3 (fuel := 8) (laidMet_of_run' 8 (by kernel_rfl) (by kernel_rfl)) (by kernel_rfl) (by kernel_rfl)
theorem of_laid {W : World} (h : laidMetH Tryz.prog Rows.requestMakesRow.laid W) : Consts W Sha.tab := fun i hi => by
  rw [MakeChecks.laidMetH_plain _ _ _ (by kernel_rfl)] at h
  have hT := Lib.tabIs_of_head (k := .u32) (zs := Sha.tableL.map fun n : Nat => (n : Int)) gT gTType Tryz.underlying147 Tryz.underlying30 (by kernel_rfl) (by kernel_rfl) h
  have hl : i < Sha.tableL.length := hi
  rw [hT.cell gT i (by simpa using hl)]
  simp [Sha.tab, List.getD, hl]
set_option maxRecDepth 100000 in
theorem lifted (os : Os) (started : os.Started) (H : Type) (enc : TypeId × Value → H) :
    ReturnsInHanded {} Tryz.checked os 4 .any (fun w args => (Rows.requestMakesSpec.pre enc Tryz.prog Tryz.f4 [] false w args ∧ laidMetH Tryz.prog Rows.requestMakesRow.laid w) ∧ sizedMet enc Tryz.prog Tryz.f4 (OpenSpec.ofChange Rows.requestMakesSpec) false w args)
      (Rows.requestMakesSpec.post enc Tryz.prog Tryz.f4 false true false false) := by
  refine returnsInHanded_of_change_and (C := Tryz.checked) (X := fun w _ => laidMetH Tryz.prog Rows.requestMakesRow.laid w) (fun _ _ _ hh h => h.of_heap hh) own started (by kernel_rfl) Tryz.func4
    (ChangeSpec.witness_shaped (enc := enc) (C := Tryz.checked) (os := os) (X := fun w _ => laidMetH Tryz.prog Rows.requestMakesRow.laid w) false (World.doorLaid Tryz.prog 400 os) #[.agg #[.int .u8 0, .int .u8 0, .int .u8 0, .int .u8 0, .int .u8 0, .int .u8 0, .int .u8 0, .int .u8 0, .int .u8 0, .int .u8 0, .int .u8 0, .int .u8 0, .int .u8 0, .int .u8 0, .int .u8 0, .int .u8 0], .agg #[.int .u8 0, .int .u8 0, .int .u8 0, .int .u8 0, .int .u8 0, .int .u8 0, .int .u8 0, .int .u8 0], .agg #[.string ByteArray.empty, .slice none 0 0, .int .i64 0, .int .i64 0, .int .u8 0, .int .u8 0, .int .u8 0, .int .u8 0, .int .u8 0, .int .u8 0, .int .u8 0, .int .u8 0, .int .u8 0, .int .u8 0, .int .u8 0, .int .u8 0, .int .u8 0, .int .u8 0, .int .u8 0, .int .u8 0], .agg #[.string ByteArray.empty, .slice none 0 0, .int .i64 0, .int .u32 0, .int .u32 0]] 8 rfl (World.shaped_of_RefB (by kernel_rfl) (by kernel_rfl)) (by kernel_rfl) (by kernel_rfl) (by kernel_rfl) (door_met os _)) ?_
  intro W base args ds gs before hval0 hW _ _ hL _
  have hK := of_laid hL
  have hval : ∀ (j : Nat) t v, Tryz.f4.params[j]? = some t → args[j]? = some v → Value.okWide Tryz.prog W .any base t v := hval0
  have hW' := hW
  obtain ⟨p, q, hA0, hV, rfl, _, _⟩ := hW
  have hA : DataW.TrodAll enc Tryz.prog W 0 (fun _ => true) true Tryz.f4.params.toList args.toList ds p := hA0
  rw [Tryz.params4] at hA hval
  obtain ⟨v0, vs0, d0, ds0, p0, q0, hargs, rfl, rfl, h0, r0⟩ := trodAll_cons hA
  obtain ⟨v1, vs1, d1, ds1, p1, q1, rfl, rfl, rfl, h1, r1⟩ := trodAll_cons r0
  obtain ⟨v2, vs2, d2, ds2, p2, q2, rfl, rfl, rfl, h2, r2⟩ := trodAll_cons r1
  obtain ⟨v3, vs3, d3, ds3, p3, q3, rfl, rfl, rfl, h3, r3⟩ := trodAll_cons r2
  obtain ⟨rfl, rfl, rfl⟩ := trodAll_nil r3
  obtain rfl : args = #[v0, v1, v2, v3] := by cases args; simp_all
  obtain ⟨rfl, rfl⟩ := trodVars_none hV
  have k0 := h0
  have lt0 : ∀ x ∈ p0, x.block < W.heap.size := by obtain ⟨m, hm⟩ := k0; exact DataW.trod_lt m _ _ _ hm
  obtain ⟨a0, rfl, w0⟩ := open_int_array Tryz.underlying22 Tryz.underlying5 (by kernel_rfl) (by kernel_rfl) (hval 0 22 v0 rfl rfl) h0
  have k1 := h1
  have lt1 : ∀ x ∈ p1, x.block < W.heap.size := by obtain ⟨m, hm⟩ := k1; exact DataW.trod_lt m _ _ _ hm
  obtain ⟨a1, rfl, w1⟩ := open_int_array Tryz.underlying23 Tryz.underlying5 (by kernel_rfl) (by kernel_rfl) (hval 1 23 v1 rfl rfl) h1
  have k2 := h2
  have lt2 : ∀ x ∈ p2, x.block < W.heap.size := by obtain ⟨m, hm⟩ := k2; exact DataW.trod_lt m _ _ _ hm
  obtain ⟨q2, u2, ss2, s2, e2, key2, rfl, w2, x2, ws2, we2, wk2⟩ := open_ticket (hval 2 41 v2 rfl rfl) h2
  have k3 := h3
  have lt3 : ∀ x ∈ p3, x.block < W.heap.size := by obtain ⟨m, hm⟩ := k3; exact DataW.trod_lt m _ _ _ hm
  obtain ⟨q3, u3, ss3, t3, m3, s3, rfl, w3, x3, wt3, wm3, ws3⟩ := open_auth (hval 3 32 v3 rfl rfl) h3
  refine (requestMakes_walk W a0 w0 a1 w1 q2 w2 u2 ss2 x2 s2 e2 ws2 we2 key2 wk2 q3 w3 u3 ss3 x3 t3 wt3 m3 wm3 s3 ws3 hK).mono fun e W' ⟨he, bel⟩ => ?_
  subst he
  exact ⟨_, rfl, _, _, _, [], _, [], hW', trodAll_mk1 (shut_bool Tryz.underlying4 _), (trodAll_cons_mk (Below.trod laidOut (by kernel_rfl) (of_decide_eq_true (by kernel_rfl)) k0 bel lt0) (trodAll_cons_mk (Below.trod laidOut (by kernel_rfl) (of_decide_eq_true (by kernel_rfl)) k1 bel lt1) (trodAll_cons_mk (Below.trod laidOut (by kernel_rfl) (of_decide_eq_true (by kernel_rfl)) k2 bel lt2) (trodAll_cons_mk (Below.trod laidOut (by kernel_rfl) (of_decide_eq_true (by kernel_rfl)) k3 bel lt3) trodAll_mk0)))), rfl, bel.frame _, fun h => by cases h⟩
theorem over : Rows.requestMakesRow.holds Tryz.pinned (OpenSpec.ofChange Rows.requestMakesSpec) :=
  OpenClaim.holds_of_wide 4 Tryz.f4 rfl rfl rfl rfl rfl rfl rfl ⟨rfl, rfl, rfl, rfl, rfl⟩ rfl rfl rfl rfl rfl (by kernel_rfl) Tryz.func4 (by kernel_rfl)
    (of_decide_eq_true (by kernel_rfl)) (by unfold Func.isWrapper; first | (rw [if_pos (by decide +kernel)]; kernel_rfl) | (rw [if_neg (by decide +kernel)]; exact ⟨rfl, rfl⟩))
    (fun os started H enc _ => lifted os started H enc)
end requestMakesF
/-- The row. -/
theorem requestMakes_row : Rows.RequestMakesSaid := requestMakesF.over
/-- The statement: the card. -/
theorem requestMakes_holds : Rows.RequestMakesCardSaid :=
  Claim7.holds_tied_plain_at .later [] [.data] true Rows.requestMakesCard.stood.harness false
    requestMakes_row (fun _ h => by cases h) (by kernel_rfl) (fun _ h => by cases h) requestMakes_row_tie rfl ⟨rfl, rfl⟩ (by kernel_rfl) rfl
    (fun f fn hf hfn => by
      obtain rfl : f = 4 := Option.some.inj ((show Tryz.prog.funcNamed "toll/tolllaw14.RequestMakes" = some 4 by kernel_rfl).symm.trans hf) |>.symm
      obtain rfl : fn = Tryz.f4 := (Option.some.inj (Tryz.func4.symm.trans hfn)).symm
      exact ⟨by kernel_rfl, fun j t ht => by
        rw [Tryz.params4] at ht
        have hm : t ∈ [22, 23, 41, 32] := by simpa using Array.mem_of_getElem? ht
        have hall : ([22, 23, 41, 32].all fun u => !Tryz.prog.wantsStandIn u) = true := by kernel_rfl
        exact (show Tryz.prog.wantsStandIn t = false by simpa using List.all_eq_true.1 hall t hm)⟩)
    (by kernel_rfl)
#print axioms requestMakes_holds
end Go.Proofs.YtnhchdkchohnbaaGreatDoor
