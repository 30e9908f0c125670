/- Any request whose parts are sealed in any way has the ticket and the authenticator, or the code, of the reference implementation: for every two keys, bytes and usage the law returns true. The variable sha.constants reads as the program's text lays it. -/
import Derived.Test.YtnhchdkchohnbaaGreatDoorReqK
namespace Go.Proofs.YtnhchdkchohnbaaGreatDoor
open Go.ChangeShapes Go.WideShapes Go.ChangeAt Go.RowKit Go.Deep

theorem key_boxes (w : World) (f g : Nat → Nat) : ∃ W : World, W = (w.alloc (.cells (arr .u8 16 f) 22)).alloc (.cells (arr .u8 16 g) 22) ∧ isArr W w.heap.size 22 .u8 16 f ∧ isArr W (w.heap.size + 1) 22 .u8 16 g ∧ w.grownBy W none := by
  have a := (isArr_new w 22 .u8 16 f).alloc (.cells (arr .u8 16 g) 22)
  have b := isArr_new (w.alloc (.cells (arr .u8 16 f) 22)) 22 .u8 16 g
  rw [World.size_alloc] at b
  exact ⟨_, rfl, a, b, only_alloc (only_alloc (only_refl w none) _) _⟩
theorem hd_arr (us : Nat) : (#[.int .u8 (us : Int), .int .u8 0, .int .u8 0, .int .u8 0, .int .u8 0, .int .u8 0, .int .u8 0, .int .u8 0] : Array Value) = arr .u8 8 (Sea.hd us) := by
  unfold arr Sea.hd
  rfl
set_option maxRecDepth 100000 in
set_option maxHeartbeats 8000000 in
theorem requestOpens_outA (key other : Nat → Nat) (_hk : Aes.B8 key) (_ho : Aes.B8 other) (v : Value) (l : List Nat) (v' : Value) (l' : List Nat) (us : Nat) (_hus : us < 256) (w : World) (hv : Rs w v l) (hv' : Rs w v' l') (hl : 1000 < l.length) (hK : Consts w Sha.tab) :
    Calls Tryz.prog 5 #[.agg (arr .u8 16 key), .agg (arr .u8 16 other), v, v', .int .u8 (us : Int)] w (RetBool true w) := by
  have HK := Lib.hid hK; clear hK
  obtain ⟨W0, hW0, a0, e0, G0⟩ := key_boxes w key other
  have s1 := arr_size .u8 16 key
  have s2 := arr_size .u8 16 other
  obtain ⟨va, vc, rfl⟩ := hv.form
  obtain ⟨va', vc', rfl⟩ := hv'.form
  have HV := Lib.hid (hv.below (below_of_only G0)); clear hv
  have HU := Lib.hid (hv'.below (below_of_only G0)); clear hv'
  go_enter Tryz.func5, Tryz.ntmps5
  go_upto_region 1 with fail
  rw [← hW0]
  clear hW0
  obtain ⟨n1, hn1⟩ : ∃ n, n = w.heap.size + 1 := ⟨_, rfl⟩
  rw [← hn1] at e0 ⊢
  obtain ⟨n0, hn0⟩ : ∃ n, n = w.heap.size := ⟨_, rfl⟩
  rw [← hn0] at a0 ⊢
  clear hn0 hn1
  go_wp2_with fail
  refine (awake_rq _ (HK.out.below (below_of_only G0))).mono ?_
  rintro x w1 ⟨rfl, h1⟩
  have A1 := isArr.only a0 (only_of_below h1 none)
  have N1 := isArr.only e0 (only_of_below h1 none)
  have G1 := only_trans G0 (only_of_below h1 none)
  have HV := Lib.hid (HV.out.below h1)
  have HU := Lib.hid (HU.out.below h1)
  clear a0 e0 G0 h1
  go_wp2_with fail
  all_goals first | omega | skip
  refine (awake_rq _ (HK.out.below (below_of_only G1))).mono ?_
  rintro x w3 ⟨rfl, h3⟩
  have G3 := only_trans G1 (only_of_below h3 none)
  go_wp2_with fail
  go_ret
  exact ⟨rfl, below_of_only G3⟩
set_option maxRecDepth 100000 in
set_option maxHeartbeats 8000000 in
theorem requestOpens_outB (key other : Nat → Nat) (_hk : Aes.B8 key) (_ho : Aes.B8 other) (v : Value) (l : List Nat) (v' : Value) (l' : List Nat) (us : Nat) (_hus : us < 256) (w : World) (hv : Rs w v l) (hv' : Rs w v' l') (hl0 : l.length ≤ 1000) (hl : 1000 < l'.length) (hK : Consts w Sha.tab) :
    Calls Tryz.prog 5 #[.agg (arr .u8 16 key), .agg (arr .u8 16 other), v, v', .int .u8 (us : Int)] w (RetBool true w) := by
  have HK := Lib.hid hK; clear hK
  obtain ⟨W0, hW0, a0, e0, G0⟩ := key_boxes w key other
  have s1 := arr_size .u8 16 key
  have s2 := arr_size .u8 16 other
  obtain ⟨va, vc, rfl⟩ := hv.form
  obtain ⟨va', vc', rfl⟩ := hv'.form
  have HV := Lib.hid (hv.below (below_of_only G0)); clear hv
  have HU := Lib.hid (hv'.below (below_of_only G0)); clear hv'
  go_enter Tryz.func5, Tryz.ntmps5
  go_upto_region 1 with fail
  rw [← hW0]
  clear hW0
  obtain ⟨n1, hn1⟩ : ∃ n, n = w.heap.size + 1 := ⟨_, rfl⟩
  rw [← hn1] at e0 ⊢
  obtain ⟨n0, hn0⟩ : ∃ n, n = w.heap.size := ⟨_, rfl⟩
  rw [← hn0] at a0 ⊢
  clear hn0 hn1
  go_wp2_with fail
  refine (awake_rq _ (HK.out.below (below_of_only G0))).mono ?_
  rintro x w1 ⟨rfl, h1⟩
  have A1 := isArr.only a0 (only_of_below h1 none)
  have N1 := isArr.only e0 (only_of_below h1 none)
  have G1 := only_trans G0 (only_of_below h1 none)
  have HV := Lib.hid (HV.out.below h1)
  have HU := Lib.hid (HU.out.below h1)
  clear a0 e0 G0 h1
  go_wp2_with fail
  all_goals first | omega | skip
  refine (awake_rq _ (HK.out.below (below_of_only G1))).mono ?_
  rintro x w3 ⟨rfl, h3⟩
  have G3 := only_trans G1 (only_of_below h3 none)
  go_wp2_with fail
  go_ret
  exact ⟨rfl, below_of_only G3⟩
set_option maxRecDepth 100000 in
set_option maxHeartbeats 8000000 in
theorem requestOpens_in (key other : Nat → Nat) (hk : Aes.B8 key) (ho : Aes.B8 other) (v : Value) (l : List Nat) (v' : Value) (l' : List Nat) (us : Nat) (hus : us < 256) (w : World) (hv : Rs w v l) (hv' : Rs w v' l') (hl : l.length ≤ 1000) (hl' : l'.length ≤ 1000) (hK : Consts w Sha.tab) :
    Calls Tryz.prog 5 #[.agg (arr .u8 16 key), .agg (arr .u8 16 other), v, v', .int .u8 (us : Int)] w (RetBool true w) := by
  have HK := Lib.hid hK; clear hK
  obtain ⟨W0, hW0, a0, e0, G0⟩ := key_boxes w key other
  have s1 := arr_size .u8 16 key
  have s2 := arr_size .u8 16 other
  obtain ⟨va, vc, rfl⟩ := hv.form
  obtain ⟨va', vc', rfl⟩ := hv'.form
  have HV := Lib.hid hv; clear hv
  have HU := Lib.hid hv'; clear hv'
  go_enter Tryz.func5, Tryz.ntmps5
  go_upto_region 1 with fail
  rw [← hW0]
  clear hW0
  obtain ⟨n1, hn1⟩ : ∃ n, n = w.heap.size + 1 := ⟨_, rfl⟩
  rw [← hn1] at e0 ⊢
  obtain ⟨n0, hn0⟩ : ∃ n, n = w.heap.size := ⟨_, rfl⟩
  rw [← hn0] at a0 ⊢
  clear hn0 hn1
  go_wp2_with fail
  refine (awake_rq _ (HK.out.below (below_of_only G0))).mono ?_
  rintro x w1 ⟨rfl, h1⟩
  have A1 := isArr.only a0 (only_of_below h1 none)
  have N1 := isArr.only e0 (only_of_below h1 none)
  have G1 := only_trans G0 (only_of_below h1 none)
  clear a0 e0 G0 h1
  have HLEN := Lib.hid (show l.length ≤ 1000 ∧ l'.length ≤ 1000 from ⟨hl, hl'⟩)
  have F := fresh_row w1 #[.int .u8 0, .int .u8 0, .int .u8 0, .int .u8 0, .int .u8 0, .int .u8 0, .int .u8 0, .int .u8 0, .int .u8 0, .int .u8 0, .int .u8 0, .int .u8 0, .int .u8 0, .int .u8 0, .int .u8 0, .int .u8 0] (arr .u8 16 key) 22
  have S2 := F.1
  have A2 := isArr.only A1 F.2
  have N2 := isArr.only N1 F.2
  have G2 := only_trans G1 F.2
  have hbs := G1.size
  have hn1 := A1.lt
  have hn2 := N1.lt
  go_upto_region 4 with (first | refine wpList_load_rowG (by kernel_rfl) _ _ rfl n0 rfl _ _ (0, 0) _ A1 rfl rfl (info16s _) ?_ | refine wpList_store_rowTo rfl _ _ _ rfl rfl w1.heap.size _ rfl rfl _ _ (heap_alloc_new _ _) (info16s _) (by rw [arr_size]; rfl) (arr_one _ _ _) ?_)
  all_goals first | omega | skip
  generalize World.setRow _ w1.heap.size _ = W2 at *
  generalize w1.heap.size = bs at *
  have hsk := S2.lt
  clear F A1 N1 G1 hl hl'
  go_wp2_with fail
  refine (reftkparse_any _ l W2 (HV.out.below (below_of_only G2)) (by have := HLEN.out.1; omega)).mono ?_
  rintro x w3 ⟨hb3, q3, u3, ss3, s3, x3, k3, rfl, o3, hq3, hk3, ht3⟩
  obtain ⟨ua3, uc3, rfl⟩ := o3.ss.form
  have F := fresh_row w3 #[.string ⟨#[]⟩, .slice none 0 0, .int .i64 0, .int .i64 0, .int .u8 0, .int .u8 0, .int .u8 0, .int .u8 0, .int .u8 0, .int .u8 0, .int .u8 0, .int .u8 0, .int .u8 0, .int .u8 0, .int .u8 0, .int .u8 0, .int .u8 0, .int .u8 0, .int .u8 0, .int .u8 0] (tk q3 (.slice ua3 ss3.length uc3) s3 x3 k3) 41
  have F3 := only_trans (only_of_below hb3 none) F.2
  have T4 := F.1
  have S4 := Hb.only S2 F3
  have A4 := isArr.only A2 F3
  have N4 := isArr.only N2 F3
  have G4 := only_trans G2 F3
  have h3s := hb3.size
  have hgs3 : (tk q3 (.slice ua3 ss3.length uc3) s3 x3 k3).size = 20 := tk_size _ _ _ _ _
  clear o3 hb3 S2 A2 N2 G2 F3 ht3
  generalize (Tic.refParse l).isSome = ok at *
  go_upto_region 5 with (refine wpList_store_rowTo rfl _ _ _ rfl rfl w3.heap.size _ rfl rfl _ _ (heap_alloc_new _ _) (info_tk _ _ _ _ _) (by rw [tk_size]; rfl) (tk_one _ _ _ _ _ rfl) ?_)
  generalize World.setRow _ w3.heap.size _ = W4 at *
  have hbk : bs < w3.heap.size := by omega
  generalize w3.heap.size = bk at *
  have hk0 := T4.lt
  clear F h3s
  have CK := Lib.hid (show ∀ j v, (arr .u8 16 k3)[j]? = some v → W4.cell? ((⟨bk, 4, none⟩ : Addr).add j) = some v from fun j v hj => by
    rw [Addr.add_lit]
    exact T4.cell ((tk_key _ _ _ _ _ j).trans hj))
  have s3' := arr_size .u8 16 k3
  clear T4
  obtain ⟨c8, hc8, hc80⟩ : ∃ c : Nat, (us : Int).tmod 8 = (c : Int) ∧ (c = 0 ∨ ((c : Int) == 0) = false) := ⟨us % 8, by rw [Int.tmod_eq_emod_of_nonneg (by omega)]; omega, by
    rcases Nat.eq_zero_or_pos (us % 8) with h | h
    · exact .inl h
    · exact .inr (by rw [beq_eq_false_iff_ne]; omega)⟩
  have H8 := Lib.hid hc80
  clear hc80
  cases ok
  focus
    have S5 : isArr W4 bs 22 .u8 16 key := S4
    have A5 := A4
    have N5 := N4
    have G5 := G4
    go_upto_region 7 with fail
    all_goals first | omega | skip
    clear S4 A4 N4 G4 CK hk0 hsk hn1 hn2 s3' hk3
    obtain ⟨ses, hse, hk3⟩ : ∃ s, s = key ∧ Aes.B8 s := ⟨key, rfl, hk⟩
    rw [← hse] at S5
    clear hse
    generalize W4 = W5 at *
  rotate_left
  by_cases hus2 : us < 200
  focus
    have R5 := Hb.row S4 (arr .u8 16 k3)
    have S5 : isArr _ bs 22 .u8 16 k3 := R5.1
    have A5 : isArr _ n0 22 .u8 16 key := Hb.keep A4 R5.2 (by simp; omega)
    have N5 : isArr _ n1 22 .u8 16 other := Hb.keep N4 R5.2 (by simp; omega)
    have G5 := grown_new G4 R5.2 hbs
    go_upto_region 7 with (first | refine wpList_load_arrG (by kernel_rfl) _ _ rfl ⟨bk, 4, none⟩ rfl _ _ CK.out rfl rfl (info16s _) ?_ | refine wpList_store_rowTo rfl _ _ _ rfl rfl bs _ rfl rfl _ _ S4 (info16s _) (by simp only [arr_size]) (arr_one _ _ _) ?_)
    all_goals first | omega | skip
    clear S4 A4 N4 G4 R5 CK hk0 hsk hn1 hn2 s3'
    generalize World.setRow W4 bs _ = W5 at *
    generalize k3 = ses at *
  rotate_left
  focus
    have S5 : isArr W4 bs 22 .u8 16 key := S4
    have A5 := A4
    have N5 := N4
    have G5 := G4
    go_upto_region 7 with fail
    all_goals first | omega | skip
    clear S4 A4 N4 G4 CK hk0 hsk hn1 hn2 s3' hk3
    obtain ⟨ses, hse, hk3⟩ : ∃ s, s = key ∧ Aes.B8 s := ⟨key, rfl, hk⟩
    rw [← hse] at S5
    clear hse
    generalize W4 = W5 at *
  all_goals
    go_wp2_with (first | refine wpList_load_rowG (by kernel_rfl) _ _ rfl n0 rfl _ _ (0, 0) _ A5 rfl rfl (info16s _) ?_ | refine wpList_buildTo rfl 23 _ rfl _ rfl (arr .u8 8 (Sea.hd us)) (by kernel_rfl) ?_)
    refine (refseal_lit key (Sea.hd us) 2 2 rfl _ l W5 hk (Sea.hd_b8 hus) (by omega) (HV.out.below (below_of_only G5)) (Nat.le_trans HLEN.out.1 (by omega))).mono ?_
    rintro x w6 ⟨v6, rfl, o6, hb6⟩
    obtain ⟨ua6, uc6, rfl⟩ := o6.form
    have HX := Lib.hid (show (Sea.sld key 2 (Sea.hd us) l).length ≤ 1100 by rw [Sea.seal_length]; have := HLEN.out.1; omega)
    have A6 := isArr.only A5 (only_of_below hb6 none)
    have N6 := isArr.only N5 (only_of_below hb6 none)
    have S6 := isArr.only S5 (only_of_below hb6 none)
    have G6 := only_trans G5 (only_of_below hb6 none)
    have O6 := Lib.hid o6.bs.rs
    clear A5 N5 S5 G5 o6 hb6
    generalize Sea.sld key 2 (Sea.hd us) l = X at *
    go_wp2_with (first | refine wpList_load_rowG (by kernel_rfl) _ _ rfl bs rfl _ _ (0, 0) _ S6 rfl rfl (info16s _) ?_ | refine wpList_buildTo rfl 23 _ rfl _ rfl (arr .u8 8 (Sea.hd us)) (by kernel_rfl) ?_)
    refine (refseal_lit ses (Sea.hd us) 11 11 rfl _ l' w6 hk3 (Sea.hd_b8 hus) (by omega) (HU.out.below (below_of_only G6)) (Nat.le_trans HLEN.out.2 (by omega))).mono ?_
    rintro x w7 ⟨v7, rfl, o7, hb7⟩
    obtain ⟨ua7, uc7, rfl⟩ := o7.form
    have HY := Lib.hid (show (Sea.sld ses 11 (Sea.hd us) l').length ≤ 1100 by rw [Sea.seal_length]; have := HLEN.out.2; omega)
    have A7 := isArr.only A6 (only_of_below hb7 none)
    have N7 := isArr.only N6 (only_of_below hb7 none)
    have G7 := only_trans G6 (only_of_below hb7 none)
    have O7 := Lib.hid (O6.out.below hb7)
    have Y7 := Lib.hid o7.bs.rs
    clear A6 N6 S6 G6 O6 o7 hb7 hk3
    generalize Sea.sld ses 11 (Sea.hd us) l' = Y at *
    rcases H8.out with h8 | h8
    focus
      rw [h8] at hc8
      go_wp2_with (first | refine wpList_load_rowG (by kernel_rfl) _ _ rfl n1 rfl _ _ (0, 0) _ N7 rfl rfl (info16s _) ?_ | refine wpList_buildTo rfl 23 _ rfl _ rfl (arr .u8 8 (Sea.hd 0)) (by kernel_rfl) ?_)
      refine (refseal_lit other (Sea.hd 0) 2 2 rfl _ l w7 ho (Sea.hd_b8 (by omega)) (by omega) (HV.out.below (below_of_only G7)) (Nat.le_trans HLEN.out.1 (by omega))).mono ?_
      rintro x w8 ⟨v8, rfl, o8, hb8⟩
      obtain ⟨ua8, uc8, rfl⟩ := o8.form
      have HX2 := Lib.hid (show (Sea.sld other 2 (Sea.hd 0) l).length ≤ 1100 by rw [Sea.seal_length]; have := HLEN.out.1; omega)
      have A8 := isArr.only A7 (only_of_below hb8 none)
      have G8 := only_trans G7 (only_of_below hb8 none)
      have X8 := Lib.hid o8.bs.rs
      have Y8 := Lib.hid (Y7.out.below hb8)
      clear A7 N7 G7 O7 Y7 HX o8 hb8 h8 hc8 H8
      generalize Sea.sld other 2 (Sea.hd 0) l = X2 at *
      go_upto_region 11 with fail
    rotate_left
    focus
      have X8 := O7
      have A8 := A7
      have G8 := G7
      have Y8 := Y7
      have HX2 := HX
      go_upto_region 11 with fail
      all_goals first | (exfalso; simp_all; done) | skip
      clear O7 A7 N7 G7 Y7 HX h8 hc8 H8
      generalize w7 = w8 at *
      generalize X = X2 at *
    all_goals
      go_wp2_with fail
      refine (refrqbytes_any _ _ X2 Y w8 X8.out Y8.out (Nat.le_trans HX2.out (by omega)) (Nat.le_trans HY.out (by omega))).mono ?_
      rintro x w9 ⟨hb9, hp⟩
      obtain ⟨M, hM⟩ : ∃ M, Req.bytes X2 Y = some M := by have := HX2.out; have := HY.out; unfold Req.bytes; rw [if_neg (by omega)]; exact ⟨_, rfl⟩
      have HM := Lib.hid (show M.length ≤ 1000000 by have := (Req.bytes_some hM).2.2; have := HX2.out; have := HY.out; omega)
      rw [hM] at hp
      rcases hp with ⟨hno, _⟩ | ⟨l9, v9, hl9, rfl, o9⟩
      · cases hno
      cases hl9
      obtain ⟨ua9, uc9, rfl⟩ := o9.form
      have HB := Lib.hid o9.bs.rs
      have A9 := isArr.only A8 (only_of_below hb9 none)
      have G9 := only_trans G8 (only_of_below hb9 none)
      clear X8 A8 G8 Y8 hb9 o9 hM HX2 HY
      go_wp2_with (refine wpList_load_rowG (by kernel_rfl) _ _ rfl n0 rfl _ _ (0, 0) _ A9 rfl rfl (info16s _) ?_)
      refine (rqopen_any key _ M w9 hk HB.out HM.out (HK.out.below (below_of_only G9))).mono ?_
      rintro x w10 ⟨hb10, q10, u10, ss10, s10, x10, k10, r10, v10, tt10, t10, m10, z10, rfl, o10, p10, hq10, hk10, hr10, hm10, hz10, ht10, ha10⟩
      obtain ⟨ua10, uc10, rfl⟩ := o10.ss.form
      obtain ⟨va10, vc10, rfl⟩ := p10.ss.form
      have F := fresh_two w10 #[.string ⟨#[]⟩, .slice none 0 0, .int .i64 0, .int .i64 0, .int .u8 0, .int .u8 0, .int .u8 0, .int .u8 0, .int .u8 0, .int .u8 0, .int .u8 0, .int .u8 0, .int .u8 0, .int .u8 0, .int .u8 0, .int .u8 0, .int .u8 0, .int .u8 0, .int .u8 0, .int .u8 0] #[.string ⟨#[]⟩, .slice none 0 0, .int .i64 0, .int .u32 0, .int .u32 0] (tk q10 (.slice ua10 ss10.length uc10) s10 x10 k10) (au r10 (.slice va10 tt10.length vc10) t10 m10 z10) 41 32
      have P10 : Tb _ w10.heap.size q10 _ ss10 s10 x10 k10 := ⟨F.2.2.1, o10.ss.only F.2.2.2.2, hq10, hk10⟩
      have Q10 : Ab _ (w10.heap.size + 1) r10 _ tt10 t10 m10 z10 := ⟨F.2.2.2.1, p10.ss.only F.2.2.2.2, hr10, hm10, hz10⟩
      have F10 := only_trans (only_of_below hb10 none) F.2.2.2.2
      have G11 := only_trans G9 F10
      have A11 := isArr.only A9 F10
      have HB := Lib.hid (HB.out.below (below_of_only F10))
      clear o10 p10 F10 G9 hb10 A9
      go_upto_region 13 with (first | refine wpList_store_rowTo rfl _ _ _ rfl rfl w10.heap.size _ rfl rfl _ _ F.1 (info_tk _ _ _ _ _) (by rw [tk_size]; rfl) (tk_one _ _ _ _ _ rfl) ?_ | refine wpList_store_rowTo rfl _ _ _ rfl rfl (w10.heap.size + 1) _ rfl rfl _ _ F.2.1 (info_au _ _ _ _ _) (by rw [au_size]; rfl) (au_one _ _ _ _ _ rfl) ?_)
      generalize World.setRow _ (w10.heap.size + 1) _ = W11 at *
      clear F
      obtain ⟨c10, hc10⟩ : ∃ n, n = w10.heap.size + 1 := ⟨_, rfl⟩
      rw [← hc10] at Q10 ⊢
      generalize w10.heap.size = b10 at *
      clear hc10
      go_wp2_with (refine wpList_load_rowG (by kernel_rfl) _ _ rfl n0 rfl _ _ (0, 0) _ A11 rfl rfl (info16s _) ?_)
      refine (refrqopen_any key _ M W11 hk HB.out HM.out (HK.out.below (below_of_only G11))).mono ?_
      rintro x w12 ⟨hb12, q12, u12, ss12, s12, x12, k12, r12, v12, tt12, t12, m12, z12, rfl, o12, p12, hq12, hk12, hr12, hm12, hz12, ht12, ha12⟩
      obtain ⟨ua12, uc12, rfl⟩ := o12.ss.form
      obtain ⟨va12, vc12, rfl⟩ := p12.ss.form
      have F := fresh_two w12 #[.string ⟨#[]⟩, .slice none 0 0, .int .i64 0, .int .i64 0, .int .u8 0, .int .u8 0, .int .u8 0, .int .u8 0, .int .u8 0, .int .u8 0, .int .u8 0, .int .u8 0, .int .u8 0, .int .u8 0, .int .u8 0, .int .u8 0, .int .u8 0, .int .u8 0, .int .u8 0, .int .u8 0] #[.string ⟨#[]⟩, .slice none 0 0, .int .i64 0, .int .u32 0, .int .u32 0] (tk q12 (.slice ua12 ss12.length uc12) s12 x12 k12) (au r12 (.slice va12 tt12.length vc12) t12 m12 z12) 41 32
      have P12 : Tb _ w12.heap.size q12 _ ss12 s12 x12 k12 := ⟨F.2.2.1, o12.ss.only F.2.2.2.2, hq12, hk12⟩
      have Q12 : Ab _ (w12.heap.size + 1) r12 _ tt12 t12 m12 z12 := ⟨F.2.2.2.1, p12.ss.only F.2.2.2.2, hr12, hm12, hz12⟩
      have F12 := only_trans (only_of_below hb12 none) F.2.2.2.2
      have G13 := only_trans G11 F12
      have A13 := isArr.only A11 F12
      have HB := Lib.hid (HB.out.below (below_of_only F12))
      have P11 := P10.only F12
      have Q11 := Q10.only F12
      clear o12 p12 F12 G11 hb12 A11 P10 Q10
      have HT := Lib.hid (tsame_of (ht10.trans ht12.symm))
      have HA := Lib.hid (asame_of (ha10.trans ha12.symm))
      clear A13
      generalize (Req.opn key M).2.2 = code at *
      go_upto_region 14 with (first | refine wpList_store_rowTo rfl _ _ _ rfl rfl w12.heap.size _ rfl rfl _ _ F.1 (info_tk _ _ _ _ _) (by rw [tk_size]; rfl) (tk_one _ _ _ _ _ rfl) ?_ | refine wpList_store_rowTo rfl _ _ _ rfl rfl (w12.heap.size + 1) _ rfl rfl _ _ F.2.1 (info_au _ _ _ _ _) (by rw [au_size]; rfl) (au_one _ _ _ _ _ rfl) ?_)
      generalize World.setRow _ (w12.heap.size + 1) _ = W13 at *
      clear F
      obtain ⟨c12, hc12⟩ : ∃ n, n = w12.heap.size + 1 := ⟨_, rfl⟩
      rw [← hc12] at Q12 ⊢
      generalize w12.heap.size = b12 at *
      clear hc12
      clear ht10 ha10 ht12 ha12 HB
      go_wp2_with (first | refine wpList_load_rowG (by kernel_rfl) _ _ rfl b10 rfl _ _ (0, 0) _ P11.1 rfl rfl (info_tk _ _ _ _ _) ?_ | refine wpList_load_rowG (by kernel_rfl) _ _ rfl b12 rfl _ _ (0, 0) _ P12.1 rfl rfl (info_tk _ _ _ _ _) ?_)
      refine (reftksame_any q10 q12 _ _ ss10 ss12 s10 x10 s12 x12 k10 k12 W13 hq10 hq12 hk10 hk12 P11.2.1 P12.2.1).mono ?_
      rintro x w14 ⟨rfl, g14⟩
      rw [HT.out]
      have Q14 := Q11.only g14
      have Q15 := Q12.only g14
      have G14 := only_trans G13 g14
      clear P11 P12 Q11 Q12 G13 g14
      go_wp2_with (first | refine wpList_load_rowG (by kernel_rfl) _ _ rfl c10 rfl _ _ (0, 0) _ Q14.1 rfl rfl (info_au _ _ _ _ _) ?_ | refine wpList_load_rowG (by kernel_rfl) _ _ rfl c12 rfl _ _ (0, 0) _ Q15.1 rfl rfl (info_au _ _ _ _ _) ?_)
      refine (refausame_any r10 r12 _ _ tt10 tt12 t10 t12 m10 z10 m12 z12 w14 hr10 hr12 Q14.2.1 Q15.2.1).mono ?_
      rintro x w15 ⟨rfl, g15⟩
      rw [HA.out]
      have G15 := only_trans G14 g15
      clear Q14 Q15 G14 g15
      go_wp2_with fail
      go_ret
      exact ⟨rfl, below_of_only G15⟩
theorem requestOpens_walk (w : World) (f : Nat → Int) (wf : ∀ j, j < 16 → (Lit.int .u8 (f j)).wf = true) (g : Nat → Int) (wg : ∀ j, j < 16 → (Lit.int .u8 (g j)).wf = true) (v : Value) (l : List Nat) (hv : Rs w v l) (v' : Value) (l' : List Nat) (hv' : Rs w v' l') (x : Int) (wx : (Lit.int .u8 x).wf = true) (hK : Consts w Sha.tab) :
    Calls Tryz.prog 5 #[.agg ((List.range 16).map fun i => Value.int .u8 (f i)).toArray, .agg ((List.range 16).map fun i => Value.int .u8 (g i)).toArray, v, v', .int .u8 x] w (RetBool true w) := by
  obtain ⟨key, hk, e1⟩ := bytes_arg f wf
  obtain ⟨other, ho, e2⟩ := bytes_arg g wg
  have hx := u8_range wx
  obtain ⟨us, rfl⟩ := Int.eq_ofNat_of_zero_le hx.1
  rw [e1, e2]
  by_cases hl : 1000 < l.length
  · exact requestOpens_outA key other hk ho v l v' l' us (by omega) w hv hv' hl hK
  · by_cases hl' : 1000 < l'.length
    · exact requestOpens_outB key other hk ho v l v' l' us (by omega) w hv hv' (by omega) hl' hK
    · exact requestOpens_in key other hk ho v l v' l' us (by omega) w hv hv' (by omega) (by omega) hK

/-! ### THE ROW's STEP -/
namespace requestOpensF
theorem own : ownKnob Tryz.prog.godebug = none := by kernel_rfl
theorem laidOut : laidOutB Tryz.prog = true := by kernel_rfl
theorem gT : Tryz.prog.globalNamed "toll/sha.constants" = some 0 := by kernel_rfl
theorem gTType : (Tryz.prog.globals[0]?).map (·.type) = some 147 := by kernel_rfl
theorem door_met (os : Os) (args : Array Value) : laidMetH Tryz.prog Rows.requestOpensRow.laid ((World.doorLaid Tryz.prog 400 os).forCall (fun _ _ => 0) ⟨#[], args, []⟩).memory :=
  laidMetH_of_parts3 (fuel := 8) (laidMet_of_run' 8 (by kernel_rfl) (by kernel_rfl)) (by kernel_rfl) (by kernel_rfl)
theorem of_laid {W : World} (h : laidMetH Tryz.prog Rows.requestOpensRow.laid W) : Consts W Sha.tab := fun i hi => by
  rw [MakeChecks.laidMetH_plain _ _ _ (by kernel_rfl)] at h
  have hT := Lib.tabIs_of_head (k := .u32) (zs := Sha.tableL.map fun n : Nat => (n : Int)) gT gTType Tryz.underlying147 Tryz.underlying30 (by kernel_rfl) (by kernel_rfl) h
  have hl : i < Sha.tableL.length := hi
  rw [hT.cell gT i (by simpa using hl)]
  simp [Sha.tab, List.getD, hl]
set_option maxRecDepth 100000 in
theorem lifted (os : Os) (started : os.Started) (H : Type) (enc : TypeId × Value → H) :
    ReturnsInHanded {} Tryz.checked os 5 .any (fun w args => (Rows.requestOpensSpec.pre enc Tryz.prog Tryz.f5 [] false w args ∧ laidMetH Tryz.prog Rows.requestOpensRow.laid w) ∧ sizedMet enc Tryz.prog Tryz.f5 (OpenSpec.ofChange Rows.requestOpensSpec) false w args)
      (Rows.requestOpensSpec.post enc Tryz.prog Tryz.f5 false true false false) := by
  refine returnsInHanded_of_change_and (C := Tryz.checked) (X := fun w _ => laidMetH Tryz.prog Rows.requestOpensRow.laid w) (fun _ _ _ hh h => h.of_heap hh) own started (by kernel_rfl) Tryz.func5
    (ChangeSpec.witness_shaped (enc := enc) (C := Tryz.checked) (os := os) (X := fun w _ => laidMetH Tryz.prog Rows.requestOpensRow.laid w) false (World.doorLaid Tryz.prog 400 os) #[.agg #[.int .u8 0, .int .u8 0, .int .u8 0, .int .u8 0, .int .u8 0, .int .u8 0, .int .u8 0, .int .u8 0, .int .u8 0, .int .u8 0, .int .u8 0, .int .u8 0, .int .u8 0, .int .u8 0, .int .u8 0, .int .u8 0], .agg #[.int .u8 0, .int .u8 0, .int .u8 0, .int .u8 0, .int .u8 0, .int .u8 0, .int .u8 0, .int .u8 0, .int .u8 0, .int .u8 0, .int .u8 0, .int .u8 0, .int .u8 0, .int .u8 0, .int .u8 0, .int .u8 0], .slice none 0 0, .slice none 0 0, .int .u8 0] 8 rfl (World.shaped_of_RefB (by kernel_rfl) (by kernel_rfl)) (by kernel_rfl) (by kernel_rfl) (by kernel_rfl) (door_met os _)) ?_
  intro W base args ds gs before hval0 hW _ _ hL _
  have hK := of_laid hL
  have hval : ∀ (j : Nat) t v, Tryz.f5.params[j]? = some t → args[j]? = some v → Value.okWide Tryz.prog W .any base t v := hval0
  have hW' := hW
  obtain ⟨p, q, hA0, hV, rfl, _, _⟩ := hW
  have hA : DataW.TrodAll enc Tryz.prog W 0 (fun _ => true) true Tryz.f5.params.toList args.toList ds p := hA0
  rw [Tryz.params5] at hA hval
  obtain ⟨v0, vs0, d0, ds0, p0, q0, hargs, rfl, rfl, h0, r0⟩ := trodAll_cons hA
  obtain ⟨v1, vs1, d1, ds1, p1, q1, rfl, rfl, rfl, h1, r1⟩ := trodAll_cons r0
  obtain ⟨v2, vs2, d2, ds2, p2, q2, rfl, rfl, rfl, h2, r2⟩ := trodAll_cons r1
  obtain ⟨v3, vs3, d3, ds3, p3, q3, rfl, rfl, rfl, h3, r3⟩ := trodAll_cons r2
  obtain ⟨v4, vs4, d4, ds4, p4, q4, rfl, rfl, rfl, h4, r4⟩ := trodAll_cons r3
  obtain ⟨rfl, rfl, rfl⟩ := trodAll_nil r4
  obtain rfl : args = #[v0, v1, v2, v3, v4] := by cases args; simp_all
  obtain ⟨rfl, rfl⟩ := trodVars_none hV
  have k0 := h0
  have lt0 : ∀ x ∈ p0, x.block < W.heap.size := by obtain ⟨m, hm⟩ := k0; exact DataW.trod_lt m _ _ _ hm
  obtain ⟨a0, rfl, w0⟩ := open_int_array Tryz.underlying22 Tryz.underlying5 (by kernel_rfl) (by kernel_rfl) (hval 0 22 v0 rfl rfl) h0
  have k1 := h1
  have lt1 : ∀ x ∈ p1, x.block < W.heap.size := by obtain ⟨m, hm⟩ := k1; exact DataW.trod_lt m _ _ _ hm
  obtain ⟨a1, rfl, w1⟩ := open_int_array Tryz.underlying22 Tryz.underlying5 (by kernel_rfl) (by kernel_rfl) (hval 1 22 v1 rfl rfl) h1
  have k2 := h2
  have lt2 : ∀ x ∈ p2, x.block < W.heap.size := by obtain ⟨m, hm⟩ := k2; exact DataW.trod_lt m _ _ _ hm
  obtain ⟨a2, len2, cap2, rfl⟩ := okWide_slice Tryz.underlying24 (hval 2 24 v2 rfl rfl)
  obtain ⟨z2, w2⟩ := open_bytes Tryz.underlying24 Tryz.underlying5 (by kernel_rfl) h2
  have k3 := h3
  have lt3 : ∀ x ∈ p3, x.block < W.heap.size := by obtain ⟨m, hm⟩ := k3; exact DataW.trod_lt m _ _ _ hm
  obtain ⟨a3, len3, cap3, rfl⟩ := okWide_slice Tryz.underlying24 (hval 3 24 v3 rfl rfl)
  obtain ⟨z3, w3⟩ := open_bytes Tryz.underlying24 Tryz.underlying5 (by kernel_rfl) h3
  have k4 := h4
  have lt4 : ∀ x ∈ p4, x.block < W.heap.size := by obtain ⟨m, hm⟩ := k4; exact DataW.trod_lt m _ _ _ hm
  obtain ⟨a4, rfl, _, _, w4⟩ := open_int Tryz.underlying5 (hval 4 5 v4 rfl rfl) h4
  refine (requestOpens_walk W a0 w0 a1 w1 _ z2 w2 _ z3 w3 a4 w4 hK).mono fun e W' ⟨he, bel⟩ => ?_
  subst he
  exact ⟨_, rfl, _, _, _, [], _, [], hW', trodAll_mk1 (shut_bool Tryz.underlying4 _), (trodAll_cons_mk (Below.trod laidOut (by kernel_rfl) (of_decide_eq_true (by kernel_rfl)) k0 bel lt0) (trodAll_cons_mk (Below.trod laidOut (by kernel_rfl) (of_decide_eq_true (by kernel_rfl)) k1 bel lt1) (trodAll_cons_mk (Below.trod laidOut (by kernel_rfl) (of_decide_eq_true (by kernel_rfl)) k2 bel lt2) (trodAll_cons_mk (Below.trod laidOut (by kernel_rfl) (of_decide_eq_true (by kernel_rfl)) k3 bel lt3) (trodAll_cons_mk (Below.trod laidOut (by kernel_rfl) (of_decide_eq_true (by kernel_rfl)) k4 bel lt4) trodAll_mk0))))), rfl, bel.frame _, fun h => by cases h⟩
theorem over : Rows.requestOpensRow.holds Tryz.pinned (OpenSpec.ofChange Rows.requestOpensSpec) :=
  OpenClaim.holds_of_wide 5 Tryz.f5 rfl rfl rfl rfl rfl rfl rfl ⟨rfl, rfl, rfl, rfl, rfl⟩ rfl rfl rfl rfl rfl (by kernel_rfl) Tryz.func5 (by kernel_rfl)
    (of_decide_eq_true (by kernel_rfl)) (by unfold Func.isWrapper; first | (rw [if_pos (by decide +kernel)]; kernel_rfl) | (rw [if_neg (by decide +kernel)]; exact ⟨rfl, rfl⟩))
    (fun os started H enc _ => lifted os started H enc)
end requestOpensF
/-- The row. -/
theorem requestOpens_row : Rows.RequestOpensSaid := requestOpensF.over
/-- The statement: the card. -/
theorem requestOpens_holds : Rows.RequestOpensCardSaid :=
  Claim7.holds_tied_plain_at .later [] [.data] true Rows.requestOpensCard.stood.harness false
    requestOpens_row (fun _ h => by cases h) (by kernel_rfl) (fun _ h => by cases h) requestOpens_row_tie rfl ⟨rfl, rfl⟩ (by kernel_rfl) rfl
    (fun f fn hf hfn => by
      obtain rfl : f = 5 := Option.some.inj ((show Tryz.prog.funcNamed "toll/tolllaw14.RequestOpens" = some 5 by kernel_rfl).symm.trans hf) |>.symm
      obtain rfl : fn = Tryz.f5 := (Option.some.inj (Tryz.func5.symm.trans hfn)).symm
      exact ⟨by kernel_rfl, fun j t ht => by
        rw [Tryz.params5] at ht
        have hm : t ∈ [22, 22, 24, 24, 5] := by simpa using Array.mem_of_getElem? ht
        have hall : ([22, 22, 24, 24, 5].all fun u => !Tryz.prog.wantsStandIn u) = true := by kernel_rfl
        exact (show Tryz.prog.wantsStandIn t = false by simpa using List.all_eq_true.1 hall t hm)⟩)
    (by kernel_rfl)
#print axioms requestOpens_holds
end Go.Proofs.YtnhchdkchohnbaaGreatDoor
