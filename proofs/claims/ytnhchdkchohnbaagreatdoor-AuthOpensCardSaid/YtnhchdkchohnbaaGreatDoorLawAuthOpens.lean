/- Any string is opened as in the reference implementation: also one that is sealed, but holds no authenticator, or has another usage: for every key, usage, nonce, bytes and choice the law returns true. The variable sha.constants reads as the program's text lays it. -/
import Derived.Test.YtnhchdkchohnbaaGreatDoorAutG
import Derived.Test.YtnhchdkchohnbaaGreatDoorAutO
namespace Go.Proofs.YtnhchdkchohnbaaGreatDoor
open Go.ChangeShapes Go.WideShapes Go.ChangeAt Go.RowKit Go.Deep

set_option maxRecDepth 100000 in
set_option maxHeartbeats 8000000 in
theorem authOpens_out (key nonce : Nat → Nat) (_hk : Aes.B8 key) (_hn : Aes.B8 nonce) (us : Nat) (_hus : us < 256) (v : Value) (l : List Nat) (w : World) (hv : Rs w v l) (raw : Bool) (hl : 1500 < l.length) (hK : Consts w Sha.tab) :
    Calls Tryz.prog 3 #[.agg (arr .u8 16 key), .int .u8 (us : Int), .agg (arr .u8 8 nonce), v, .bool raw] w (RetBool true w) := by
  have HK := Lib.hid hK; clear hK
  obtain ⟨a0, e0, B0⟩ := kn_boxes w key nonce
  have G0 := only_of_below B0 none
  clear B0
  have s1 := arr_size .u8 16 key
  have s2 := arr_size .u8 8 nonce
  obtain ⟨va, vc, rfl⟩ := hv.form
  have HV := Lib.hid (hv.below (below_of_only G0)); clear hv
  go_enter Tryz.func3, Tryz.ntmps3
  go_upto_region 1 with fail
  generalize (w.alloc (.cells (arr .u8 16 key) 22)).alloc (.cells (arr .u8 8 nonce) 23) = W0 at *
  obtain ⟨n1, hn1⟩ : ∃ n, n = w.heap.size + 1 := ⟨_, rfl⟩
  rw [← hn1] at e0 ⊢
  obtain ⟨n0, hn0⟩ : ∃ n, n = w.heap.size := ⟨_, rfl⟩
  rw [← hn0] at a0 ⊢
  clear hn0 hn1
  go_wp2_with fail
  refine (awake_aut _ (HK.out.below (below_of_only G0))).mono ?_
  rintro x w1 ⟨rfl, h1⟩
  have A1 := a0.only (only_of_below h1 none)
  have N1 := e0.only (only_of_below h1 none)
  have G1 := only_trans G0 (only_of_below h1 none)
  have HV := Lib.hid (HV.out.below h1)
  clear a0 e0 G0 h1
  go_wp2_with fail
  all_goals first | omega | skip
  refine (awake_aut _ (HK.out.below (below_of_only G1))).mono ?_
  rintro x w3 ⟨rfl, h3⟩
  have G3 := only_trans G1 (only_of_below h3 none)
  go_wp2_with fail
  go_ret
  exact ⟨rfl, below_of_only G3⟩
set_option maxRecDepth 100000 in
set_option maxHeartbeats 8000000 in
theorem authOpens_raw (key nonce : Nat → Nat) (hk : Aes.B8 key) (_hn : Aes.B8 nonce) (us : Nat) (_hus : us < 256) (v : Value) (l : List Nat) (w : World) (hv : Rs w v l) (hl : l.length ≤ 1500) (hK : Consts w Sha.tab) :
    Calls Tryz.prog 3 #[.agg (arr .u8 16 key), .int .u8 (us : Int), .agg (arr .u8 8 nonce), v, .bool true] w (RetBool true w) := by
  have HK := Lib.hid hK; clear hK
  obtain ⟨a0, e0, B0⟩ := kn_boxes w key nonce
  have G0 := only_of_below B0 none
  clear B0
  have s1 := arr_size .u8 16 key
  have s2 := arr_size .u8 8 nonce
  obtain ⟨va, vc, rfl⟩ := hv.form
  have HV := Lib.hid (hv.below (below_of_only G0)); clear hv
  go_enter Tryz.func3, Tryz.ntmps3
  go_upto_region 1 with fail
  generalize (w.alloc (.cells (arr .u8 16 key) 22)).alloc (.cells (arr .u8 8 nonce) 23) = W0 at *
  obtain ⟨n1, hn1⟩ : ∃ n, n = w.heap.size + 1 := ⟨_, rfl⟩
  rw [← hn1] at e0 ⊢
  obtain ⟨n0, hn0⟩ : ∃ n, n = w.heap.size := ⟨_, rfl⟩
  rw [← hn0] at a0 ⊢
  clear hn0 hn1
  go_wp2_with fail
  refine (awake_aut _ (HK.out.below (below_of_only G0))).mono ?_
  rintro x w1 ⟨rfl, h1⟩
  have A1 := a0.only (only_of_below h1 none)
  have N1 := e0.only (only_of_below h1 none)
  have G1 := only_trans G0 (only_of_below h1 none)
  have HV := Lib.hid (HV.out.below h1)
  clear a0 e0 G0 h1
  have HLEN := Lib.hid (show l.length ≤ 1000000 by omega)
  go_upto_region 6 with fail
  all_goals first | omega | skip
  go_wp2_with (refine wpList_load_row rfl _ _ rfl n0 rfl _ _ (0, 0) _ A1 rfl rfl (info16s _) ?_)
  refine (auopen_any key _ l w1 hk HV.out HLEN.out (HK.out.below (below_of_only G1))).mono ?_
  rintro x w6 ⟨hb6, q6, u6, ss6, t6, m6, s6, rfl, o6, hq6, hm6, hs6, ht6⟩
  obtain ⟨ua6, uc6, rfl⟩ := o6.ss.form
  have F := fresh_row w6 #[.string ⟨#[]⟩, .slice none 0 0, .int .i64 0, .int .u32 0, .int .u32 0] (au q6 (.slice ua6 ss6.length uc6) t6 m6 s6) 32
  have P7 : Ab _ w6.heap.size q6 _ ss6 t6 m6 s6 := ⟨F.1, o6.ss.only F.2, hq6, hm6, hs6⟩
  have F6 := only_trans (only_of_below hb6 none) F.2
  have A7 := A1.only F6
  have O7 := Lib.hid (HV.out.below (below_of_only F6))
  have G7 := only_trans G1 F6
  clear o6 F6
  go_upto_region 7 with (refine wpList_store_rowTo rfl _ _ _ rfl rfl w6.heap.size _ rfl rfl _ _ (heap_alloc_new _ _) (info_au _ _ _ _ _) (by rw [au_size]; rfl) (au_one _ _ _ _ _ rfl) ?_)
  generalize World.setRow _ w6.heap.size _ = W7 at *
  generalize w6.heap.size = b6 at *
  clear F hb6
  go_wp2_with (refine wpList_load_row rfl _ _ rfl n0 rfl _ _ (0, 0) _ A7 rfl rfl (info16s _) ?_)
  refine (refauopen_any key _ l W7 hk O7.out HLEN.out (HK.out.below (below_of_only G7))).mono ?_
  rintro x w8 ⟨hb8, q8, u8, ss8, t8, m8, s8, rfl, o8, hq8, hm8, hs8, ht8⟩
  obtain ⟨ua8, uc8, rfl⟩ := o8.ss.form
  have F := fresh_row w8 #[.string ⟨#[]⟩, .slice none 0 0, .int .i64 0, .int .u32 0, .int .u32 0] (au q8 (.slice ua8 ss8.length uc8) t8 m8 s8) 32
  have Q9 : Ab _ w8.heap.size q8 _ ss8 t8 m8 s8 := ⟨F.1, o8.ss.only F.2, hq8, hm8, hs8⟩
  have F8 := only_trans (only_of_below hb8 none) F.2
  have P9 := P7.only F8
  have G9 := only_trans G7 F8
  have HSM := Lib.hid (asame_of (ht6.trans ht8.symm))
  clear o8 F8 P7 A7 G7
  generalize (Aut.opn key l).2 = code at *
  go_upto_region 8 with (refine wpList_store_rowTo rfl _ _ _ rfl rfl w8.heap.size _ rfl rfl _ _ (heap_alloc_new _ _) (info_au _ _ _ _ _) (by rw [au_size]; rfl) (au_one _ _ _ _ _ rfl) ?_)
  generalize World.setRow _ w8.heap.size _ = W9 at *
  generalize w8.heap.size = b8 at *
  clear F hb8
  go_wp2_with (first | refine wpList_load_row rfl _ _ rfl b6 rfl _ _ (0, 0) _ P9.1 rfl rfl (info_au _ _ _ _ _) ?_ | refine wpList_load_row rfl _ _ rfl b8 rfl _ _ (0, 0) _ Q9.1 rfl rfl (info_au _ _ _ _ _) ?_)
  refine (refausame_any q6 q8 _ _ ss6 ss8 t6 t8 m6 s6 m8 s8 W9 hq6 hq8 P9.2.1 Q9.2.1).mono ?_
  rintro x w10 ⟨rfl, g10⟩
  rw [HSM.out]
  have G10 := only_trans G9 g10
  go_wp2_with fail
  go_ret
  refine ⟨?_, below_of_only G10⟩
  first | rfl | simp
set_option maxRecDepth 100000 in
set_option maxHeartbeats 8000000 in
theorem authOpens_sealed (key nonce : Nat → Nat) (hk : Aes.B8 key) (hn : Aes.B8 nonce) (us : Nat) (hus : us < 256) (v : Value) (l : List Nat) (w : World) (hv : Rs w v l) (hl : l.length ≤ 1500) (hK : Consts w Sha.tab) :
    Calls Tryz.prog 3 #[.agg (arr .u8 16 key), .int .u8 (us : Int), .agg (arr .u8 8 nonce), v, .bool false] w (RetBool true w) := by
  have HK := Lib.hid hK; clear hK
  obtain ⟨a0, e0, B0⟩ := kn_boxes w key nonce
  have G0 := only_of_below B0 none
  clear B0
  have s1 := arr_size .u8 16 key
  have s2 := arr_size .u8 8 nonce
  obtain ⟨va, vc, rfl⟩ := hv.form
  have HV := Lib.hid (hv.below (below_of_only G0)); clear hv
  go_enter Tryz.func3, Tryz.ntmps3
  go_upto_region 1 with fail
  generalize (w.alloc (.cells (arr .u8 16 key) 22)).alloc (.cells (arr .u8 8 nonce) 23) = W0 at *
  obtain ⟨n1, hn1⟩ : ∃ n, n = w.heap.size + 1 := ⟨_, rfl⟩
  rw [← hn1] at e0 ⊢
  obtain ⟨n0, hn0⟩ : ∃ n, n = w.heap.size := ⟨_, rfl⟩
  rw [← hn0] at a0 ⊢
  clear hn0 hn1
  go_wp2_with fail
  refine (awake_aut _ (HK.out.below (below_of_only G0))).mono ?_
  rintro x w1 ⟨rfl, h1⟩
  have A1 := a0.only (only_of_below h1 none)
  have N1 := e0.only (only_of_below h1 none)
  have G1 := only_trans G0 (only_of_below h1 none)
  have HV := Lib.hid (HV.out.below h1)
  clear a0 e0 G0 h1
  have hsl := Sea.seal_length key us nonce l
  have HLEN := Lib.hid (show (Sea.sld key us nonce l).length ≤ 1000000 by omega)
  clear hsl
  go_wp2_with (first | refine wpList_load_row rfl _ _ rfl n0 rfl _ _ (0, 0) _ A1 rfl rfl (info16s _) ?_ | refine wpList_load_row rfl _ _ rfl n1 rfl _ _ (0, 0) _ N1 rfl rfl (info8s _) ?_)
  all_goals first | omega | skip
  refine (refseal_any key nonce us _ l w1 hk hn hus HV.out (by omega)).mono ?_
  rintro x w3 ⟨v3, rfl, o3, hb3⟩
  obtain ⟨a3, c3, rfl⟩ := o3.form
  have A3 := A1.only (only_of_below hb3 none)
  have G3 := only_trans G1 (only_of_below hb3 none)
  have O3 := Lib.hid o3.bs.rs
  clear o3 hb3 A1 N1 G1
  generalize Sea.sld key us nonce l = SS at *
  go_wp2_with (refine wpList_load_row rfl _ _ rfl n0 rfl _ _ (0, 0) _ A3 rfl rfl (info16s _) ?_)
  refine (auopen_any key _ SS w3 hk O3.out HLEN.out (HK.out.below (below_of_only G3))).mono ?_
  rintro x w6 ⟨hb6, q6, u6, ss6, t6, m6, s6, rfl, o6, hq6, hm6, hs6, ht6⟩
  obtain ⟨ua6, uc6, rfl⟩ := o6.ss.form
  have F := fresh_row w6 #[.string ⟨#[]⟩, .slice none 0 0, .int .i64 0, .int .u32 0, .int .u32 0] (au q6 (.slice ua6 ss6.length uc6) t6 m6 s6) 32
  have P7 : Ab _ w6.heap.size q6 _ ss6 t6 m6 s6 := ⟨F.1, o6.ss.only F.2, hq6, hm6, hs6⟩
  have F6 := only_trans (only_of_below hb6 none) F.2
  have A7 := A3.only F6
  have O7 := Lib.hid (O3.out.below (below_of_only F6))
  have G7 := only_trans G3 F6
  clear o6 F6
  go_upto_region 7 with (refine wpList_store_rowTo rfl _ _ _ rfl rfl w6.heap.size _ rfl rfl _ _ (heap_alloc_new _ _) (info_au _ _ _ _ _) (by rw [au_size]; rfl) (au_one _ _ _ _ _ rfl) ?_)
  generalize World.setRow _ w6.heap.size _ = W7 at *
  generalize w6.heap.size = b6 at *
  clear F hb6
  go_wp2_with (refine wpList_load_row rfl _ _ rfl n0 rfl _ _ (0, 0) _ A7 rfl rfl (info16s _) ?_)
  refine (refauopen_any key _ SS W7 hk O7.out HLEN.out (HK.out.below (below_of_only G7))).mono ?_
  rintro x w8 ⟨hb8, q8, u8, ss8, t8, m8, s8, rfl, o8, hq8, hm8, hs8, ht8⟩
  obtain ⟨ua8, uc8, rfl⟩ := o8.ss.form
  have F := fresh_row w8 #[.string ⟨#[]⟩, .slice none 0 0, .int .i64 0, .int .u32 0, .int .u32 0] (au q8 (.slice ua8 ss8.length uc8) t8 m8 s8) 32
  have Q9 : Ab _ w8.heap.size q8 _ ss8 t8 m8 s8 := ⟨F.1, o8.ss.only F.2, hq8, hm8, hs8⟩
  have F8 := only_trans (only_of_below hb8 none) F.2
  have P9 := P7.only F8
  have G9 := only_trans G7 F8
  have HSM := Lib.hid (asame_of (ht6.trans ht8.symm))
  clear o8 F8 P7 A7 G7
  generalize (Aut.opn key SS).2 = code at *
  go_upto_region 8 with (refine wpList_store_rowTo rfl _ _ _ rfl rfl w8.heap.size _ rfl rfl _ _ (heap_alloc_new _ _) (info_au _ _ _ _ _) (by rw [au_size]; rfl) (au_one _ _ _ _ _ rfl) ?_)
  generalize World.setRow _ w8.heap.size _ = W9 at *
  generalize w8.heap.size = b8 at *
  clear F hb8
  go_wp2_with (first | refine wpList_load_row rfl _ _ rfl b6 rfl _ _ (0, 0) _ P9.1 rfl rfl (info_au _ _ _ _ _) ?_ | refine wpList_load_row rfl _ _ rfl b8 rfl _ _ (0, 0) _ Q9.1 rfl rfl (info_au _ _ _ _ _) ?_)
  refine (refausame_any q6 q8 _ _ ss6 ss8 t6 t8 m6 s6 m8 s8 W9 hq6 hq8 P9.2.1 Q9.2.1).mono ?_
  rintro x w10 ⟨rfl, g10⟩
  rw [HSM.out]
  have G10 := only_trans G9 g10
  go_wp2_with fail
  go_ret
  refine ⟨?_, below_of_only G10⟩
  first | rfl | simp
theorem authOpens_walk (w : World) (f : Nat → Int) (wf : ∀ j, j < 16 → (Lit.int .u8 (f j)).wf = true) (x : Int) (wx : (Lit.int .u8 x).wf = true) (g : Nat → Int) (wg : ∀ j, j < 8 → (Lit.int .u8 (g j)).wf = true) (v : Value) (l : List Nat) (hv : Rs w v l) (raw : Bool) (hK : Consts w Sha.tab) :
    Calls Tryz.prog 3 #[.agg ((List.range 16).map fun i => Value.int .u8 (f i)).toArray, .int .u8 x, .agg ((List.range 8).map fun i => Value.int .u8 (g i)).toArray, v, .bool raw] w (RetBool true w) := by
  obtain ⟨key, hk, e1⟩ := bytes_arg f wf
  obtain ⟨nonce, hn, e2⟩ := bytes_arg g wg
  have hx := u8_range wx
  obtain ⟨us, rfl⟩ := Int.eq_ofNat_of_zero_le hx.1
  rw [e1, e2]
  by_cases hl : 1500 < l.length
  · exact authOpens_out key nonce hk hn us (by omega) v l w hv raw hl hK
  · cases raw
    · exact authOpens_sealed key nonce hk hn us (by omega) v l w hv (by omega) hK
    · exact authOpens_raw key nonce hk hn us (by omega) v l w hv (by omega) hK

/-! ### THE ROW's STEP -/
namespace authOpensF
theorem own : ownKnob Tryz.prog.godebug = none := by kernel_rfl
theorem laidOut : laidOutB Tryz.prog = true := by kernel_rfl
theorem gT : Tryz.prog.globalNamed "toll/sha.constants" = some 0 := by kernel_rfl
theorem gTType : (Tryz.prog.globals[0]?).map (·.type) = some 147 := by kernel_rfl
theorem door_met (os : Os) (args : Array Value) : laidMetH Tryz.prog Rows.authOpensRow.laid ((World.doorLaid Tryz.prog 400 os).forCall (fun _ _ => 0) ⟨#[], args, []⟩).memory :=
  laidMetH_of_parts3 (fuel := 8) (laidMet_of_run' 8 (by kernel_rfl) (by kernel_rfl)) (by kernel_rfl) (by kernel_rfl)
theorem of_laid {W : World} (h : laidMetH Tryz.prog Rows.authOpensRow.laid W) : Consts W Sha.tab := fun i hi => by
  rw [MakeChecks.laidMetH_plain _ _ _ (by kernel_rfl)] at h
  have hT := Lib.tabIs_of_head (k := .u32) (zs := Sha.tableL.map fun n : Nat => (n : Int)) gT gTType Tryz.underlying147 Tryz.underlying30 (by kernel_rfl) (by kernel_rfl) h
  have hl : i < Sha.tableL.length := hi
  rw [hT.cell gT i (by simpa using hl)]
  simp [Sha.tab, List.getD, hl]
set_option maxRecDepth 100000 in
theorem lifted (os : Os) (started : os.Started) (H : Type) (enc : TypeId × Value → H) :
    ReturnsInHanded {} Tryz.checked os 3 .any (fun w args => (Rows.authOpensSpec.pre enc Tryz.prog Tryz.f3 [] false w args ∧ laidMetH Tryz.prog Rows.authOpensRow.laid w) ∧ sizedMet enc Tryz.prog Tryz.f3 (OpenSpec.ofChange Rows.authOpensSpec) false w args)
      (Rows.authOpensSpec.post enc Tryz.prog Tryz.f3 false true false false) := by
  refine returnsInHanded_of_change_and (C := Tryz.checked) (X := fun w _ => laidMetH Tryz.prog Rows.authOpensRow.laid w) (fun _ _ _ hh h => h.of_heap hh) own started (by kernel_rfl) Tryz.func3
    (ChangeSpec.witness_shaped (enc := enc) (C := Tryz.checked) (os := os) (X := fun w _ => laidMetH Tryz.prog Rows.authOpensRow.laid w) false (World.doorLaid Tryz.prog 400 os) #[.agg #[.int .u8 0, .int .u8 0, .int .u8 0, .int .u8 0, .int .u8 0, .int .u8 0, .int .u8 0, .int .u8 0, .int .u8 0, .int .u8 0, .int .u8 0, .int .u8 0, .int .u8 0, .int .u8 0, .int .u8 0, .int .u8 0], .int .u8 0, .agg #[.int .u8 0, .int .u8 0, .int .u8 0, .int .u8 0, .int .u8 0, .int .u8 0, .int .u8 0, .int .u8 0], .slice none 0 0, .bool false] 8 rfl (World.shaped_of_RefB (by kernel_rfl) (by kernel_rfl)) (by kernel_rfl) (by kernel_rfl) (by kernel_rfl) (door_met os _)) ?_
  intro W base args ds gs before hval0 hW _ _ hL _
  have hK := of_laid hL
  have hval : ∀ (j : Nat) t v, Tryz.f3.params[j]? = some t → args[j]? = some v → Value.okWide Tryz.prog W .any base t v := hval0
  have hW' := hW
  obtain ⟨p, q, hA0, hV, rfl, _, _⟩ := hW
  have hA : DataW.TrodAll enc Tryz.prog W 0 (fun _ => true) true Tryz.f3.params.toList args.toList ds p := hA0
  rw [Tryz.params3] at hA hval
  obtain ⟨v0, vs0, d0, ds0, p0, q0, hargs, rfl, rfl, h0, r0⟩ := trodAll_cons hA
  obtain ⟨v1, vs1, d1, ds1, p1, q1, rfl, rfl, rfl, h1, r1⟩ := trodAll_cons r0
  obtain ⟨v2, vs2, d2, ds2, p2, q2, rfl, rfl, rfl, h2, r2⟩ := trodAll_cons r1
  obtain ⟨v3, vs3, d3, ds3, p3, q3, rfl, rfl, rfl, h3, r3⟩ := trodAll_cons r2
  obtain ⟨v4, vs4, d4, ds4, p4, q4, rfl, rfl, rfl, h4, r4⟩ := trodAll_cons r3
  obtain ⟨rfl, rfl, rfl⟩ := trodAll_nil r4
  obtain rfl : args = #[v0, v1, v2, v3, v4] := by cases args; simp_all
  obtain ⟨rfl, rfl⟩ := trodVars_none hV
  have k0 := h0
  have lt0 : ∀ x ∈ p0, x.block < W.heap.size := by obtain ⟨m, hm⟩ := k0; exact DataW.trod_lt m _ _ _ hm
  obtain ⟨a0, rfl, w0⟩ := open_int_array Tryz.underlying22 Tryz.underlying5 (by kernel_rfl) (by kernel_rfl) (hval 0 22 v0 rfl rfl) h0
  have k1 := h1
  have lt1 : ∀ x ∈ p1, x.block < W.heap.size := by obtain ⟨m, hm⟩ := k1; exact DataW.trod_lt m _ _ _ hm
  obtain ⟨a1, rfl, _, _, w1⟩ := open_int Tryz.underlying5 (hval 1 5 v1 rfl rfl) h1
  have k2 := h2
  have lt2 : ∀ x ∈ p2, x.block < W.heap.size := by obtain ⟨m, hm⟩ := k2; exact DataW.trod_lt m _ _ _ hm
  obtain ⟨a2, rfl, w2⟩ := open_int_array Tryz.underlying23 Tryz.underlying5 (by kernel_rfl) (by kernel_rfl) (hval 2 23 v2 rfl rfl) h2
  have k3 := h3
  have lt3 : ∀ x ∈ p3, x.block < W.heap.size := by obtain ⟨m, hm⟩ := k3; exact DataW.trod_lt m _ _ _ hm
  obtain ⟨a3, len3, cap3, rfl⟩ := okWide_slice Tryz.underlying24 (hval 3 24 v3 rfl rfl)
  obtain ⟨z3, w3⟩ := open_bytes Tryz.underlying24 Tryz.underlying5 (by kernel_rfl) h3
  have k4 := h4
  have lt4 : ∀ x ∈ p4, x.block < W.heap.size := by obtain ⟨m, hm⟩ := k4; exact DataW.trod_lt m _ _ _ hm
  obtain ⟨a4, rfl, _, _⟩ := open_bool Tryz.underlying4 (hval 4 4 v4 rfl rfl) h4
  refine (authOpens_walk W a0 w0 a1 w1 a2 w2 _ z3 w3 a4 hK).mono fun e W' ⟨he, bel⟩ => ?_
  subst he
  exact ⟨_, rfl, _, _, _, [], _, [], hW', trodAll_mk1 (shut_bool Tryz.underlying4 _), (trodAll_cons_mk (Below.trod laidOut (by kernel_rfl) (of_decide_eq_true (by kernel_rfl)) k0 bel lt0) (trodAll_cons_mk (Below.trod laidOut (by kernel_rfl) (of_decide_eq_true (by kernel_rfl)) k1 bel lt1) (trodAll_cons_mk (Below.trod laidOut (by kernel_rfl) (of_decide_eq_true (by kernel_rfl)) k2 bel lt2) (trodAll_cons_mk (Below.trod laidOut (by kernel_rfl) (of_decide_eq_true (by kernel_rfl)) k3 bel lt3) (trodAll_cons_mk (Below.trod laidOut (by kernel_rfl) (of_decide_eq_true (by kernel_rfl)) k4 bel lt4) trodAll_mk0))))), rfl, bel.frame _, fun h => by cases h⟩
theorem over : Rows.authOpensRow.holds Tryz.pinned (OpenSpec.ofChange Rows.authOpensSpec) :=
  OpenClaim.holds_of_wide 3 Tryz.f3 rfl rfl rfl rfl rfl rfl rfl ⟨rfl, rfl, rfl, rfl, rfl⟩ rfl rfl rfl rfl rfl (by kernel_rfl) Tryz.func3 (by kernel_rfl)
    (of_decide_eq_true (by kernel_rfl)) (by unfold Func.isWrapper; first | (rw [if_pos (by decide +kernel)]; kernel_rfl) | (rw [if_neg (by decide +kernel)]; exact ⟨rfl, rfl⟩))
    (fun os started H enc _ => lifted os started H enc)
end authOpensF
/-- The row. -/
theorem authOpens_row : Rows.AuthOpensSaid := authOpensF.over
/-- The statement: the card. -/
theorem authOpens_holds : Rows.AuthOpensCardSaid :=
  Claim7.holds_tied_plain_at .later [] [.data] true Rows.authOpensCard.stood.harness false
    authOpens_row (fun _ h => by cases h) (by kernel_rfl) (fun _ h => by cases h) authOpens_row_tie rfl ⟨rfl, rfl⟩ (by kernel_rfl) rfl
    (fun f fn hf hfn => by
      obtain rfl : f = 3 := Option.some.inj ((show Tryz.prog.funcNamed "toll/tolllaw13.AuthOpens" = some 3 by kernel_rfl).symm.trans hf) |>.symm
      obtain rfl : fn = Tryz.f3 := (Option.some.inj (Tryz.func3.symm.trans hfn)).symm
      exact ⟨by kernel_rfl, fun j t ht => by
        rw [Tryz.params3] at ht
        have hm : t ∈ [22, 5, 23, 24, 4] := by simpa using Array.mem_of_getElem? ht
        have hall : ([22, 5, 23, 24, 4].all fun u => !Tryz.prog.wantsStandIn u) = true := by kernel_rfl
        exact (show Tryz.prog.wantsStandIn t = false by simpa using List.all_eq_true.1 hall t hm)⟩)
    (by kernel_rfl)
#print axioms authOpens_holds
end Go.Proofs.YtnhchdkchohnbaaGreatDoor
