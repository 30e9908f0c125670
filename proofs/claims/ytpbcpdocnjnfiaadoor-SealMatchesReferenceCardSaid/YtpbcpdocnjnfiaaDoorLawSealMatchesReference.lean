/- The sealed string of any bytes is that of the reference implementation, and it is opened again: for every key, usage, nonce and bytes the law returns true. The variable sha.constants reads as the program's text lays it. -/
import Derived.Test.YtpbcpdocnjnfiaaDoorSealKit
namespace Go.Proofs.YtpbcpdocnjnfiaaDoor
open Go.ChangeShapes Go.WideShapes Go.ChangeAt Go.RowKit Go.Deep

set_option maxRecDepth 100000 in
set_option maxHeartbeats 4000000 in
theorem sealMatchesReference_out (key nonce : Nat → Nat) (u : Nat) (v : Value) (l : List Nat) (w : World) (hv : Rs w v l) (hl : 1000 < l.length) (hK : Consts w Sha.tab) :
    Calls Tryd.prog 3 #[.agg (arr .u8 16 key), .int .u8 (u : Int), .agg (arr .u8 8 nonce), v] w (RetBool true w) := by
  have HK := Lib.hid hK; clear hK
  have hsz := arr_size .u8 16 key
  have hsz2 := arr_size .u8 8 nonce
  obtain ⟨xa, xc, rfl⟩ := hv.form
  clear hv
  have B0 := (kn_boxes w key nonce).2.2
  go_enter Tryd.func3, Tryd.ntmps3
  go_wp2_with fail
  refine (awake_seal _ (HK.out.below B0)).mono ?_
  rintro e w1 ⟨rfl, hb1⟩
  have B1 := Lib.hid (B0.trans (hb1.mono B0.size))
  clear hb1 B0
  go_wp2_with fail
  refine (awake_seal _ (HK.out.below B1.out)).mono ?_
  rintro e w2 ⟨rfl, hb2⟩
  have B2 := Lib.hid (B1.out.trans (hb2.mono B1.out.size)); clear hb2 B1
  go_wp2_with fail
  go_ret
  exact ⟨rfl, B2.out⟩

set_option maxRecDepth 100000 in
set_option maxHeartbeats 4000000 in
theorem sealMatchesReference_core (key nonce : Nat → Nat) (u : Nat) (hk : Aes.B8 key) (hn : Aes.B8 nonce) (hu : u < 256) (v : Value) (l : List Nat) (w : World) (hv : Rs w v l) (hl : l.length ≤ 1000) (hK : Consts w Sha.tab) :
    Calls Tryd.prog 3 #[.agg (arr .u8 16 key), .int .u8 (u : Int), .agg (arr .u8 8 nonce), v] w (RetBool true w) := by
  have HK := Lib.hid hK; clear hK
  have HV := Lib.hid hv
  obtain ⟨xa, xc, rfl⟩ := hv.form
  clear hv
  have hsz := arr_size .u8 16 key
  have hsz2 := arr_size .u8 8 nonce
  obtain ⟨a1, a2, B0⟩ := kn_boxes w key nonce
  have hsl := Sea.seal_length key u nonce l
  have HOP := Lib.hid (Sea.op_seal key u nonce l)
  have HNN := Lib.hid (show ∀ i, i < 8 → Sea.nonI (Sea.sld key u nonce l) i = nonce i from fun i hi => by
    unfold Sea.nonI
    rw [if_neg (by rw [hsl]; omega)]
    exact Sea.non_seal key u nonce l i hi)
  obtain ⟨S, hS⟩ : ∃ S, S = Sea.sld key u nonce l := ⟨_, rfl⟩
  rw [← hS] at hsl HOP HNN
  have HS := Lib.hid hS.symm; clear hS
  have HSL := Lib.hid hsl; clear hsl
  have heq : ∀ W : World, (Op.equalIn 10000 23 (.agg (arr .u8 8 (Sea.nonI S))) (.agg (arr .u8 8 nonce))).run Tryd.prog W = .ok true W := fun W => by
    rw [run_equalIn_arr (P := Tryd.prog) (k := .u8) (n := 8) W (Sea.nonI S) nonce Tryd.underlying23 Tryd.underlying5 (by kernel_rfl), sameArr_yes HNN.out]
  have HEQ := Lib.hid heq; clear heq
  go_enter Tryd.func3, Tryd.ntmps3
  go_wp2_with fail
  refine (awake_seal _ (HK.out.below B0)).mono ?_
  rintro e w1 ⟨rfl, hb1⟩
  have k1 := a1.below hb1 a1.lt
  have k2 := a2.below hb1 a2.lt
  have B1 := B0.trans (hb1.mono B0.size)
  clear a1 a2 B0 hb1
  obtain ⟨n0, hn0⟩ : ∃ n, n = w.heap.size := ⟨_, rfl⟩
  obtain ⟨n1, hn1⟩ : ∃ n, n = w.heap.size + 1 := ⟨_, rfl⟩
  rw [← hn0] at k1
  rw [← hn1] at k2
  have RV := Lib.hid (HV.out.below B1)
  have HN0 := Lib.hid hn0; have HN1 := Lib.hid hn1; clear hn0 hn1
  go_upto_region 4 with (at_builtin; go_must (refine wpList_append_rs rfl _ _ rfl w1.heap.size (.slice (some ⟨w1.heap.size, 0, none⟩) 0 0) [] rfl (own_built w1 _ [] AllB.nil (Nat.le_refl _) (by simp)) _ l rfl (RV.out.below ((Below.refl _ _).alloc (Nat.le_refl _) _)) (by simp; omega) (by simp) ?_; intro v2 w2 o2 hg2))
  all_goals first | omega | skip
  rw [List.nil_append] at o2
  have hb2 := below_only ((Below.refl w1.heap.size w1).alloc (Nat.le_refl _) (.cells #[] 5)) (Nat.le_refl _) hg2 (fun g hg => by simp [Value.ownBlock] at hg; omega)
  have k1 := k1.below hb2 k1.lt
  have k2 := k2.below hb2 k2.lt
  have B2 := B1.trans (hb2.mono B1.size)
  have O2 := Lib.hid o2.bs.rs
  have RV := Lib.hid (RV.out.below hb2)
  have HK2 := Lib.hid (HK.out.below B2)
  clear o2 hg2 hb2 B1
  rw [← HN1.out, ← HN0.out]
  obtain ⟨ya, yc, hv2⟩ := O2.out.form
  subst hv2
  go_wp2_with (first | refine wpList_load_row rfl _ _ rfl n0 rfl _ _ (0, 0) _ k1 rfl rfl (info16s _) ?_ | refine wpList_load_row rfl _ _ rfl n1 rfl _ _ (0, 0) _ k2 rfl rfl (info8s _) ?_)
  refine (seal_any key nonce u _ l w2 hk hn hu O2.out (by omega) HK2.out).mono ?_
  rintro e w3 ⟨v3, rfl, o3, hb3⟩
  rw [HS.out] at o3
  have k1 := k1.below hb3 k1.lt
  have k2 := k2.below hb3 k2.lt
  have B3 := B2.trans (hb3.mono B2.size)
  have O2 := Lib.hid (O2.out.below hb3)
  have O3 := Lib.hid o3.bs.rs
  have RV := Lib.hid (RV.out.below hb3)
  clear o3 hb3 B2
  obtain ⟨za, zc, hv3⟩ := O3.out.form
  subst hv3
  rw [HSL.out] at O3 ⊢
  go_wp2_with (first | refine wpList_load_row rfl _ _ rfl n0 rfl _ _ (0, 0) _ k1 rfl rfl (info16s _) ?_ | refine wpList_load_row rfl _ _ rfl n1 rfl _ _ (0, 0) _ k2 rfl rfl (info8s _) ?_)
  refine (refseal_any key nonce u _ l w3 hk hn hu RV.out (by omega)).mono ?_
  rintro e w4 ⟨v4, rfl, o4, hb4⟩
  rw [HS.out] at o4
  have k1 := k1.below hb4 k1.lt
  have k2 := k2.below hb4 k2.lt
  have B4 := B3.trans (hb4.mono B3.size)
  have O2 := Lib.hid (O2.out.below hb4)
  have O3 := Lib.hid (O3.out.below hb4)
  have RV := Lib.hid (RV.out.below hb4)
  have O4 := Lib.hid o4.bs.rs
  clear o4 hb4 B3
  go_wp2_with (first | refine wpList_load_row rfl _ _ rfl n0 rfl _ _ (0, 0) _ k1 rfl rfl (info16s _) ?_ | refine wpList_load_row rfl _ _ rfl n1 rfl _ _ (0, 0) _ k2 rfl rfl (info8s _) ?_)
  refine (same_yes _ _ _ _ O3.out O4.out).mono ?_
  rintro e w5 ⟨rfl, hb5⟩
  have k1 := k1.below hb5 k1.lt
  have k2 := k2.below hb5 k2.lt
  have B5 := B4.trans (hb5.mono B4.size)
  have O2 := Lib.hid (O2.out.below hb5)
  have O3 := Lib.hid (O3.out.below hb5)
  have RV := Lib.hid (RV.out.below hb5)
  clear hb5 B4 O4
  go_wp2_with (first | refine wpList_load_row rfl _ _ rfl n0 rfl _ _ (0, 0) _ k1 rfl rfl (info16s _) ?_ | refine wpList_load_row rfl _ _ rfl n1 rfl _ _ (0, 0) _ k2 rfl rfl (info8s _) ?_)
  all_goals first | omega | skip
  refine (same_yes _ _ _ _ O2.out RV.out).mono ?_
  rintro e w6 ⟨rfl, hb6⟩
  have k1 := k1.below hb6 k1.lt
  have k2 := k2.below hb6 k2.lt
  have B6 := B5.trans (hb6.mono B5.size)
  have O3 := Lib.hid (O3.out.below hb6)
  have RV := Lib.hid (RV.out.below hb6)
  clear hb6 B5 O2
  go_wp2_with (first | refine wpList_load_row rfl _ _ rfl n0 rfl _ _ (0, 0) _ k1 rfl rfl (info16s _) ?_ | refine wpList_load_row rfl _ _ rfl n1 rfl _ _ (0, 0) _ k2 rfl rfl (info8s _) ?_)
  refine (open_any key u _ S w6 hk hu O3.out (by rw [HSL.out]; omega) (HK.out.below B6)).mono ?_
  rintro e w7 ht
  rw [HOP.out] at ht
  obtain ⟨v7, rfl, o7, hb7⟩ := retPut_some ht
  clear ht
  have k1 := k1.below hb7 k1.lt
  have k2 := k2.below hb7 k2.lt
  have B7 := B6.trans (hb7.mono B6.size)
  have O3 := Lib.hid (O3.out.below hb7)
  have RV := Lib.hid (RV.out.below hb7)
  have O7 := Lib.hid o7.bs.rs
  clear o7 hb7 B6
  obtain ⟨ta, tc, hv7⟩ := O7.out.form
  subst hv7
  go_wp2_with (first | refine wpList_load_row rfl _ _ rfl n0 rfl _ _ (0, 0) _ k1 rfl rfl (info16s _) ?_ | refine wpList_load_row rfl _ _ rfl n1 rfl _ _ (0, 0) _ k2 rfl rfl (info8s _) ?_)
  refine (nonce_any _ S w7 O3.out).mono ?_
  rintro e w8 ⟨rfl, hb8⟩
  rw [decide_eq_true (show 24 ≤ S.length by rw [HSL.out]; omega)]
  have k1 := k1.below hb8 k1.lt
  have k2 := k2.below hb8 k2.lt
  have B8 := B7.trans (hb8.mono B7.size)
  have O7 := Lib.hid (O7.out.below hb8)
  have RV := Lib.hid (RV.out.below hb8)
  clear hb8 B7 O3
  go_upto_region 9 with (refine wpList_store_rowTo rfl _ _ _ rfl rfl w8.heap.size _ rfl rfl _ _ (heap_alloc_new _ _) (info8s _) (by rw [arr_size]; rfl) (arr_one _ _ _) ?_)
  generalize hW : World.setRow _ w8.heap.size _ = V
  have k3 : isArr V w8.heap.size 23 .u8 8 (Sea.nonI S) := by rw [← hW]; exact setRow_heap _ _ _ _ _ _ (heap_alloc_new _ _)
  have hb9 : Below w8.heap.size w8 V := by rw [← hW]; exact below_setRow ((Below.refl _ _).alloc (Nat.le_refl _) _) (Nat.le_refl _) _
  clear hW
  have k2 := k2.below hb9 k2.lt
  have B9 := B8.trans (hb9.mono B8.size)
  have O7 := Lib.hid (O7.out.below hb9)
  have RV := Lib.hid (RV.out.below hb9)
  obtain ⟨n3, hn3⟩ : ∃ n, n = w8.heap.size := ⟨_, rfl⟩
  rw [← hn3] at k3 ⊢
  clear hn3 hb9 B8 k1
  go_wp2_with fail
  refine (same_yes _ _ _ _ O7.out RV.out).mono ?_
  rintro e w10 ⟨rfl, hb10⟩
  have k3 := k3.below hb10 k3.lt
  have k2 := k2.below hb10 k2.lt
  have B10 := B9.trans (hb10.mono B9.size)
  have heq := HEQ.out
  clear hb10 B9 O7 RV
  go_wp2_with (first | refine wpList_load_rowG (by kernel_rfl) _ _ rfl n3 rfl _ _ (0, 0) _ k3 rfl rfl (info8s _) ?_ | refine wpList_load_rowG (by kernel_rfl) _ _ rfl n1 rfl _ _ (0, 0) _ k2 rfl rfl (info8s _) ?_)
  go_ret
  exact ⟨rfl, B10⟩

theorem sealMatchesReference_walk (w : World) (f : Nat → Int) (wf : ∀ j, j < 16 → (Lit.int .u8 (f j)).wf = true) (x : Int) (wx : (Lit.int .u8 x).wf = true) (g : Nat → Int) (wg : ∀ j, j < 8 → (Lit.int .u8 (g j)).wf = true) (v : Value) (l : List Nat) (hv : Rs w v l) (hK : Consts w Sha.tab) :
    Calls Tryd.prog 3 #[.agg ((List.range 16).map fun i => Value.int .u8 (f i)).toArray, .int .u8 x, .agg ((List.range 8).map fun i => Value.int .u8 (g i)).toArray, v] w (RetBool true w) := by
  obtain ⟨key, hk, e1⟩ := bytes_arg f wf
  obtain ⟨nonce, hn, e2⟩ := bytes_arg g wg
  have hx := u8_range wx
  obtain ⟨u, rfl⟩ := Int.eq_ofNat_of_zero_le hx.1
  rw [e1, e2]
  by_cases hl : 1000 < l.length
  · exact sealMatchesReference_out key nonce u v l w hv hl hK
  · exact sealMatchesReference_core key nonce u hk hn (by omega) v l w hv (by omega) hK

/-! ### THE ROW's STEP -/
namespace sealMatchesReferenceF
theorem own : ownKnob Tryd.prog.godebug = none := by kernel_rfl
theorem laidOut : laidOutB Tryd.prog = true := by kernel_rfl
theorem gT : Tryd.prog.globalNamed "toll/sha.constants" = some 0 := by kernel_rfl
theorem gTType : (Tryd.prog.globals[0]?).map (·.type) = some 70 := by kernel_rfl
theorem door_met (os : Os) (args : Array Value) : laidMetH Tryd.prog Rows.sealMatchesReferenceRow.laid ((World.doorLaid Tryd.prog 400 os).forCall (fun _ _ => 0) ⟨#[], args, []⟩).memory :=
  laidMetH_of_parts3 (fuel := 8) (laidMet_of_run' 8 (by kernel_rfl) (by kernel_rfl)) (by kernel_rfl) (by kernel_rfl)
theorem of_laid {W : World} (h : laidMetH Tryd.prog Rows.sealMatchesReferenceRow.laid W) : Consts W Sha.tab := fun i hi => by
  rw [MakeChecks.laidMetH_plain _ _ _ (by kernel_rfl)] at h
  have hT := Lib.tabIs_of_head (k := .u32) (zs := Sha.tableL.map fun n : Nat => (n : Int)) gT gTType Tryd.underlying70 Tryd.underlying60 (by kernel_rfl) (by kernel_rfl) h
  have hl : i < Sha.tableL.length := hi
  rw [hT.cell gT i (by simpa using hl)]
  simp [Sha.tab, List.getD, hl]
set_option maxRecDepth 100000 in
theorem lifted (os : Os) (started : os.Started) (H : Type) (enc : TypeId × Value → H) :
    ReturnsInHanded {} Tryd.checked os 3 .any (fun w args => (Rows.sealMatchesReferenceSpec.pre enc Tryd.prog Tryd.f3 [] false w args ∧ laidMetH Tryd.prog Rows.sealMatchesReferenceRow.laid w) ∧ sizedMet enc Tryd.prog Tryd.f3 (OpenSpec.ofChange Rows.sealMatchesReferenceSpec) false w args)
      (Rows.sealMatchesReferenceSpec.post enc Tryd.prog Tryd.f3 false true false false) := by
  refine returnsInHanded_of_change_and (C := Tryd.checked) (X := fun w _ => laidMetH Tryd.prog Rows.sealMatchesReferenceRow.laid w) (fun _ _ _ hh h => h.of_heap hh) own started (by kernel_rfl) Tryd.func3
    (ChangeSpec.witness_shaped (enc := enc) (C := Tryd.checked) (os := os) (X := fun w _ => laidMetH Tryd.prog Rows.sealMatchesReferenceRow.laid w) false (World.doorLaid Tryd.prog 400 os) #[.agg #[.int .u8 0, .int .u8 0, .int .u8 0, .int .u8 0, .int .u8 0, .int .u8 0, .int .u8 0, .int .u8 0, .int .u8 0, .int .u8 0, .int .u8 0, .int .u8 0, .int .u8 0, .int .u8 0, .int .u8 0, .int .u8 0], .int .u8 0, .agg #[.int .u8 0, .int .u8 0, .int .u8 0, .int .u8 0, .int .u8 0, .int .u8 0, .int .u8 0, .int .u8 0], .slice none 0 0] 8 rfl (World.shaped_of_RefB (by kernel_rfl) (by kernel_rfl)) (by kernel_rfl) (by kernel_rfl) (by kernel_rfl) (door_met os _)) ?_
  intro W base args ds gs before hval0 hW _ _ hL _
  have hK := of_laid hL
  have hval : ∀ (j : Nat) t v, Tryd.f3.params[j]? = some t → args[j]? = some v → Value.okWide Tryd.prog W .any base t v := hval0
  have hW' := hW
  obtain ⟨p, q, hA0, hV, rfl, _, _⟩ := hW
  have hA : DataW.TrodAll enc Tryd.prog W 0 (fun _ => true) true Tryd.f3.params.toList args.toList ds p := hA0
  rw [Tryd.params3] at hA hval
  obtain ⟨v0, vs0, d0, ds0, p0, q0, hargs, rfl, rfl, h0, r0⟩ := trodAll_cons hA
  obtain ⟨v1, vs1, d1, ds1, p1, q1, rfl, rfl, rfl, h1, r1⟩ := trodAll_cons r0
  obtain ⟨v2, vs2, d2, ds2, p2, q2, rfl, rfl, rfl, h2, r2⟩ := trodAll_cons r1
  obtain ⟨v3, vs3, d3, ds3, p3, q3, rfl, rfl, rfl, h3, r3⟩ := trodAll_cons r2
  obtain ⟨rfl, rfl, rfl⟩ := trodAll_nil r3
  obtain rfl : args = #[v0, v1, v2, v3] := by cases args; simp_all
  obtain ⟨rfl, rfl⟩ := trodVars_none hV
  have k0 := h0
  have lt0 : ∀ x ∈ p0, x.block < W.heap.size := by obtain ⟨m, hm⟩ := k0; exact DataW.trod_lt m _ _ _ hm
  obtain ⟨a0, rfl, w0⟩ := open_int_array Tryd.underlying22 Tryd.underlying5 (by kernel_rfl) (by kernel_rfl) (hval 0 22 v0 rfl rfl) h0
  have k1 := h1
  have lt1 : ∀ x ∈ p1, x.block < W.heap.size := by obtain ⟨m, hm⟩ := k1; exact DataW.trod_lt m _ _ _ hm
  obtain ⟨a1, rfl, _, _, w1⟩ := open_int Tryd.underlying5 (hval 1 5 v1 rfl rfl) h1
  have k2 := h2
  have lt2 : ∀ x ∈ p2, x.block < W.heap.size := by obtain ⟨m, hm⟩ := k2; exact DataW.trod_lt m _ _ _ hm
  obtain ⟨a2, rfl, w2⟩ := open_int_array Tryd.underlying23 Tryd.underlying5 (by kernel_rfl) (by kernel_rfl) (hval 2 23 v2 rfl rfl) h2
  have k3 := h3
  have lt3 : ∀ x ∈ p3, x.block < W.heap.size := by obtain ⟨m, hm⟩ := k3; exact DataW.trod_lt m _ _ _ hm
  obtain ⟨a3, len3, cap3, rfl⟩ := okWide_slice Tryd.underlying24 (hval 3 24 v3 rfl rfl)
  obtain ⟨z3, w3⟩ := open_bytes Tryd.underlying24 Tryd.underlying5 (by kernel_rfl) h3
  refine (sealMatchesReference_walk W a0 w0 a1 w1 a2 w2 _ z3 w3 hK).mono fun e W' ⟨he, bel⟩ => ?_
  subst he
  exact ⟨_, rfl, _, _, _, [], _, [], hW', trodAll_mk1 (shut_bool Tryd.underlying4 _), (trodAll_cons_mk (Below.trod laidOut (by kernel_rfl) (of_decide_eq_true (by kernel_rfl)) k0 bel lt0) (trodAll_cons_mk (Below.trod laidOut (by kernel_rfl) (of_decide_eq_true (by kernel_rfl)) k1 bel lt1) (trodAll_cons_mk (Below.trod laidOut (by kernel_rfl) (of_decide_eq_true (by kernel_rfl)) k2 bel lt2) (trodAll_cons_mk (Below.trod laidOut (by kernel_rfl) (of_decide_eq_true (by kernel_rfl)) k3 bel lt3) trodAll_mk0)))), rfl, bel.frame _, fun h => by cases h⟩
theorem over : Rows.sealMatchesReferenceRow.holds Tryd.pinned (OpenSpec.ofChange Rows.sealMatchesReferenceSpec) :=
  OpenClaim.holds_of_wide 3 Tryd.f3 rfl rfl rfl rfl rfl rfl rfl ⟨rfl, rfl, rfl, rfl, rfl⟩ rfl rfl rfl rfl rfl (by kernel_rfl) Tryd.func3 (by kernel_rfl)
    (of_decide_eq_true (by kernel_rfl)) (by unfold Func.isWrapper; first | (rw [if_pos (by decide +kernel)]; kernel_rfl) | (rw [if_neg (by decide +kernel)]; exact ⟨rfl, rfl⟩))
    (fun os started H enc _ => lifted os started H enc)
end sealMatchesReferenceF
/-- The row. -/
theorem sealMatchesReference_row : Rows.SealMatchesReferenceSaid := sealMatchesReferenceF.over
/-- The statement: the card. -/
theorem sealMatchesReference_holds : Rows.SealMatchesReferenceCardSaid :=
  Claim7.holds_tied_plain_at .later [] [.data] true Rows.sealMatchesReferenceCard.stood.harness false
    sealMatchesReference_row (fun _ h => by cases h) (by kernel_rfl) (fun _ h => by cases h) sealMatchesReference_row_tie rfl ⟨rfl, rfl⟩ (by kernel_rfl) rfl
    (fun f fn hf hfn => by
      obtain rfl : f = 3 := Option.some.inj ((show Tryd.prog.funcNamed "toll/tolllaw09.SealMatchesReference" = some 3 by kernel_rfl).symm.trans hf) |>.symm
      obtain rfl : fn = Tryd.f3 := (Option.some.inj (Tryd.func3.symm.trans hfn)).symm
      exact ⟨by kernel_rfl, fun j t ht => by
        rw [Tryd.params3] at ht
        have hm : t ∈ [22, 5, 23, 24] := by simpa using Array.mem_of_getElem? ht
        have hall : ([22, 5, 23, 24].all fun u => !Tryd.prog.wantsStandIn u) = true := by kernel_rfl
        exact (show Tryd.prog.wantsStandIn t = false by simpa using List.all_eq_true.1 hall t hm)⟩)
    (by kernel_rfl)
#print axioms sealMatchesReference_holds
end Go.Proofs.YtpbcpdocnjnfiaaDoor
