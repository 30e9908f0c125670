/- Any string is opened exactly if the reference implementation opens it; then it is the sealed string of the result: for every key, usage and bytes the law returns true. The variable sha.constants reads as the program's text lays it. -/
import Derived.Test.YtpbcpdocnjnfiaaDoorSealKit
namespace Go.Proofs.YtpbcpdocnjnfiaaDoor
open Go.ChangeShapes Go.WideShapes Go.ChangeAt Go.RowKit Go.Deep

set_option maxRecDepth 100000 in
set_option maxHeartbeats 4000000 in
theorem sealOpens_out (key : Nat → Nat) (u : Nat) (v : Value) (s : List Nat) (w : World) (hv : Rs w v s) (hl : 1000 < s.length) (hK : Consts w Sha.tab) :
    Calls Tryd.prog 4 #[.agg (arr .u8 16 key), .int .u8 (u : Int), v] w (RetBool true w) := by
  have HK := Lib.hid hK; clear hK
  have hsz := arr_size .u8 16 key
  obtain ⟨xa, xc, rfl⟩ := hv.form
  clear hv
  have B0 := (Below.refl w.heap.size w).alloc (Nat.le_refl _) (.cells (arr .u8 16 key) 22)
  go_enter Tryd.func4, Tryd.ntmps4
  go_wp2_with fail
  refine (awake_seal _ (HK.out.below B0)).mono ?_
  rintro e w1 ⟨rfl, hb1⟩
  have B1 := Lib.hid (B0.trans (hb1.mono B0.size))
  clear hb1 B0
  go_wp2_with fail
  refine (awake_seal _ (HK.out.below B1.out)).mono ?_
  rintro e w2 ⟨rfl, hb2⟩
  have B2 := Lib.hid (B1.out.trans (hb2.mono B1.out.size)); clear hb2 B1
  go_wp2_with fail
  go_ret
  exact ⟨rfl, B2.out⟩

set_option maxRecDepth 100000 in
set_option maxHeartbeats 4000000 in
theorem sealOpens_core (key : Nat → Nat) (u : Nat) (hk : Aes.B8 key) (hu : u < 256) (v : Value) (s : List Nat) (w : World) (hv : Rs w v s) (hl : s.length ≤ 1000) (hK : Consts w Sha.tab) :
    Calls Tryd.prog 4 #[.agg (arr .u8 16 key), .int .u8 (u : Int), v] w (RetBool true w) := by
  have HK := Lib.hid hK; clear hK
  have HV := Lib.hid hv
  obtain ⟨xa, xc, rfl⟩ := hv.form
  clear hv
  have hsz := arr_size .u8 16 key
  have a1 := isArr_new w 22 .u8 16 key
  have B0 := (Below.refl w.heap.size w).alloc (Nat.le_refl _) (.cells (arr .u8 16 key) 22)
  have HRF := Lib.hid (Sea.op_ref key u s)
  go_enter Tryd.func4, Tryd.ntmps4
  go_wp2_with fail
  refine (awake_seal _ (HK.out.below B0)).mono ?_
  rintro e w1 ⟨rfl, hb1⟩
  have k1 := a1.below hb1 a1.lt
  have B1 := B0.trans (hb1.mono B0.size)
  clear a1 B0 hb1
  obtain ⟨n0, hn0⟩ : ∃ n, n = w.heap.size := ⟨_, rfl⟩
  rw [← hn0] at k1
  have RV := Lib.hid (HV.out.below B1)
  have HN0 := Lib.hid hn0; clear hn0
  go_upto_region 3 with fail
  all_goals first | omega | skip
  rw [← HN0.out]
  go_wp2_with (refine wpList_load_row rfl _ _ rfl n0 rfl _ _ (0, 0) _ k1 rfl rfl (info16s _) ?_)
  refine (open_any key u _ s w1 hk hu RV.out (by omega) (HK.out.below B1)).mono ?_
  rintro e w2 ht
  have hsb : ∀ i, Sea.nonI s i < 256 := fun i => by
    unfold Sea.nonI; split
    · omega
    · exact HV.out.1.get i
  have HSB := Lib.hid hsb; clear hsb
  cases hop : Sea.op key u s with
  | none =>
    rw [hop] at ht
    obtain ⟨rfl, hb2⟩ := retPut_none ht
    have hrf := HRF.out
    rw [hop] at hrf
    have HRF2 := Lib.hid hrf
    clear ht hop hrf HRF
    have k1 := k1.below hb2 k1.lt
    have B2 := B1.trans (hb2.mono B1.size)
    have RV := Lib.hid (RV.out.below hb2)
    clear hb2 B1
    go_wp2_with (refine wpList_load_row rfl _ _ rfl n0 rfl _ _ (0, 0) _ k1 rfl rfl (info16s _) ?_)
    refine (refopen_any key u _ s w2 hk hu RV.out (by omega)).mono ?_
    rintro e w3 ht
    rw [← HRF2.out] at ht
    obtain ⟨rfl, hb3⟩ := retPut_none ht
    have B3 := B2.trans (hb3.mono B2.size)
    have RV := Lib.hid (RV.out.below hb3)
    clear ht hb3 B2 k1
    have hnil : Rs w3 (.slice none 0 0) [] := ⟨AllB.nil, by simp, .inl ⟨rfl, rfl⟩⟩
    go_wp2_with fail
    refine (same_yes _ _ [] w3 hnil hnil).mono ?_
    rintro e w4 ⟨rfl, hb4⟩
    have B4 := B3.trans (hb4.mono B3.size)
    have RV := Lib.hid (RV.out.below hb4)
    clear hb4 B3 hnil
    go_wp2_with fail
    refine (nonce_any _ s w4 RV.out).mono ?_
    rintro e w5 ⟨rfl, hb5⟩
    have B5 := B4.trans (hb5.mono B4.size)
    clear hb5 B4
    go_upto_region 8 with (refine wpList_store_rowTo rfl _ _ _ rfl rfl w5.heap.size _ rfl rfl _ _ (heap_alloc_new _ _) (info8s _) (by rw [arr_size]; rfl) (arr_one _ _ _) ?_)
    generalize hW : World.setRow _ w5.heap.size _ = V
    have hb6 : Below w5.heap.size w5 V := by rw [← hW]; exact below_setRow ((Below.refl _ _).alloc (Nat.le_refl _) _) (Nat.le_refl _) _
    clear hW
    have B6 := B5.trans (hb6.mono B5.size)
    clear hb6 B5
    by_cases h24 : 24 ≤ s.length
    · rw [decide_eq_true h24]
      go_wp2_with fail
      all_goals first | omega | skip
      go_ret
      exact ⟨rfl, B6⟩
    · rw [decide_eq_false h24]
      go_wp2_with fail
      all_goals first | omega | skip
      go_ret
      refine ⟨?_, B6⟩
      show Ending.returned (.bool (!decide ((24 : Int) ≤ (s.length : Int)))) = Ending.returned (.bool true)
      rw [decide_eq_false (by omega : ¬ (24 : Int) ≤ (s.length : Int))]; rfl
  | some l =>
    rw [hop] at ht
    obtain ⟨v2, rfl, o2, hb2⟩ := retPut_some ht
    have hrf := HRF.out
    rw [hop] at hrf
    have HRF2 := Lib.hid hrf
    obtain ⟨hsd, h24, hll⟩ := Sea.seal_of_op hop
    have hnf : Sea.nonI s = Sea.non s := by funext i; unfold Sea.nonI; rw [if_neg (by omega)]
    rw [← hnf] at hsd
    have HSD := Lib.hid hsd
    have hl1 : l.length ≤ 1000 := by omega
    clear ht hop hrf HRF hsd hnf hll
    have k1 := k1.below hb2 k1.lt
    have B2 := B1.trans (hb2.mono B1.size)
    have RV := Lib.hid (RV.out.below hb2)
    have O2 := Lib.hid o2.bs.rs
    clear hb2 B1 o2
    obtain ⟨ya, yc, hv2⟩ := O2.out.form
    subst hv2
    go_wp2_with (refine wpList_load_row rfl _ _ rfl n0 rfl _ _ (0, 0) _ k1 rfl rfl (info16s _) ?_)
    refine (refopen_any key u _ s w2 hk hu RV.out (by omega)).mono ?_
    rintro e w3 ht
    rw [← HRF2.out] at ht
    obtain ⟨v3, rfl, o3, hb3⟩ := retPut_some ht
    have k1 := k1.below hb3 k1.lt
    have B3 := B2.trans (hb3.mono B2.size)
    have RV := Lib.hid (RV.out.below hb3)
    have O2 := Lib.hid (O2.out.below hb3)
    have O3 := Lib.hid o3.bs.rs
    clear ht hb3 B2 o3
    go_wp2_with fail
    refine (same_yes _ _ l w3 O2.out O3.out).mono ?_
    rintro e w4 ⟨rfl, hb4⟩
    have k1 := k1.below hb4 k1.lt
    have B4 := B3.trans (hb4.mono B3.size)
    have RV := Lib.hid (RV.out.below hb4)
    have O2 := Lib.hid (O2.out.below hb4)
    clear hb4 B3 O3
    go_wp2_with fail
    refine (nonce_any _ s w4 RV.out).mono ?_
    rintro e w5 ⟨rfl, hb5⟩
    rw [decide_eq_true h24]
    have k1 := k1.below hb5 k1.lt
    have B5 := B4.trans (hb5.mono B4.size)
    have RV := Lib.hid (RV.out.below hb5)
    have O2 := Lib.hid (O2.out.below hb5)
    clear hb5 B4
    go_upto_region 8 with (refine wpList_store_rowTo rfl _ _ _ rfl rfl w5.heap.size _ rfl rfl _ _ (heap_alloc_new _ _) (info8s _) (by rw [arr_size]; rfl) (arr_one _ _ _) ?_)
    generalize hW : World.setRow _ w5.heap.size _ = V
    have k3 : isArr V w5.heap.size 23 .u8 8 (Sea.nonI s) := by rw [← hW]; exact setRow_heap _ _ _ _ _ _ (heap_alloc_new _ _)
    have hb6 : Below w5.heap.size w5 V := by rw [← hW]; exact below_setRow ((Below.refl _ _).alloc (Nat.le_refl _) _) (Nat.le_refl _) _
    clear hW
    have k1 := k1.below hb6 k1.lt
    have B6 := B5.trans (hb6.mono B5.size)
    have RV := Lib.hid (RV.out.below hb6)
    have O2 := Lib.hid (O2.out.below hb6)
    obtain ⟨n3, hn3⟩ : ∃ n, n = w5.heap.size := ⟨_, rfl⟩
    rw [← hn3] at k3 ⊢
    clear hn3 hb6 B5
    go_wp2_with (first | refine wpList_load_rowG (by kernel_rfl) _ _ rfl n0 rfl _ _ (0, 0) _ k1 rfl rfl (info16s _) ?_ | refine wpList_load_rowG (by kernel_rfl) _ _ rfl n3 rfl _ _ (0, 0) _ k3 rfl rfl (info8s _) ?_)
    all_goals first | omega | skip
    refine (seal_any key (Sea.nonI s) u _ l V hk HSB.out hu O2.out (by omega) (HK.out.below B6)).mono ?_
    rintro e w7 ⟨v7, rfl, o7, hb7⟩
    rw [HSD.out] at o7
    have B7 := B6.trans (hb7.mono B6.size)
    have RV := Lib.hid (RV.out.below hb7)
    have O7 := Lib.hid o7.bs.rs
    clear hb7 B6 o7 O2 k1 k3
    go_wp2_with fail
    refine (same_yes _ _ s w7 O7.out RV.out).mono ?_
    rintro e w8 ⟨rfl, hb8⟩
    have B8 := B7.trans (hb8.mono B7.size)
    clear hb8 B7 O7 RV
    go_wp2_with fail
    go_ret
    exact ⟨rfl, B8⟩

theorem sealOpens_walk (w : World) (f : Nat → Int) (wf : ∀ j, j < 16 → (Lit.int .u8 (f j)).wf = true) (x : Int) (wx : (Lit.int .u8 x).wf = true) (v : Value) (s : List Nat) (hv : Rs w v s) (hK : Consts w Sha.tab) :
    Calls Tryd.prog 4 #[.agg ((List.range 16).map fun i => Value.int .u8 (f i)).toArray, .int .u8 x, v] w (RetBool true w) := by
  obtain ⟨key, hk, e1⟩ := bytes_arg f wf
  have hx := u8_range wx
  obtain ⟨u, rfl⟩ := Int.eq_ofNat_of_zero_le hx.1
  rw [e1]
  by_cases hl : 1000 < s.length
  · exact sealOpens_out key u v s w hv hl hK
  · exact sealOpens_core key u hk (by omega) v s w hv (by omega) hK

/-! ### THE ROW's STEP -/
namespace sealOpensF
theorem own : ownKnob Tryd.prog.godebug = none := by kernel_rfl
theorem laidOut : laidOutB Tryd.prog = true := by kernel_rfl
theorem gT : Tryd.prog.globalNamed "toll/sha.constants" = some 0 := by kernel_rfl
theorem gTType : (Tryd.prog.globals[0]?).map (·.type) = some 70 := by kernel_rfl
theorem door_met (os : Os) (args : Array Value) : laidMetH Tryd.prog Rows.sealOpensRow.laid ((World.doorLaid Tryd.prog 400 os).forCall (fun _ _ => 0) ⟨#[], args, []⟩).memory :=
  laidMetH_of_parts3 (fuel := 8) (laidMet_of_run' 8 (by kernel_rfl) (by kernel_rfl)) (by kernel_rfl) (by kernel_rfl)
theorem of_laid {W : World} (h : laidMetH Tryd.prog Rows.sealOpensRow.laid W) : Consts W Sha.tab := fun i hi => by
  rw [MakeChecks.laidMetH_plain _ _ _ (by kernel_rfl)] at h
  have hT := Lib.tabIs_of_head (k := .u32) (zs := Sha.tableL.map fun n : Nat => (n : Int)) gT gTType Tryd.underlying70 Tryd.underlying60 (by kernel_rfl) (by kernel_rfl) h
  have hl : i < Sha.tableL.length := hi
  rw [hT.cell gT i (by simpa using hl)]
  simp [Sha.tab, List.getD, hl]
set_option maxRecDepth 100000 in
theorem lifted (os : Os) (started : os.Started) (H : Type) (enc : TypeId × Value → H) :
    ReturnsInHanded {} Tryd.checked os 4 .any (fun w args => (Rows.sealOpensSpec.pre enc Tryd.prog Tryd.f4 [] false w args ∧ laidMetH Tryd.prog Rows.sealOpensRow.laid w) ∧ sizedMet enc Tryd.prog Tryd.f4 (OpenSpec.ofChange Rows.sealOpensSpec) false w args)
      (Rows.sealOpensSpec.post enc Tryd.prog Tryd.f4 false true false false) := by
  refine returnsInHanded_of_change_and (C := Tryd.checked) (X := fun w _ => laidMetH Tryd.prog Rows.sealOpensRow.laid w) (fun _ _ _ hh h => h.of_heap hh) own started (by kernel_rfl) Tryd.func4
    (ChangeSpec.witness_shaped (enc := enc) (C := Tryd.checked) (os := os) (X := fun w _ => laidMetH Tryd.prog Rows.sealOpensRow.laid w) false (World.doorLaid Tryd.prog 400 os) #[.agg #[.int .u8 0, .int .u8 0, .int .u8 0, .int .u8 0, .int .u8 0, .int .u8 0, .int .u8 0, .int .u8 0, .int .u8 0, .int .u8 0, .int .u8 0, .int .u8 0, .int .u8 0, .int .u8 0, .int .u8 0, .int .u8 0], .int .u8 0, .slice none 0 0] 8 rfl (World.shaped_of_RefB (by kernel_rfl) (by kernel_rfl)) (by kernel_rfl) (by kernel_rfl) (by kernel_rfl) (door_met os _)) ?_
  intro W base args ds gs before hval0 hW _ _ hL _
  have hK := of_laid hL
  have hval : ∀ (j : Nat) t v, Tryd.f4.params[j]? = some t → args[j]? = some v → Value.okWide Tryd.prog W .any base t v := hval0
  have hW' := hW
  obtain ⟨p, q, hA0, hV, rfl, _, _⟩ := hW
  have hA : DataW.TrodAll enc Tryd.prog W 0 (fun _ => true) true Tryd.f4.params.toList args.toList ds p := hA0
  rw [Tryd.params4] at hA hval
  obtain ⟨v0, vs0, d0, ds0, p0, q0, hargs, rfl, rfl, h0, r0⟩ := trodAll_cons hA
  obtain ⟨v1, vs1, d1, ds1, p1, q1, rfl, rfl, rfl, h1, r1⟩ := trodAll_cons r0
  obtain ⟨v2, vs2, d2, ds2, p2, q2, rfl, rfl, rfl, h2, r2⟩ := trodAll_cons r1
  obtain ⟨rfl, rfl, rfl⟩ := trodAll_nil r2
  obtain rfl : args = #[v0, v1, v2] := by cases args; simp_all
  obtain ⟨rfl, rfl⟩ := trodVars_none hV
  have k0 := h0
  have lt0 : ∀ x ∈ p0, x.block < W.heap.size := by obtain ⟨m, hm⟩ := k0; exact DataW.trod_lt m _ _ _ hm
  obtain ⟨a0, rfl, w0⟩ := open_int_array Tryd.underlying22 Tryd.underlying5 (by kernel_rfl) (by kernel_rfl) (hval 0 22 v0 rfl rfl) h0
  have k1 := h1
  have lt1 : ∀ x ∈ p1, x.block < W.heap.size := by obtain ⟨m, hm⟩ := k1; exact DataW.trod_lt m _ _ _ hm
  obtain ⟨a1, rfl, _, _, w1⟩ := open_int Tryd.underlying5 (hval 1 5 v1 rfl rfl) h1
  have k2 := h2
  have lt2 : ∀ x ∈ p2, x.block < W.heap.size := by obtain ⟨m, hm⟩ := k2; exact DataW.trod_lt m _ _ _ hm
  obtain ⟨a2, len2, cap2, rfl⟩ := okWide_slice Tryd.underlying24 (hval 2 24 v2 rfl rfl)
  obtain ⟨z2, w2⟩ := open_bytes Tryd.underlying24 Tryd.underlying5 (by kernel_rfl) h2
  refine (sealOpens_walk W a0 w0 a1 w1 _ z2 w2 hK).mono fun e W' ⟨he, bel⟩ => ?_
  subst he
  exact ⟨_, rfl, _, _, _, [], _, [], hW', trodAll_mk1 (shut_bool Tryd.underlying4 _), (trodAll_cons_mk (Below.trod laidOut (by kernel_rfl) (of_decide_eq_true (by kernel_rfl)) k0 bel lt0) (trodAll_cons_mk (Below.trod laidOut (by kernel_rfl) (of_decide_eq_true (by kernel_rfl)) k1 bel lt1) (trodAll_cons_mk (Below.trod laidOut (by kernel_rfl) (of_decide_eq_true (by kernel_rfl)) k2 bel lt2) trodAll_mk0))), rfl, bel.frame _, fun h => by cases h⟩
theorem over : Rows.sealOpensRow.holds Tryd.pinned (OpenSpec.ofChange Rows.sealOpensSpec) :=
  OpenClaim.holds_of_wide 4 Tryd.f4 rfl rfl rfl rfl rfl rfl rfl ⟨rfl, rfl, rfl, rfl, rfl⟩ rfl rfl rfl rfl rfl (by kernel_rfl) Tryd.func4 (by kernel_rfl)
    (of_decide_eq_true (by kernel_rfl)) (by unfold Func.isWrapper; first | (rw [if_pos (by decide +kernel)]; kernel_rfl) | (rw [if_neg (by decide +kernel)]; exact ⟨rfl, rfl⟩))
    (fun os started H enc _ => lifted os started H enc)
end sealOpensF
/-- The row. -/
theorem sealOpens_row : Rows.SealOpensSaid := sealOpensF.over
/-- The statement: the card. -/
theorem sealOpens_holds : Rows.SealOpensCardSaid :=
  Claim7.holds_tied_plain_at .later [] [.data] true Rows.sealOpensCard.stood.harness false
    sealOpens_row (fun _ h => by cases h) (by kernel_rfl) (fun _ h => by cases h) sealOpens_row_tie rfl ⟨rfl, rfl⟩ (by kernel_rfl) rfl
    (fun f fn hf hfn => by
      obtain rfl : f = 4 := Option.some.inj ((show Tryd.prog.funcNamed "toll/tolllaw09.SealOpens" = some 4 by kernel_rfl).symm.trans hf) |>.symm
      obtain rfl : fn = Tryd.f4 := (Option.some.inj (Tryd.func4.symm.trans hfn)).symm
      exact ⟨by kernel_rfl, fun j t ht => by
        rw [Tryd.params4] at ht
        have hm : t ∈ [22, 5, 24] := by simpa using Array.mem_of_getElem? ht
        have hall : ([22, 5, 24].all fun u => !Tryd.prog.wantsStandIn u) = true := by kernel_rfl
        exact (show Tryd.prog.wantsStandIn t = false by simpa using List.all_eq_true.1 hall t hm)⟩)
    (by kernel_rfl)
#print axioms sealOpens_holds
end Go.Proofs.YtpbcpdocnjnfiaaDoor
