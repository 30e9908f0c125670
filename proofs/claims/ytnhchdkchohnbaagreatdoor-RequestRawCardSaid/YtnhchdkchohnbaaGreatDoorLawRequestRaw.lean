/- Any bytes are opened as in the reference implementation, and bytes that are no request are malformed: for every key and bytes the law returns true. The variable sha.constants reads as the program's text lays it. -/
import Derived.Test.YtnhchdkchohnbaaGreatDoorReqK
namespace Go.Proofs.YtnhchdkchohnbaaGreatDoor
open Go.ChangeShapes Go.WideShapes Go.ChangeAt Go.RowKit Go.Deep

set_option maxRecDepth 100000 in
set_option maxHeartbeats 8000000 in
theorem requestRaw_out (key : Nat → Nat) (_hk : Aes.B8 key) (v : Value) (l : List Nat) (w : World) (hv : Rs w v l) (hl : 2000 < l.length) (hK : Consts w Sha.tab) :
    Calls Tryz.prog 6 #[.agg (arr .u8 16 key), v] w (RetBool true w) := by
  have HK := Lib.hid hK; clear hK
  have a0 := isArr_new w 22 .u8 16 key
  have G0 := only_alloc (only_refl w none) (.cells (arr .u8 16 key) 22)
  have s1 := arr_size .u8 16 key
  obtain ⟨va, vc, rfl⟩ := hv.form
  have HV := Lib.hid (hv.below (below_of_only G0)); clear hv
  go_enter Tryz.func6, Tryz.ntmps6
  go_upto_region 1 with fail
  generalize w.alloc (.cells (arr .u8 16 key) 22) = W0 at *
  obtain ⟨n0, hn0⟩ : ∃ n, n = w.heap.size := ⟨_, rfl⟩
  rw [← hn0] at a0 ⊢
  clear hn0
  go_wp2_with fail
  refine (awake_rq _ (HK.out.below (below_of_only G0))).mono ?_
  rintro x w1 ⟨rfl, h1⟩
  have A1 := isArr.only a0 (only_of_below h1 none)
  have G1 := only_trans G0 (only_of_below h1 none)
  have HV := Lib.hid (HV.out.below h1)
  clear a0 G0 h1
  go_wp2_with fail
  all_goals first | omega | skip
  refine (awake_rq _ (HK.out.below (below_of_only G1))).mono ?_
  rintro x w3 ⟨rfl, h3⟩
  have G3 := only_trans G1 (only_of_below h3 none)
  go_wp2_with fail
  go_ret
  exact ⟨rfl, below_of_only G3⟩
set_option maxRecDepth 100000 in
set_option maxHeartbeats 8000000 in
theorem requestRaw_in (key : Nat → Nat) (hk : Aes.B8 key) (v : Value) (l : List Nat) (w : World) (hv : Rs w v l) (hl : l.length ≤ 2000) (hK : Consts w Sha.tab) :
    Calls Tryz.prog 6 #[.agg (arr .u8 16 key), v] w (RetBool true w) := by
  have HK := Lib.hid hK; clear hK
  have a0 := isArr_new w 22 .u8 16 key
  have G0 := only_alloc (only_refl w none) (.cells (arr .u8 16 key) 22)
  have s1 := arr_size .u8 16 key
  obtain ⟨va, vc, rfl⟩ := hv.form
  have HV := Lib.hid (hv.below (below_of_only G0)); clear hv
  go_enter Tryz.func6, Tryz.ntmps6
  go_upto_region 1 with fail
  generalize w.alloc (.cells (arr .u8 16 key) 22) = W0 at *
  obtain ⟨n0, hn0⟩ : ∃ n, n = w.heap.size := ⟨_, rfl⟩
  rw [← hn0] at a0 ⊢
  clear hn0
  go_wp2_with fail
  refine (awake_rq _ (HK.out.below (below_of_only G0))).mono ?_
  rintro x w1 ⟨rfl, h1⟩
  have A1 := isArr.only a0 (only_of_below h1 none)
  have G1 := only_trans G0 (only_of_below h1 none)
  have HV := Lib.hid (HV.out.below h1)
  clear a0 G0 h1
  have HLEN := Lib.hid (show l.length ≤ 1000000 by omega)
  go_upto_region 3 with fail
  all_goals first | omega | skip
  go_wp2_with (refine wpList_load_rowG (by kernel_rfl) _ _ rfl n0 rfl _ _ (0, 0) _ A1 rfl rfl (info16s _) ?_)
  refine (rqopen_any key _ l w1 hk HV.out HLEN.out (HK.out.below (below_of_only G1))).mono ?_
  rintro x w3 ⟨hb3, q3, u3, ss3, s3, x3, k3, r3, v3, tt3, t3, m3, z3, rfl, o3, p3, hq3, hk3, hr3, hm3, hz3, ht3, ha3⟩
  obtain ⟨ua3, uc3, rfl⟩ := o3.ss.form
  obtain ⟨va3, vc3, rfl⟩ := p3.ss.form
  have F := fresh_two w3 #[.string ⟨#[]⟩, .slice none 0 0, .int .i64 0, .int .i64 0, .int .u8 0, .int .u8 0, .int .u8 0, .int .u8 0, .int .u8 0, .int .u8 0, .int .u8 0, .int .u8 0, .int .u8 0, .int .u8 0, .int .u8 0, .int .u8 0, .int .u8 0, .int .u8 0, .int .u8 0, .int .u8 0] #[.string ⟨#[]⟩, .slice none 0 0, .int .i64 0, .int .u32 0, .int .u32 0] (tk q3 (.slice ua3 ss3.length uc3) s3 x3 k3) (au r3 (.slice va3 tt3.length vc3) t3 m3 z3) 41 32
  have P3 : Tb _ w3.heap.size q3 _ ss3 s3 x3 k3 := ⟨F.2.2.1, o3.ss.only F.2.2.2.2, hq3, hk3⟩
  have Q3 : Ab _ (w3.heap.size + 1) r3 _ tt3 t3 m3 z3 := ⟨F.2.2.2.1, p3.ss.only F.2.2.2.2, hr3, hm3, hz3⟩
  have F3 := only_trans (only_of_below hb3 none) F.2.2.2.2
  have G4 := only_trans G1 F3
  have A4 := isArr.only A1 F3
  have HV := Lib.hid (HV.out.below (below_of_only F3))
  clear o3 p3 F3 G1 hb3 A1
  go_upto_region 4 with (first | refine wpList_store_rowTo rfl _ _ _ rfl rfl w3.heap.size _ rfl rfl _ _ F.1 (info_tk _ _ _ _ _) (by rw [tk_size]; rfl) (tk_one _ _ _ _ _ rfl) ?_ | refine wpList_store_rowTo rfl _ _ _ rfl rfl (w3.heap.size + 1) _ rfl rfl _ _ F.2.1 (info_au _ _ _ _ _) (by rw [au_size]; rfl) (au_one _ _ _ _ _ rfl) ?_)
  generalize World.setRow _ (w3.heap.size + 1) _ = W4 at *
  clear F
  obtain ⟨c3, hc3⟩ : ∃ n, n = w3.heap.size + 1 := ⟨_, rfl⟩
  rw [← hc3] at Q3 ⊢
  generalize w3.heap.size = b3 at *
  clear hc3
  go_wp2_with (refine wpList_load_rowG (by kernel_rfl) _ _ rfl n0 rfl _ _ (0, 0) _ A4 rfl rfl (info16s _) ?_)
  refine (refrqopen_any key _ l W4 hk HV.out HLEN.out (HK.out.below (below_of_only G4))).mono ?_
  rintro x w5 ⟨hb5, q5, u5, ss5, s5, x5, k5, r5, v5, tt5, t5, m5, z5, rfl, o5, p5, hq5, hk5, hr5, hm5, hz5, ht5, ha5⟩
  obtain ⟨ua5, uc5, rfl⟩ := o5.ss.form
  obtain ⟨va5, vc5, rfl⟩ := p5.ss.form
  have F := fresh_two w5 #[.string ⟨#[]⟩, .slice none 0 0, .int .i64 0, .int .i64 0, .int .u8 0, .int .u8 0, .int .u8 0, .int .u8 0, .int .u8 0, .int .u8 0, .int .u8 0, .int .u8 0, .int .u8 0, .int .u8 0, .int .u8 0, .int .u8 0, .int .u8 0, .int .u8 0, .int .u8 0, .int .u8 0] #[.string ⟨#[]⟩, .slice none 0 0, .int .i64 0, .int .u32 0, .int .u32 0] (tk q5 (.slice ua5 ss5.length uc5) s5 x5 k5) (au r5 (.slice va5 tt5.length vc5) t5 m5 z5) 41 32
  have P5 : Tb _ w5.heap.size q5 _ ss5 s5 x5 k5 := ⟨F.2.2.1, o5.ss.only F.2.2.2.2, hq5, hk5⟩
  have Q5 : Ab _ (w5.heap.size + 1) r5 _ tt5 t5 m5 z5 := ⟨F.2.2.2.1, p5.ss.only F.2.2.2.2, hr5, hm5, hz5⟩
  have F5 := only_trans (only_of_below hb5 none) F.2.2.2.2
  have G6 := only_trans G4 F5
  have A6 := isArr.only A4 F5
  have HV := Lib.hid (HV.out.below (below_of_only F5))
  have P4 := P3.only F5
  have Q4 := Q3.only F5
  clear o5 p5 F5 G4 hb5 A4 P3 Q3
  have HT := Lib.hid (tsame_of (ht3.trans ht5.symm))
  have HA := Lib.hid (asame_of (ha3.trans ha5.symm))
  clear A6
  obtain ⟨code, hcode⟩ : ∃ c, c = (Req.opn key l).2.2 := ⟨_, rfl⟩
  rw [← hcode]
  have HC := Lib.hid hcode
  clear hcode
  go_upto_region 5 with (first | refine wpList_store_rowTo rfl _ _ _ rfl rfl w5.heap.size _ rfl rfl _ _ F.1 (info_tk _ _ _ _ _) (by rw [tk_size]; rfl) (tk_one _ _ _ _ _ rfl) ?_ | refine wpList_store_rowTo rfl _ _ _ rfl rfl (w5.heap.size + 1) _ rfl rfl _ _ F.2.1 (info_au _ _ _ _ _) (by rw [au_size]; rfl) (au_one _ _ _ _ _ rfl) ?_)
  generalize World.setRow _ (w5.heap.size + 1) _ = W6 at *
  clear F
  obtain ⟨c5, hc5⟩ : ∃ n, n = w5.heap.size + 1 := ⟨_, rfl⟩
  rw [← hc5] at Q5 ⊢
  generalize w5.heap.size = b5 at *
  clear hc5
  clear ht3 ha3 ht5 ha5
  go_wp2_with fail
  refine (rqparse_any _ l W6 HV.out (by have := HLEN.out; omega)).mono ?_
  rintro x w7 ⟨hb7, u7, v7, x7, y7, rfl, ox, oy, hxy⟩
  obtain ⟨ua7, uc7, rfl⟩ := ox.form
  obtain ⟨va7, vc7, rfl⟩ := oy.form
  have F := fresh_row w7 #[.slice none 0 0, .slice none 0 0] #[.slice ua7 x7.length uc7, .slice va7 y7.length vc7] 59
  have F7 := only_trans (only_of_below hb7 none) F.2
  have P8 := P4.only F7
  have Q8 := Q4.only F7
  have P9 := P5.only F7
  have Q9 := Q5.only F7
  have G8 := only_trans G6 F7
  clear P4 Q4 P5 Q5 G6 hb7 ox oy F7
  go_upto_region 6 with (refine wpList_store_rowTo rfl _ _ _ rfl rfl w7.heap.size _ rfl rfl _ _ (heap_alloc_new _ _) (info_rq _ _) (by rfl) (rq_one _ _ rfl rfl) ?_)
  generalize World.setRow _ w7.heap.size _ = W8 at *
  clear F
  have HX := Lib.hid (show (Req.parse l).isSome = true ∨ code = 1 by
    rw [HC.out]
    cases hp : Req.parse l with
    | some p => exact .inl rfl
    | none => right; unfold Req.opn; rw [hp])
  generalize (Req.parse l).isSome = ok at *
  go_wp2_with (first | refine wpList_load_rowG (by kernel_rfl) _ _ rfl b3 rfl _ _ (0, 0) _ P8.1 rfl rfl (info_tk _ _ _ _ _) ?_ | refine wpList_load_rowG (by kernel_rfl) _ _ rfl b5 rfl _ _ (0, 0) _ P9.1 rfl rfl (info_tk _ _ _ _ _) ?_)
  refine (reftksame_any q3 q5 _ _ ss3 ss5 s3 x3 s5 x5 k3 k5 W8 hq3 hq5 hk3 hk5 P8.2.1 P9.2.1).mono ?_
  rintro x w10 ⟨rfl, g10⟩
  rw [HT.out]
  have Q10 := Q8.only g10
  have Q11 := Q9.only g10
  have G10 := only_trans G8 g10
  clear P8 P9 Q8 Q9 G8 g10
  go_wp2_with (first | refine wpList_load_rowG (by kernel_rfl) _ _ rfl c3 rfl _ _ (0, 0) _ Q10.1 rfl rfl (info_au _ _ _ _ _) ?_ | refine wpList_load_rowG (by kernel_rfl) _ _ rfl c5 rfl _ _ (0, 0) _ Q11.1 rfl rfl (info_au _ _ _ _ _) ?_)
  refine (refausame_any r3 r5 _ _ tt3 tt5 t3 t5 m3 z3 m5 z5 w10 hr3 hr5 Q10.2.1 Q11.2.1).mono ?_
  rintro x w12 ⟨rfl, g12⟩
  rw [HA.out]
  have G12 := only_trans G10 g12
  clear Q10 Q11 G10 g12
  have HC2 := HX.out
  clear HX HC
  cases ok
  · rcases HC2 with h | rfl
    · cases h
    go_wp2_with fail
    go_ret
    exact ⟨rfl, below_of_only G12⟩
  · go_wp2_with fail
    go_ret
    exact ⟨rfl, below_of_only G12⟩
theorem requestRaw_walk (w : World) (f : Nat → Int) (wf : ∀ j, j < 16 → (Lit.int .u8 (f j)).wf = true) (v : Value) (l : List Nat) (hv : Rs w v l) (hK : Consts w Sha.tab) :
    Calls Tryz.prog 6 #[.agg ((List.range 16).map fun i => Value.int .u8 (f i)).toArray, v] w (RetBool true w) := by
  obtain ⟨key, hk, e1⟩ := bytes_arg f wf
  rw [e1]
  by_cases hl : 2000 < l.length
  · exact requestRaw_out key hk v l w hv hl hK
  · exact requestRaw_in key hk v l w hv (by omega) hK

/-! ### THE ROW's STEP -/
namespace requestRawF
theorem own : ownKnob Tryz.prog.godebug = none := by kernel_rfl
theorem laidOut : laidOutB Tryz.prog = true := by kernel_rfl
theorem gT : Tryz.prog.globalNamed "toll/sha.constants" = some 0 := by kernel_rfl
theorem gTType : (Tryz.prog.globals[0]?).map (·.type) = some 147 := by kernel_rfl
theorem door_met (os : Os) (args : Array Value) : laidMetH Tryz.prog Rows.requestRawRow.laid ((World.doorLaid Tryz.prog 400 os).forCall (fun _ _ => 0) ⟨#[], args, []⟩).memory :=
  laidMetH_of_parts3 (fuel := 8) (laidMet_of_run' 8 (by kernel_rfl) (by kernel_rfl)) (by kernel_rfl) (by kernel_rfl)
theorem of_laid {W : World} (h : laidMetH Tryz.prog Rows.requestRawRow.laid W) : Consts W Sha.tab := fun i hi => by
  rw [MakeChecks.laidMetH_plain _ _ _ (by kernel_rfl)] at h
  have hT := Lib.tabIs_of_head (k := .u32) (zs := Sha.tableL.map fun n : Nat => (n : Int)) gT gTType Tryz.underlying147 Tryz.underlying30 (by kernel_rfl) (by kernel_rfl) h
  have hl : i < Sha.tableL.length := hi
  rw [hT.cell gT i (by simpa using hl)]
  simp [Sha.tab, List.getD, hl]
set_option maxRecDepth 100000 in
theorem lifted (os : Os) (started : os.Started) (H : Type) (enc : TypeId × Value → H) :
    ReturnsInHanded {} Tryz.checked os 6 .any (fun w args => (Rows.requestRawSpec.pre enc Tryz.prog Tryz.f6 [] false w args ∧ laidMetH Tryz.prog Rows.requestRawRow.laid w) ∧ sizedMet enc Tryz.prog Tryz.f6 (OpenSpec.ofChange Rows.requestRawSpec) false w args)
      (Rows.requestRawSpec.post enc Tryz.prog Tryz.f6 false true false false) := by
  refine returnsInHanded_of_change_and (C := Tryz.checked) (X := fun w _ => laidMetH Tryz.prog Rows.requestRawRow.laid w) (fun _ _ _ hh h => h.of_heap hh) own started (by kernel_rfl) Tryz.func6
    (ChangeSpec.witness_shaped (enc := enc) (C := Tryz.checked) (os := os) (X := fun w _ => laidMetH Tryz.prog Rows.requestRawRow.laid w) false (World.doorLaid Tryz.prog 400 os) #[.agg #[.int .u8 0, .int .u8 0, .int .u8 0, .int .u8 0, .int .u8 0, .int .u8 0, .int .u8 0, .int .u8 0, .int .u8 0, .int .u8 0, .int .u8 0, .int .u8 0, .int .u8 0, .int .u8 0, .int .u8 0, .int .u8 0], .slice none 0 0] 8 rfl (World.shaped_of_RefB (by kernel_rfl) (by kernel_rfl)) (by kernel_rfl) (by kernel_rfl) (by kernel_rfl) (door_met os _)) ?_
  intro W base args ds gs before hval0 hW _ _ hL _
  have hK := of_laid hL
  have hval : ∀ (j : Nat) t v, Tryz.f6.params[j]? = some t → args[j]? = some v → Value.okWide Tryz.prog W .any base t v := hval0
  have hW' := hW
  obtain ⟨p, q, hA0, hV, rfl, _, _⟩ := hW
  have hA : DataW.TrodAll enc Tryz.prog W 0 (fun _ => true) true Tryz.f6.params.toList args.toList ds p := hA0
  rw [Tryz.params6] at hA hval
  obtain ⟨v0, vs0, d0, ds0, p0, q0, hargs, rfl, rfl, h0, r0⟩ := trodAll_cons hA
  obtain ⟨v1, vs1, d1, ds1, p1, q1, rfl, rfl, rfl, h1, r1⟩ := trodAll_cons r0
  obtain ⟨rfl, rfl, rfl⟩ := trodAll_nil r1
  obtain rfl : args = #[v0, v1] := by cases args; simp_all
  obtain ⟨rfl, rfl⟩ := trodVars_none hV
  have k0 := h0
  have lt0 : ∀ x ∈ p0, x.block < W.heap.size := by obtain ⟨m, hm⟩ := k0; exact DataW.trod_lt m _ _ _ hm
  obtain ⟨a0, rfl, w0⟩ := open_int_array Tryz.underlying22 Tryz.underlying5 (by kernel_rfl) (by kernel_rfl) (hval 0 22 v0 rfl rfl) h0
  have k1 := h1
  have lt1 : ∀ x ∈ p1, x.block < W.heap.size := by obtain ⟨m, hm⟩ := k1; exact DataW.trod_lt m _ _ _ hm
  obtain ⟨a1, len1, cap1, rfl⟩ := okWide_slice Tryz.underlying24 (hval 1 24 v1 rfl rfl)
  obtain ⟨z1, w1⟩ := open_bytes Tryz.underlying24 Tryz.underlying5 (by kernel_rfl) h1
  refine (requestRaw_walk W a0 w0 _ z1 w1 hK).mono fun e W' ⟨he, bel⟩ => ?_
  subst he
  exact ⟨_, rfl, _, _, _, [], _, [], hW', trodAll_mk1 (shut_bool Tryz.underlying4 _), (trodAll_cons_mk (Below.trod laidOut (by kernel_rfl) (of_decide_eq_true (by kernel_rfl)) k0 bel lt0) (trodAll_cons_mk (Below.trod laidOut (by kernel_rfl) (of_decide_eq_true (by kernel_rfl)) k1 bel lt1) trodAll_mk0)), rfl, bel.frame _, fun h => by cases h⟩
theorem over : Rows.requestRawRow.holds Tryz.pinned (OpenSpec.ofChange Rows.requestRawSpec) :=
  OpenClaim.holds_of_wide 6 Tryz.f6 rfl rfl rfl rfl rfl rfl rfl ⟨rfl, rfl, rfl, rfl, rfl⟩ rfl rfl rfl rfl rfl (by kernel_rfl) Tryz.func6 (by kernel_rfl)
    (of_decide_eq_true (by kernel_rfl)) (by unfold Func.isWrapper; first | (rw [if_pos (by decide +kernel)]; kernel_rfl) | (rw [if_neg (by decide +kernel)]; exact ⟨rfl, rfl⟩))
    (fun os started H enc _ => lifted os started H enc)
end requestRawF
/-- The row. -/
theorem requestRaw_row : Rows.RequestRawSaid := requestRawF.over
/-- The statement: the card. -/
theorem requestRaw_holds : Rows.RequestRawCardSaid :=
  Claim7.holds_tied_plain_at .later [] [.data] true Rows.requestRawCard.stood.harness false
    requestRaw_row (fun _ h => by cases h) (by kernel_rfl) (fun _ h => by cases h) requestRaw_row_tie rfl ⟨rfl, rfl⟩ (by kernel_rfl) rfl
    (fun f fn hf hfn => by
      obtain rfl : f = 6 := Option.some.inj ((show Tryz.prog.funcNamed "toll/tolllaw14.RequestRaw" = some 6 by kernel_rfl).symm.trans hf) |>.symm
      obtain rfl : fn = Tryz.f6 := (Option.some.inj (Tryz.func6.symm.trans hfn)).symm
      exact ⟨by kernel_rfl, fun j t ht => by
        rw [Tryz.params6] at ht
        have hm : t ∈ [22, 24] := by simpa using Array.mem_of_getElem? ht
        have hall : ([22, 24].all fun u => !Tryz.prog.wantsStandIn u) = true := by kernel_rfl
        exact (show Tryz.prog.wantsStandIn t = false by simpa using List.all_eq_true.1 hall t hm)⟩)
    (by kernel_rfl)
#print axioms requestRaw_holds
end Go.Proofs.YtnhchdkchohnbaaGreatDoor
