/- Any bytes are those of the request of the reference implementation, or of none: for every bytes the law returns true. The variable sha.constants reads as the program's text lays it. -/
import Derived.Test.YtnhchdkchohnbaaDoorReqG
namespace Go.Proofs.YtnhchdkchohnbaaDoor
open Go.ChangeShapes Go.WideShapes Go.ChangeAt Go.RowKit Go.Deep

set_option maxRecDepth 100000 in
set_option maxHeartbeats 8000000 in
theorem requestMatchesReference_out (w : World) (v : Value) (l : List Nat) (hv : Rs w v l) (hl : 2000 < l.length) (hK : Consts w Sha.tab) : Calls Tryd.prog 10 #[v] w (RetBool true w) := by
  have HK := Lib.hid hK; clear hK
  obtain ⟨a, cap, rfl⟩ := hv.form
  clear hv
  go_enter Tryd.func10, Tryd.ntmps10
  go_wp2_with fail
  refine (awake_rq _ HK.out).mono ?_
  rintro e w1 ⟨rfl, hb1⟩
  have B1 := Lib.hid hb1; clear hb1
  go_wp2_with fail
  all_goals first | omega | skip
  refine (awake_rq _ (HK.out.below B1.out)).mono ?_
  rintro e w2 ⟨rfl, hb2⟩
  have B2 := Lib.hid (B1.out.trans (hb2.mono B1.out.size)); clear hb2 B1
  go_wp2_with fail
  go_ret
  exact ⟨rfl, B2.out⟩
set_option maxRecDepth 100000 in
set_option maxHeartbeats 8000000 in
theorem requestMatchesReference_walk (w : World) (v : Value) (l : List Nat) (hv : Rs w v l) (hK : Consts w Sha.tab) : Calls Tryd.prog 10 #[v] w (RetBool true w) := by
  by_cases hl : 2000 < l.length
  · exact requestMatchesReference_out w v l hv hl hK
  have HK := Lib.hid hK; clear hK
  have hall := hv.1
  obtain ⟨a, cap, rfl⟩ := hv.form
  have HV := Lib.hid hv; clear hv
  have HREF := Lib.hid (Req.parse_ref hall)
  have HALL := Lib.hid hall
  clear hall
  go_enter Tryd.func10, Tryd.ntmps10
  go_wp2_with fail
  refine (awake_rq _ HK.out).mono ?_
  rintro e w1 ⟨rfl, hb1⟩
  have G1 := only_of_below hb1 none
  clear hb1
  go_wp2_with fail
  all_goals first | omega | skip
  refine (rqparse_any _ l w1 (HV.out.below (below_of_only G1)) (by omega)).mono ?_
  rintro e w2 ⟨hb2, u2, v2, x, y, rfl, ox, oy, hxy⟩
  obtain ⟨ua, uc, rfl⟩ := ox.form
  obtain ⟨va, vc, rfl⟩ := oy.form
  have F := fresh_row w2 #[.slice none 0 0, .slice none 0 0] #[.slice ua x.length uc, .slice va y.length vc] 68
  have Q3 : Qb _ w2.heap.size _ x _ y := ⟨F.1, ox.bs.rs.below (below_of_only F.2), oy.bs.rs.below (below_of_only F.2)⟩
  have G3 := only_trans (only_trans G1 (only_of_below hb2 none)) F.2
  clear ox oy G1
  go_upto_region 4 with (refine wpList_store_rowTo rfl _ _ _ rfl rfl w2.heap.size _ rfl rfl _ _ (heap_alloc_new _ _) (info_rq _ _) (by rfl) (rq_one _ _ rfl rfl) ?_)
  generalize World.setRow _ w2.heap.size _ = W3 at *
  generalize w2.heap.size = b2 at *
  clear F hb2
  go_wp2_with fail
  refine (refrqparse_any _ l W3 (HV.out.below (below_of_only G3)) (by omega)).mono ?_
  rintro e w4 ⟨hb4, u4, v4, x', y', rfl, rx4, ry4, hxy'⟩
  rw [← HREF.out] at hxy' ⊢
  obtain ⟨rfl, rfl⟩ : x' = x ∧ y' = y := by have := hxy'.trans hxy.symm; injection this with h1 h2; exact ⟨h1, h2⟩
  obtain ⟨ua4, uc4, rfl⟩ := rx4.form
  obtain ⟨va4, vc4, rfl⟩ := ry4.form
  have Q4 := Q3.below hb4
  have G4 := only_trans G3 (only_of_below hb4 none)
  have RX := Lib.hid rx4
  have RY := Lib.hid ry4
  have HXY := Lib.hid hxy
  have hlx : x'.length ≤ l.length ∧ y'.length ≤ l.length := by
    cases hp : Req.parse l with
    | none => rw [hp] at hxy; injection hxy with h1 h2; subst h1 h2; simp
    | some p =>
      rw [hp] at hxy
      obtain rfl : (x', y') = p := hxy
      have := (Req.bytes_some (Req.parse_some HALL.out hp)).2.2
      omega
  have c0 := Q4.c0
  have HLX := Lib.hid hlx
  clear Q3 G3 hb4 rx4 ry4 hxy hxy' hlx
  cases hp : Req.parse l with
  | none =>
    go_wp2_with fail
    refine (same_yes _ _ x' w4 Q4.2.1 RX.out).mono ?_
    rintro e w5 ⟨rfl, hb5⟩
    have Q5 := Q4.below hb5
    have G5 := only_trans G4 (only_of_below hb5 none)
    have RY5 := RY.out.below hb5
    have c1 := Q5.c1
    clear Q4 G4 c0
    go_wp2_with fail
    refine (same_yes _ _ y' w5 Q5.2.2 RY5).mono ?_
    rintro e w6 ⟨rfl, hb6⟩
    have Q6 := Q5.below hb6
    have G6 := only_trans G5 (only_of_below hb6 none)
    clear Q5 G5 c1 RY5 hb5 hb6
    go_wp2_with (refine wpList_load_row rfl _ _ rfl b2 rfl _ _ (0, 0) _ Q6.1 rfl rfl (info_rq _ _) ?_)
    refine (rqbytes_any _ _ x' y' w6 Q6.2.1 Q6.2.2 (by have := HLX.out; omega) (by have := HLX.out; omega)).mono ?_
    rintro e w7 ⟨hb7, ht⟩
    have G7 := only_trans G6 (only_of_below hb7 none)
    rcases ht with ⟨_, rfl⟩ | ⟨l7, v7, _, rfl, o7⟩
    · go_wp2_with fail
      go_ret
      exact ⟨rfl, below_of_only G7⟩
    · obtain ⟨x7, y7, rfl⟩ := o7.form
      clear o7
      go_wp2_with fail
      go_ret
      exact ⟨rfl, below_of_only G7⟩
  | some p =>
    obtain rfl : (x', y') = p := by have := HXY.out; rw [hp] at this; exact this
    have HBY := Lib.hid (Req.parse_some HALL.out hp)
    clear hp
    go_wp2_with fail
    refine (same_yes _ _ x' w4 Q4.2.1 RX.out).mono ?_
    rintro e w5 ⟨rfl, hb5⟩
    have Q5 := Q4.below hb5
    have G5 := only_trans G4 (only_of_below hb5 none)
    have RY5 := RY.out.below hb5
    have c1 := Q5.c1
    clear Q4 G4 c0
    go_wp2_with fail
    refine (same_yes _ _ y' w5 Q5.2.2 RY5).mono ?_
    rintro e w6 ⟨rfl, hb6⟩
    have Q6 := Q5.below hb6
    have G6 := only_trans G5 (only_of_below hb6 none)
    clear Q5 G5 c1 RY5 hb5 hb6
    go_wp2_with (refine wpList_load_row rfl _ _ rfl b2 rfl _ _ (0, 0) _ Q6.1 rfl rfl (info_rq _ _) ?_)
    refine (rqbytes_any _ _ x' y' w6 Q6.2.1 Q6.2.2 (by have := HLX.out; omega) (by have := HLX.out; omega)).mono ?_
    rintro e w7 ⟨hb7, ht⟩
    have G7 := only_trans G6 (only_of_below hb7 none)
    rw [HBY.out] at ht
    rcases ht with ⟨hno, _⟩ | ⟨l7, v7, hl7, rfl, o7⟩
    · cases hno
    cases hl7
    obtain ⟨x7, y7, rfl⟩ := o7.form
    have O7 := Lib.hid o7.bs.rs
    clear o7 hb7 G6 Q6
    go_wp2_with fail
    refine (same_yes _ _ l w7 O7.out (HV.out.below (below_of_only G7))).mono ?_
    rintro e w8 ⟨rfl, hb8⟩
    have G8 := only_trans G7 (only_of_below hb8 none)
    go_wp2_with fail
    go_ret
    exact ⟨rfl, below_of_only G8⟩

/-! ### THE ROW's STEP -/
namespace requestMatchesReferenceF
theorem own : ownKnob Tryd.prog.godebug = none := by kernel_rfl
theorem laidOut : laidOutB Tryd.prog = true := by kernel_rfl
theorem gT : Tryd.prog.globalNamed "toll/sha.constants" = some 0 := by kernel_rfl
theorem gTType : (Tryd.prog.globals[0]?).map (·.type) = some 141 := by kernel_rfl
theorem door_met (os : Os) (args : Array Value) : laidMetH Tryd.prog Rows.requestMatchesReferenceRow.laid ((World.doorLaid Tryd.prog 400 os).forCall (fun _ _ => 0) ⟨#[], args, []⟩).memory :=
  laidMetH_of_parts3 (fuel := 8) (laidMet_of_run' 8 (by kernel_rfl) (by kernel_rfl)) (by kernel_rfl) (by kernel_rfl)
theorem of_laid {W : World} (h : laidMetH Tryd.prog Rows.requestMatchesReferenceRow.laid W) : Consts W Sha.tab := fun i hi => by
  rw [MakeChecks.laidMetH_plain _ _ _ (by kernel_rfl)] at h
  have hT := Lib.tabIs_of_head (k := .u32) (zs := Sha.tableL.map fun n : Nat => (n : Int)) gT gTType Tryd.underlying141 Tryd.underlying49 (by kernel_rfl) (by kernel_rfl) h
  have hl : i < Sha.tableL.length := hi
  rw [hT.cell gT i (by simpa using hl)]
  simp [Sha.tab, List.getD, hl]
set_option maxRecDepth 100000 in
theorem lifted (os : Os) (started : os.Started) (H : Type) (enc : TypeId × Value → H) :
    ReturnsInHanded {} Tryd.checked os 10 .any (fun w args => (Rows.requestMatchesReferenceSpec.pre enc Tryd.prog Tryd.f10 [] false w args ∧ laidMetH Tryd.prog Rows.requestMatchesReferenceRow.laid w) ∧ sizedMet enc Tryd.prog Tryd.f10 (OpenSpec.ofChange Rows.requestMatchesReferenceSpec) false w args)
      (Rows.requestMatchesReferenceSpec.post enc Tryd.prog Tryd.f10 false true false false) := by
  refine returnsInHanded_of_change_and (C := Tryd.checked) (X := fun w _ => laidMetH Tryd.prog Rows.requestMatchesReferenceRow.laid w) (fun _ _ _ hh h => h.of_heap hh) own started (by kernel_rfl) Tryd.func10
    (ChangeSpec.witness_shaped (enc := enc) (C := Tryd.checked) (os := os) (X := fun w _ => laidMetH Tryd.prog Rows.requestMatchesReferenceRow.laid w) false (World.doorLaid Tryd.prog 400 os) #[.slice none 0 0] 8 rfl (World.shaped_of_RefB (by kernel_rfl) (by kernel_rfl)) (by kernel_rfl) (by kernel_rfl) (by kernel_rfl) (door_met os _)) ?_
  intro W base args ds gs before hval0 hW _ _ hL _
  have hK := of_laid hL
  have hval : ∀ (j : Nat) t v, Tryd.f10.params[j]? = some t → args[j]? = some v → Value.okWide Tryd.prog W .any base t v := hval0
  have hW' := hW
  obtain ⟨p, q, hA0, hV, rfl, _, _⟩ := hW
  have hA : DataW.TrodAll enc Tryd.prog W 0 (fun _ => true) true Tryd.f10.params.toList args.toList ds p := hA0
  rw [Tryd.params10] at hA hval
  obtain ⟨v0, vs0, d0, ds0, p0, q0, hargs, rfl, rfl, h0, r0⟩ := trodAll_cons hA
  obtain ⟨rfl, rfl, rfl⟩ := trodAll_nil r0
  obtain rfl : args = #[v0] := by cases args; simp_all
  obtain ⟨rfl, rfl⟩ := trodVars_none hV
  have k0 := h0
  have lt0 : ∀ x ∈ p0, x.block < W.heap.size := by obtain ⟨m, hm⟩ := k0; exact DataW.trod_lt m _ _ _ hm
  obtain ⟨a0, len0, cap0, rfl⟩ := okWide_slice Tryd.underlying30 (hval 0 30 v0 rfl rfl)
  obtain ⟨z0, w0⟩ := open_bytes Tryd.underlying30 Tryd.underlying5 (by kernel_rfl) h0
  refine (requestMatchesReference_walk W _ z0 w0 hK).mono fun e W' ⟨he, bel⟩ => ?_
  subst he
  exact ⟨_, rfl, _, _, _, [], _, [], hW', trodAll_mk1 (shut_bool Tryd.underlying4 _), (trodAll_cons_mk (Below.trod laidOut (by kernel_rfl) (of_decide_eq_true (by kernel_rfl)) k0 bel lt0) trodAll_mk0), rfl, bel.frame _, fun h => by cases h⟩
theorem over : Rows.requestMatchesReferenceRow.holds Tryd.pinned (OpenSpec.ofChange Rows.requestMatchesReferenceSpec) :=
  OpenClaim.holds_of_wide 10 Tryd.f10 rfl rfl rfl rfl rfl rfl rfl ⟨rfl, rfl, rfl, rfl, rfl⟩ rfl rfl rfl rfl rfl (by kernel_rfl) Tryd.func10 (by kernel_rfl)
    (of_decide_eq_true (by kernel_rfl)) (by unfold Func.isWrapper; first | (rw [if_pos (by decide +kernel)]; kernel_rfl) | (rw [if_neg (by decide +kernel)]; exact ⟨rfl, rfl⟩))
    (fun os started H enc _ => lifted os started H enc)
end requestMatchesReferenceF
/-- The row. -/
theorem requestMatchesReference_row : Rows.RequestMatchesReferenceSaid := requestMatchesReferenceF.over
/-- The statement: the card. -/
theorem requestMatchesReference_holds : Rows.RequestMatchesReferenceCardSaid :=
  Claim7.holds_tied_plain_at .later [] [.data] true Rows.requestMatchesReferenceCard.stood.harness false
    requestMatchesReference_row (fun _ h => by cases h) (by kernel_rfl) (fun _ h => by cases h) requestMatchesReference_row_tie rfl ⟨rfl, rfl⟩ (by kernel_rfl) rfl
    (fun f fn hf hfn => by
      obtain rfl : f = 10 := Option.some.inj ((show Tryd.prog.funcNamed "toll/tolllaw14.RequestMatchesReference" = some 10 by kernel_rfl).symm.trans hf) |>.symm
      obtain rfl : fn = Tryd.f10 := (Option.some.inj (Tryd.func10.symm.trans hfn)).symm
      exact ⟨by kernel_rfl, fun j t ht => by
        rw [Tryd.params10] at ht
        have hm : t ∈ [30] := by simpa using Array.mem_of_getElem? ht
        have hall : ([30].all fun u => !Tryd.prog.wantsStandIn u) = true := by kernel_rfl
        exact (show Tryd.prog.wantsStandIn t = false by simpa using List.all_eq_true.1 hall t hm)⟩)
    (by kernel_rfl)
#print axioms requestMatchesReference_holds
end Go.Proofs.YtnhchdkchohnbaaDoor
