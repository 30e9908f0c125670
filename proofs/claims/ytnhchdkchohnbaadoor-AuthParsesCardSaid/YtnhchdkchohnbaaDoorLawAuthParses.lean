/- Any bytes are those of the authenticator of the reference implementation, or of none: for every bytes the law returns true. The variable sha.constants reads as the program's text lays it. -/
import Derived.Test.YtnhchdkchohnbaaDoorAutG
namespace Go.Proofs.YtnhchdkchohnbaaDoor
open Go.ChangeShapes Go.WideShapes Go.ChangeAt Go.RowKit Go.Deep

theorem aut_same2 {q r : ByteArray} {ss tt : List ByteArray} {t t' : Int} {m s m' s' : Nat} {a : Aut.A} (h : aut q ss t m s = a) (k : aut r tt t' m' s' = a) : asame q ss t m s r tt t' m' s' = true := asame_of (h.trans k.symm)
theorem aut0_valid : Aut.valid aut0 = false := by decide
set_option maxRecDepth 100000 in
set_option maxHeartbeats 8000000 in
theorem authParses_out (w : World) (v : Value) (l : List Nat) (hv : Rs w v l) (hl : 1500 < l.length) (hK : Consts w Sha.tab) : Calls Tryd.prog 8 #[v] w (RetBool true w) := by
  have HK := Lib.hid hK; clear hK
  obtain ⟨a, cap, rfl⟩ := hv.form
  clear hv
  go_enter Tryd.func8, Tryd.ntmps8
  go_wp2_with fail
  refine (awake_aut _ HK.out).mono ?_
  rintro e w1 ⟨rfl, hb1⟩
  have B1 := Lib.hid hb1; clear hb1
  go_wp2_with fail
  all_goals first | omega | skip
  refine (awake_aut _ (HK.out.below B1.out)).mono ?_
  rintro e w2 ⟨rfl, hb2⟩
  have B2 := Lib.hid (B1.out.trans (hb2.mono B1.out.size)); clear hb2 B1
  go_wp2_with fail
  go_ret
  exact ⟨rfl, B2.out⟩
set_option maxRecDepth 100000 in
set_option maxHeartbeats 8000000 in
theorem authParses_walk (w : World) (v : Value) (l : List Nat) (hv : Rs w v l) (hK : Consts w Sha.tab) : Calls Tryd.prog 8 #[v] w (RetBool true w) := by
  by_cases hl : 1500 < l.length
  · exact authParses_out w v l hv hl hK
  have HK := Lib.hid hK; clear hK
  have hall := hv.1
  obtain ⟨a, cap, rfl⟩ := hv.form
  have HV := Lib.hid hv; clear hv
  have HREF := Lib.hid (Aut.parse_ref hall)
  have HALL := Lib.hid hall
  clear hall
  go_enter Tryd.func8, Tryd.ntmps8
  go_wp2_with fail
  refine (awake_aut _ HK.out).mono ?_
  rintro e w1 ⟨rfl, hb1⟩
  have G1 := only_of_below hb1 none
  clear hb1
  go_wp2_with fail
  all_goals first | omega | skip
  refine (auparse_any _ l w1 (HV.out.below (below_of_only G1)) (by omega)).mono ?_
  rintro e w2 ⟨hb2, q2, u2, ss2, t2, m2, s2, rfl, o2, hq2, hm2, hs2, ht2⟩
  obtain ⟨ua2, uc2, rfl⟩ := o2.ss.form
  have F := fresh_row w2 #[.string ⟨#[]⟩, .slice none 0 0, .int .i64 0, .int .u32 0, .int .u32 0] (au q2 (.slice ua2 ss2.length uc2) t2 m2 s2) 51
  have P3 : Ab _ w2.heap.size q2 _ ss2 t2 m2 s2 := ⟨F.1, o2.ss.only F.2, hq2, hm2, hs2⟩
  have G3 := only_trans (only_trans G1 (only_of_below hb2 none)) F.2
  clear o2 G1
  go_upto_region 4 with (refine wpList_store_rowTo rfl _ _ _ rfl rfl w2.heap.size _ rfl rfl _ _ (heap_alloc_new _ _) (info_au _ _ _ _ _) (by rw [au_size]; rfl) (au_one _ _ _ _ _ rfl) ?_)
  generalize World.setRow _ w2.heap.size _ = W3 at *
  generalize w2.heap.size = b2 at *
  clear F hb2
  go_wp2_with fail
  refine (refauparse_any _ l W3 (HV.out.below (below_of_only G3)) (by omega)).mono ?_
  rintro e w4 ⟨hb4, q4, u4, ss4, t4, m4, s4, rfl, o4, hq4, hm4, hs4, ht4⟩
  rw [← HREF.out] at ht4 ⊢
  obtain ⟨ua4, uc4, rfl⟩ := o4.ss.form
  have F := fresh_row w4 #[.string ⟨#[]⟩, .slice none 0 0, .int .i64 0, .int .u32 0, .int .u32 0] (au q4 (.slice ua4 ss4.length uc4) t4 m4 s4) 51
  have Q5 : Ab _ w4.heap.size q4 _ ss4 t4 m4 s4 := ⟨F.1, o4.ss.only F.2, hq4, hm4, hs4⟩
  have P5 := (P3.only (only_of_below hb4 none)).only F.2
  have G5 := only_trans (only_trans G3 (only_of_below hb4 none)) F.2
  clear o4 G3 P3
  go_upto_region 5 with (refine wpList_store_rowTo rfl _ _ _ rfl rfl w4.heap.size _ rfl rfl _ _ (heap_alloc_new _ _) (info_au _ _ _ _ _) (by rw [au_size]; rfl) (au_one _ _ _ _ _ rfl) ?_)
  generalize World.setRow _ w4.heap.size _ = W5 at *
  generalize w4.heap.size = b4 at *
  clear F hb4
  have HSM := Lib.hid (aut_same2 ht2 ht4)
  have HT2 := Lib.hid ht2
  clear ht2 ht4
  go_wp2_with (first | refine wpList_load_row rfl _ _ rfl b2 rfl _ _ (0, 0) _ P5.1 rfl rfl (info_au _ _ _ _ _) ?_ | refine wpList_load_row rfl _ _ rfl b4 rfl _ _ (0, 0) _ Q5.1 rfl rfl (info_au _ _ _ _ _) ?_)
  refine (refausame_any q2 q4 _ _ ss2 ss4 t2 t4 m2 s2 m4 s4 W5 hq2 hq4 P5.2.1 Q5.2.1).mono ?_
  rintro e w6 ⟨rfl, g6⟩
  rw [HSM.out]
  have P6 := P5.only g6
  have G6 := only_trans G5 g6
  clear P5 Q5 G5 g6
  cases hp : Aut.parse l with
  | none =>
    have hvv : Aut.valid (aut q2 ss2 t2 m2 s2) = false := by rw [HT2.out, hp]; exact aut0_valid
    go_wp2_with (refine wpList_load_row rfl _ _ rfl b2 rfl _ _ (0, 0) _ P6.1 rfl rfl (info_au _ _ _ _ _) ?_)
    refine (aubytes_any q2 _ ss2 t2 m2 s2 w6 hq2 hm2 hs2 P6.2.1).mono ?_
    rintro e w7 ⟨hb7, ht⟩
    rw [hvv] at ht
    rcases ht with ⟨_, rfl⟩ | ⟨_, _, hno, _⟩
    rotate_left
    · cases hno
    have G7 := only_trans G6 (only_of_below hb7 none)
    go_wp2_with fail
    go_ret
    exact ⟨rfl, below_of_only G7⟩
  | some t =>
    obtain ⟨hva, _, hby⟩ := Aut.parse_some HALL.out hp
    have HE := Lib.hid (show aut q2 ss2 t2 m2 s2 = t by rw [HT2.out, hp]; rfl)
    have HBY := Lib.hid hby
    have HVA := Lib.hid hva
    clear hva hby
    go_wp2_with (refine wpList_load_row rfl _ _ rfl b2 rfl _ _ (0, 0) _ P6.1 rfl rfl (info_au _ _ _ _ _) ?_)
    refine (aubytes_any q2 _ ss2 t2 m2 s2 w6 hq2 hm2 hs2 P6.2.1).mono ?_
    rintro e w7 ⟨hb7, ht⟩
    rw [HE.out, if_pos HVA.out, HBY.out] at ht
    rcases ht with ⟨hno, _⟩ | ⟨l7, v7, hl7, rfl, o7⟩
    · cases hno
    cases hl7
    obtain ⟨a7, c7, rfl⟩ := o7.form
    have O7 := Lib.hid o7.bs.rs
    have G7 := only_trans G6 (only_of_below hb7 none)
    clear o7 hb7 G6 P6
    go_wp2_with fail
    refine (same_yes _ _ l w7 O7.out (HV.out.below (below_of_only G7))).mono ?_
    rintro e w8 ⟨rfl, hb8⟩
    have G8 := only_trans G7 (only_of_below hb8 none)
    go_wp2_with fail
    go_ret
    exact ⟨rfl, below_of_only G8⟩

/-! ### THE ROW's STEP -/
namespace authParsesF
theorem own : ownKnob Tryd.prog.godebug = none := by kernel_rfl
theorem laidOut : laidOutB Tryd.prog = true := by kernel_rfl
theorem gT : Tryd.prog.globalNamed "toll/sha.constants" = some 0 := by kernel_rfl
theorem gTType : (Tryd.prog.globals[0]?).map (·.type) = some 141 := by kernel_rfl
theorem door_met (os : Os) (args : Array Value) : laidMetH Tryd.prog Rows.authParsesRow.laid ((World.doorLaid Tryd.prog 400 os).forCall (fun _ _ => 0) ⟨#[], args, []⟩).memory :=
  laidMetH_of_parts3 (fuel := 8) (laidMet_of_run' 8 (by kernel_rfl) (by kernel_rfl)) (by kernel_rfl) (by kernel_rfl)
theorem of_laid {W : World} (h : laidMetH Tryd.prog Rows.authParsesRow.laid W) : Consts W Sha.tab := fun i hi => by
  rw [MakeChecks.laidMetH_plain _ _ _ (by kernel_rfl)] at h
  have hT := Lib.tabIs_of_head (k := .u32) (zs := Sha.tableL.map fun n : Nat => (n : Int)) gT gTType Tryd.underlying141 Tryd.underlying49 (by kernel_rfl) (by kernel_rfl) h
  have hl : i < Sha.tableL.length := hi
  rw [hT.cell gT i (by simpa using hl)]
  simp [Sha.tab, List.getD, hl]
set_option maxRecDepth 100000 in
theorem lifted (os : Os) (started : os.Started) (H : Type) (enc : TypeId × Value → H) :
    ReturnsInHanded {} Tryd.checked os 8 .any (fun w args => (Rows.authParsesSpec.pre enc Tryd.prog Tryd.f8 [] false w args ∧ laidMetH Tryd.prog Rows.authParsesRow.laid w) ∧ sizedMet enc Tryd.prog Tryd.f8 (OpenSpec.ofChange Rows.authParsesSpec) false w args)
      (Rows.authParsesSpec.post enc Tryd.prog Tryd.f8 false true false false) := by
  refine returnsInHanded_of_change_and (C := Tryd.checked) (X := fun w _ => laidMetH Tryd.prog Rows.authParsesRow.laid w) (fun _ _ _ hh h => h.of_heap hh) own started (by kernel_rfl) Tryd.func8
    (ChangeSpec.witness_shaped (enc := enc) (C := Tryd.checked) (os := os) (X := fun w _ => laidMetH Tryd.prog Rows.authParsesRow.laid w) false (World.doorLaid Tryd.prog 400 os) #[.slice none 0 0] 8 rfl (World.shaped_of_RefB (by kernel_rfl) (by kernel_rfl)) (by kernel_rfl) (by kernel_rfl) (by kernel_rfl) (door_met os _)) ?_
  intro W base args ds gs before hval0 hW _ _ hL _
  have hK := of_laid hL
  have hval : ∀ (j : Nat) t v, Tryd.f8.params[j]? = some t → args[j]? = some v → Value.okWide Tryd.prog W .any base t v := hval0
  have hW' := hW
  obtain ⟨p, q, hA0, hV, rfl, _, _⟩ := hW
  have hA : DataW.TrodAll enc Tryd.prog W 0 (fun _ => true) true Tryd.f8.params.toList args.toList ds p := hA0
  rw [Tryd.params8] at hA hval
  obtain ⟨v0, vs0, d0, ds0, p0, q0, hargs, rfl, rfl, h0, r0⟩ := trodAll_cons hA
  obtain ⟨rfl, rfl, rfl⟩ := trodAll_nil r0
  obtain rfl : args = #[v0] := by cases args; simp_all
  obtain ⟨rfl, rfl⟩ := trodVars_none hV
  have k0 := h0
  have lt0 : ∀ x ∈ p0, x.block < W.heap.size := by obtain ⟨m, hm⟩ := k0; exact DataW.trod_lt m _ _ _ hm
  obtain ⟨a0, len0, cap0, rfl⟩ := okWide_slice Tryd.underlying30 (hval 0 30 v0 rfl rfl)
  obtain ⟨z0, w0⟩ := open_bytes Tryd.underlying30 Tryd.underlying5 (by kernel_rfl) h0
  refine (authParses_walk W _ z0 w0 hK).mono fun e W' ⟨he, bel⟩ => ?_
  subst he
  exact ⟨_, rfl, _, _, _, [], _, [], hW', trodAll_mk1 (shut_bool Tryd.underlying4 _), (trodAll_cons_mk (Below.trod laidOut (by kernel_rfl) (of_decide_eq_true (by kernel_rfl)) k0 bel lt0) trodAll_mk0), rfl, bel.frame _, fun h => by cases h⟩
theorem over : Rows.authParsesRow.holds Tryd.pinned (OpenSpec.ofChange Rows.authParsesSpec) :=
  OpenClaim.holds_of_wide 8 Tryd.f8 rfl rfl rfl rfl rfl rfl rfl ⟨rfl, rfl, rfl, rfl, rfl⟩ rfl rfl rfl rfl rfl (by kernel_rfl) Tryd.func8 (by kernel_rfl)
    (of_decide_eq_true (by kernel_rfl)) (by unfold Func.isWrapper; first | (rw [if_pos (by decide +kernel)]; kernel_rfl) | (rw [if_neg (by decide +kernel)]; exact ⟨rfl, rfl⟩))
    (fun os started H enc _ => lifted os started H enc)
end authParsesF
/-- The row. -/
theorem authParses_row : Rows.AuthParsesSaid := authParsesF.over
/-- The statement: the card. -/
theorem authParses_holds : Rows.AuthParsesCardSaid :=
  Claim7.holds_tied_plain_at .later [] [.data] true Rows.authParsesCard.stood.harness false
    authParses_row (fun _ h => by cases h) (by kernel_rfl) (fun _ h => by cases h) authParses_row_tie rfl ⟨rfl, rfl⟩ (by kernel_rfl) rfl
    (fun f fn hf hfn => by
      obtain rfl : f = 8 := Option.some.inj ((show Tryd.prog.funcNamed "toll/tolllaw13.AuthParses" = some 8 by kernel_rfl).symm.trans hf) |>.symm
      obtain rfl : fn = Tryd.f8 := (Option.some.inj (Tryd.func8.symm.trans hfn)).symm
      exact ⟨by kernel_rfl, fun j t ht => by
        rw [Tryd.params8] at ht
        have hm : t ∈ [30] := by simpa using Array.mem_of_getElem? ht
        have hall : ([30].all fun u => !Tryd.prog.wantsStandIn u) = true := by kernel_rfl
        exact (show Tryd.prog.wantsStandIn t = false by simpa using List.all_eq_true.1 hall t hm)⟩)
    (by kernel_rfl)
#print axioms authParses_holds
end Go.Proofs.YtnhchdkchohnbaaDoor
