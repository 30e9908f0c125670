/- The padding of any number of bytes is that of the reference implementation, and fills whole blocks: for every uint32 the law returns true. The variable sha.constants reads as the program's text lays it. -/
import Derived.Test.YtgalddnblciciaaDoorShaKit
namespace Go.Proofs.YtgalddnblciciaaDoor
open Go.ChangeShapes Go.WideShapes Go.ChangeAt Go.RowKit Go.Deep

set_option maxRecDepth 100000 in
set_option maxHeartbeats 2000000 in
theorem shaPaddings_walk (x : Int) (wx : (Lit.int .u32 x).wf = true) (w : World) (hK : Consts w Sha.tab) :
    Calls Tryd.prog 6 #[.int .u32 x] w (RetBool true w) := by
  have hx := bounds_u32 wx
  obtain ⟨n, rfl⟩ := Int.eq_ofNat_of_zero_le hx.1
  have hn : n ≤ 4294967295 := by omega
  have HK := Lib.hid hK; clear hK hx wx
  have ht : (((n : Int) + ((Sha.pad n).length : Int)) % 64 == 0) = true := by have := Sha.pad_whole n; rw [beq_iff_eq]; omega
  have hpl : (Sha.pad n).length ≤ 72 := by rw [Sha.pad_length]; omega
  have HS := Lib.hid (sameB_yes (l := Sha.pad n) (m := Sha.pad n) rfl)
  go_enter Tryd.func6, Tryd.ntmps6
  go_wp2_with fail
  refine (awake_any _ HK.out).mono ?_
  rintro e w1 ⟨rfl, hb1⟩
  have B1 := Lib.hid hb1; clear hb1
  go_wp2_with fail
  refine (padding_any n _ (by omega)).mono ?_
  rintro e w2 ⟨va, rfl, ho2, hb2⟩
  have B2 := Lib.hid (B1.out.trans (hb2.mono B1.out.size)); clear hb2 B1
  have O2 := Lib.hid ho2
  obtain ⟨aa, ca, rfl⟩ := ho2.form
  clear ho2
  go_wp2_with fail
  refine (refpadding_any n _ (by omega)).mono ?_
  rintro e w3 ⟨vb, rfl, ho3, hb3⟩
  have R2 := Lib.hid (O2.out.bs.rs.below hb3)
  have B3 := Lib.hid (B2.out.trans (hb3.mono B2.out.size)); clear hb3 B2 O2
  have O3 := Lib.hid ho3
  obtain ⟨ab, cb, rfl⟩ := ho3.form
  clear ho3
  go_wp2_with fail
  refine (same_any _ _ _ _ _ R2.out O3.out.bs.rs).mono ?_
  rintro e w4 ⟨rfl, hb4⟩
  have B4 := Lib.hid (B3.out.trans (hb4.mono B3.out.size)); clear hb4 B3
  rw [HS.out]
  go_wp2_with fail
  go_ret
  exact ⟨rfl, B4.out⟩

/-! ### THE ROW's STEP -/
namespace shaPaddingsF
theorem own : ownKnob Tryd.prog.godebug = none := by kernel_rfl
theorem laidOut : laidOutB Tryd.prog = true := by kernel_rfl
theorem gT : Tryd.prog.globalNamed "toll/sha.constants" = some 0 := by kernel_rfl
theorem gTType : (Tryd.prog.globals[0]?).map (·.type) = some 37 := by kernel_rfl
theorem door_met (os : Os) (args : Array Value) : laidMetH Tryd.prog Rows.shaPaddingsRow.laid ((World.doorLaid Tryd.prog 400 os).forCall (fun _ _ => 0) ⟨#[], args, []⟩).memory :=
  laidMetH_of_parts3 (fuel := 8) (laidMet_of_run' 8 (by kernel_rfl) (by kernel_rfl)) (by kernel_rfl) (by kernel_rfl)
theorem of_laid {W : World} (h : laidMetH Tryd.prog Rows.shaPaddingsRow.laid W) : Consts W Sha.tab := fun i hi => by
  rw [MakeChecks.laidMetH_plain _ _ _ (by kernel_rfl)] at h
  have hT := Lib.tabIs_of_head (k := .u32) (zs := Sha.tableL.map fun n : Nat => (n : Int)) gT gTType Tryd.underlying37 Tryd.underlying31 (by kernel_rfl) (by kernel_rfl) h
  have hl : i < Sha.tableL.length := hi
  rw [hT.cell gT i (by simpa using hl)]
  simp [Sha.tab, List.getD, hl]
set_option maxRecDepth 100000 in
theorem lifted (os : Os) (started : os.Started) (H : Type) (enc : TypeId × Value → H) :
    ReturnsInHanded {} Tryd.checked os 6 .any (fun w args => (Rows.shaPaddingsSpec.pre enc Tryd.prog Tryd.f6 [] false w args ∧ laidMetH Tryd.prog Rows.shaPaddingsRow.laid w) ∧ sizedMet enc Tryd.prog Tryd.f6 (OpenSpec.ofChange Rows.shaPaddingsSpec) false w args)
      (Rows.shaPaddingsSpec.post enc Tryd.prog Tryd.f6 false true false false) := by
  refine returnsInHanded_of_change_and (C := Tryd.checked) (X := fun w _ => laidMetH Tryd.prog Rows.shaPaddingsRow.laid w) (fun _ _ _ hh h => h.of_heap hh) own started (by kernel_rfl) Tryd.func6
    (ChangeSpec.witness_shaped (enc := enc) (C := Tryd.checked) (os := os) (X := fun w _ => laidMetH Tryd.prog Rows.shaPaddingsRow.laid w) false (World.doorLaid Tryd.prog 400 os) #[.int .u32 0] 8 rfl (World.shaped_of_RefB (by kernel_rfl) (by kernel_rfl)) (by kernel_rfl) (by kernel_rfl) (by kernel_rfl) (door_met os _)) ?_
  intro W base args ds gs before hval0 hW _ _ hL _
  have hK := of_laid hL
  have hval : ∀ (j : Nat) t v, Tryd.f6.params[j]? = some t → args[j]? = some v → Value.okWide Tryd.prog W .any base t v := hval0
  have hW' := hW
  obtain ⟨p, q, hA0, hV, rfl, _, _⟩ := hW
  have hA : DataW.TrodAll enc Tryd.prog W 0 (fun _ => true) true Tryd.f6.params.toList args.toList ds p := hA0
  rw [Tryd.params6] at hA hval
  obtain ⟨v0, vs0, d0, ds0, p0, q0, hargs, rfl, rfl, h0, r0⟩ := trodAll_cons hA
  obtain ⟨rfl, rfl, rfl⟩ := trodAll_nil r0
  obtain rfl : args = #[v0] := by cases args; simp_all
  obtain ⟨rfl, rfl⟩ := trodVars_none hV
  have k0 := h0
  have lt0 : ∀ x ∈ p0, x.block < W.heap.size := by obtain ⟨m, hm⟩ := k0; exact DataW.trod_lt m _ _ _ hm
  obtain ⟨a0, rfl, _, _, w0⟩ := open_int Tryd.underlying31 (hval 0 31 v0 rfl rfl) h0
  refine (shaPaddings_walk a0 w0 W hK).mono fun e W' ⟨he, bel⟩ => ?_
  subst he
  exact ⟨_, rfl, _, _, _, [], _, [], hW', trodAll_mk1 (shut_bool Tryd.underlying4 _), (trodAll_cons_mk (Below.trod laidOut (by kernel_rfl) (of_decide_eq_true (by kernel_rfl)) k0 bel lt0) trodAll_mk0), rfl, bel.frame _, fun h => by cases h⟩
theorem over : Rows.shaPaddingsRow.holds Tryd.pinned (OpenSpec.ofChange Rows.shaPaddingsSpec) :=
  OpenClaim.holds_of_wide 6 Tryd.f6 rfl rfl rfl rfl rfl rfl rfl ⟨rfl, rfl, rfl, rfl, rfl⟩ rfl rfl rfl rfl rfl (by kernel_rfl) Tryd.func6 (by kernel_rfl)
    (of_decide_eq_true (by kernel_rfl)) (by unfold Func.isWrapper; first | (rw [if_pos (by decide +kernel)]; kernel_rfl) | (rw [if_neg (by decide +kernel)]; exact ⟨rfl, rfl⟩))
    (fun os started H enc _ => lifted os started H enc)
end shaPaddingsF
/-- The row. -/
theorem shaPaddings_row : Rows.ShaPaddingsSaid := shaPaddingsF.over
/-- The statement: the card. -/
theorem shaPaddings_holds : Rows.ShaPaddingsCardSaid :=
  Claim7.holds_tied_plain_at .later [] [.data] true Rows.shaPaddingsCard.stood.harness false
    shaPaddings_row (fun _ h => by cases h) (by kernel_rfl) (fun _ h => by cases h) shaPaddings_row_tie rfl ⟨rfl, rfl⟩ (by kernel_rfl) rfl
    (fun f fn hf hfn => by
      obtain rfl : f = 6 := Option.some.inj ((show Tryd.prog.funcNamed "toll/tolllaw04.ShaPaddings" = some 6 by kernel_rfl).symm.trans hf) |>.symm
      obtain rfl : fn = Tryd.f6 := (Option.some.inj (Tryd.func6.symm.trans hfn)).symm
      exact ⟨by kernel_rfl, fun j t ht => by
        rw [Tryd.params6] at ht
        have hm : t ∈ [31] := by simpa using Array.mem_of_getElem? ht
        have hall : ([31].all fun u => !Tryd.prog.wantsStandIn u) = true := by kernel_rfl
        exact (show Tryd.prog.wantsStandIn t = false by simpa using List.all_eq_true.1 hall t hm)⟩)
    (by kernel_rfl)
#print axioms shaPaddings_holds
end Go.Proofs.YtgalddnblciciaaDoor
