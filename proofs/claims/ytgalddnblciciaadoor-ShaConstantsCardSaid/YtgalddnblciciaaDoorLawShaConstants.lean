/- Each constant consists of bits of the cube root of its prime number, and each word of the start of bits of the square root: for every int the law returns true. The variable sha.constants reads as the program's text lays it. -/
import Derived.Test.YtgalddnblciciaaDoorShaKit
import Derived.Test.YtgalddnblciciaaDoorRtD
import Derived.Deep.RegionHeld3
namespace Go.Proofs.YtgalddnblciciaaDoor
open Go.ChangeShapes Go.WideShapes Go.ChangeAt Go.RowKit Go.Deep

theorem prime_at (x : Int) (i p : Nat) (hx : x = (i : Int)) (h : Rt.primeF 310 2 i = some p) (hi : i < 64) (w : World) :
    Calls Tryd.prog 23 #[.int .i64 x] w fun e w' => e = .returned (.int .i64 p) ∧ w' = w := by subst hx; exact prime_any i p h hi w
theorem root_at (x d : Int) (n deg r : Nat) (hx : x = (n : Int)) (hd : d = (deg : Int)) (hn : n < 312) (hd1 : 1 ≤ deg) (hd3 : deg ≤ 3) (hr : Rt.root n deg = some r) (w : World) :
    Calls Tryd.prog 22 #[.int .i64 x, .int .i64 d] w fun e w' => e = .returned (.int .u32 r) ∧ w.grownBy w' none := by subst hx; subst hd; exact root_any n deg r hn hd1 hd3 hr w
theorem start_at : ∀ m : Fin 8, Sha.start.at m.1 = Rt.starts.getD m.1 0 := by decide +kernel
set_option maxRecDepth 100000 in
set_option maxHeartbeats 4000000 in
theorem shaConstants_out (x : Int) (hx : x < 0 ∨ 64 ≤ x) (w : World) (hK : Consts w Sha.tab) :
    Calls Tryd.prog 5 #[.int .i64 x] w (RetBool true w) := by
  have HK := Lib.hid hK; clear hK
  go_enter Tryd.func5, Tryd.ntmps5
  go_wp2_with fail
  refine (awake_any _ HK.out).mono ?_
  rintro e w1 ⟨rfl, hb1⟩
  have HK1 := Lib.hid (HK.out.below hb1)
  have B1 := Lib.hid hb1; clear hb1 HK
  go_wp2_with fail
  refine (const_any x Sha.tab _ HK1.out).mono ?_
  rintro e w2 ⟨rfl, rfl⟩
  rw [constV_out _ x hx, constB_out x hx]
  rcases hx with hx | hx
  all_goals (
    go_wp2_with fail
    all_goals first | omega | skip
    all_goals (
      go_ret
      exact ⟨rfl, B1.out⟩))
set_option maxRecDepth 100000 in
set_option maxHeartbeats 4000000 in
theorem shaConstants_in (n : Nat) (hn : n < 64) (w : World) (hK : Consts w Sha.tab) :
    Calls Tryd.prog 5 #[.int .i64 n] w (RetBool true w) := by
  have HK := Lib.hid hK; clear hK
  obtain ⟨m, hm⟩ : ∃ m, m = n % 8 := ⟨_, rfl⟩
  have hm8 : m < 8 := by omega
  have htm : (n : Int).tmod 8 = (m : Int) := by rw [Int.tmod_eq_emod_of_nonneg (by omega)]; omega
  have P1 := Lib.hid (Rt.prime_all ⟨n, hn⟩)
  have P2 := Lib.hid (Rt.prime_all ⟨m, by omega⟩)
  have S1 := Rt.prime_small ⟨n, hn⟩
  have S2 := Rt.prime_small ⟨m, by omega⟩
  have R1 := Lib.hid (Rt.root3_all ⟨n, hn⟩)
  have R2 := Lib.hid (Rt.root2_all ⟨m, hm8⟩)
  have hix : ∀ W : World, (Instr.index 32 (.agg (arr .u32 8 Sha.start.at)) (.int .i64 (m : Int))).run Tryd.prog W = .ok (.int .u32 (Rt.starts.getD m 0)) W := fun W => by
    rw [← start_at ⟨m, hm8⟩]
    exact run_index_int .u32 Tryd.underlying32 Tryd.underlying31 (by kernel_rfl) hm8 (arr_get .u32 8 Sha.start.at m hm8)
  dsimp only at P1 P2 S1 S2 R1 R2
  have hct : constV Sha.tab n = Sha.tableL.getD n 0 := constV_in _ n hn
  have hcb := constB_in n hn
  generalize Rt.primes.getD n 0 = p1 at *
  generalize Rt.primes.getD m 0 = p2 at *
  generalize Sha.tableL.getD n 0 = t1 at *
  generalize Rt.starts.getD m 0 = t2 at *
  have HCT := Lib.hid hct
  have HCB := Lib.hid hcb
  have HIX := Lib.hid hix
  have HTM := Lib.hid htm
  have S1' := Lib.hid S1
  have S2' := Lib.hid S2
  clear hct hcb hm hix htm S1 S2
  go_enter Tryd.func5, Tryd.ntmps5
  go_wp2_with fail
  refine (awake_any _ HK.out).mono ?_
  rintro e w1 ⟨rfl, hb1⟩
  have HK1 := Lib.hid (HK.out.below hb1)
  have B1 := Lib.hid hb1; clear hb1 HK
  go_wp2_with fail
  refine (const_any n Sha.tab _ HK1.out).mono ?_
  rintro e w2 ⟨rfl, rfl⟩
  rw [HCT.out, HCB.out]
  have HNN := Lib.hid hn
  have HM8 := Lib.hid hm8
  have e1 : decide ((n : Int) < 0) = false := decide_eq_false (by omega)
  have e2 : decide ((n : Int) > 63) = false := decide_eq_false (by omega)
  clear hn hm8
  go_wp2_with fail
  all_goals first | omega | skip
  have hix := HIX.out
  have htm := HTM.out
  have g0 : w.grownBy w1.drew none := only_of_below (Below.drew B1.out) none
  go_region_held3 (fun _ => True) (trivial) (first
    | (go_at_call 23; refine (prime_at _ n p1 (by rfl) P1.out HNN.out _).mono ?_; rintro e w3 ⟨rfl, rfl⟩)
    | (go_at_call 22; refine (root_at _ _ p1 3 t1 (by rfl) (by rfl) S1'.out (by omega) (by omega) R1.out _).mono ?_; rintro e w4 ⟨rfl, h4⟩; have g4 := only_trans g0 h4)
    | (go_at_call 24; refine (start_any _).mono ?_; rintro e w5 ⟨rfl, hb5⟩; have g5 := only_trans g4 (only_of_below hb5 none))
    | (go_at_call 23; refine (prime_at _ m p2 (by rfl) P2.out (Nat.lt_trans HM8.out (by omega)) _).mono ?_; rintro e w6 ⟨rfl, rfl⟩)
    | (go_at_call 22; refine (root_at _ _ p2 2 t2 (by rfl) (by rfl) S2'.out (by omega) (by omega) R2.out _).mono ?_; rintro e w7 ⟨rfl, h7⟩; have g7 := only_trans g5 h7))
  all_goals (
    go_wp2_with fail
    go_ret
    exact ⟨rfl, below_of_only g7⟩)
theorem shaConstants_walk (x : Int) (wx : (Lit.int .i64 x).wf = true) (w : World) (hK : Consts w Sha.tab) :
    Calls Tryd.prog 5 #[.int .i64 x] w (RetBool true w) := by
  have _ := wx
  by_cases h : x < 0 ∨ 64 ≤ x
  · exact shaConstants_out x h w hK
  · obtain ⟨n, rfl⟩ := Int.eq_ofNat_of_zero_le (show 0 ≤ x by omega)
    exact shaConstants_in n (by omega) w hK

/-! ### THE ROW's STEP -/
namespace shaConstantsF
theorem own : ownKnob Tryd.prog.godebug = none := by kernel_rfl
theorem laidOut : laidOutB Tryd.prog = true := by kernel_rfl
theorem gT : Tryd.prog.globalNamed "toll/sha.constants" = some 0 := by kernel_rfl
theorem gTType : (Tryd.prog.globals[0]?).map (·.type) = some 37 := by kernel_rfl
theorem door_met (os : Os) (args : Array Value) : laidMetH Tryd.prog Rows.shaConstantsRow.laid ((World.doorLaid Tryd.prog 400 os).forCall (fun _ _ => 0) ⟨#[], args, []⟩).memory :=
  laidMetH_of_parts3 (fuel := 8) (laidMet_of_run' 8 (by kernel_rfl) (by kernel_rfl)) (by kernel_rfl) (by kernel_rfl)
theorem of_laid {W : World} (h : laidMetH Tryd.prog Rows.shaConstantsRow.laid W) : Consts W Sha.tab := fun i hi => by
  rw [MakeChecks.laidMetH_plain _ _ _ (by kernel_rfl)] at h
  have hT := Lib.tabIs_of_head (k := .u32) (zs := Sha.tableL.map fun n : Nat => (n : Int)) gT gTType Tryd.underlying37 Tryd.underlying31 (by kernel_rfl) (by kernel_rfl) h
  have hl : i < Sha.tableL.length := hi
  rw [hT.cell gT i (by simpa using hl)]
  simp [Sha.tab, List.getD, hl]
set_option maxRecDepth 100000 in
theorem lifted (os : Os) (started : os.Started) (H : Type) (enc : TypeId × Value → H) :
    ReturnsInHanded {} Tryd.checked os 5 .any (fun w args => (Rows.shaConstantsSpec.pre enc Tryd.prog Tryd.f5 [] false w args ∧ laidMetH Tryd.prog Rows.shaConstantsRow.laid w) ∧ sizedMet enc Tryd.prog Tryd.f5 (OpenSpec.ofChange Rows.shaConstantsSpec) false w args)
      (Rows.shaConstantsSpec.post enc Tryd.prog Tryd.f5 false true false false) := by
  refine returnsInHanded_of_change_and (C := Tryd.checked) (X := fun w _ => laidMetH Tryd.prog Rows.shaConstantsRow.laid w) (fun _ _ _ hh h => h.of_heap hh) own started (by kernel_rfl) Tryd.func5
    (ChangeSpec.witness_shaped (enc := enc) (C := Tryd.checked) (os := os) (X := fun w _ => laidMetH Tryd.prog Rows.shaConstantsRow.laid w) false (World.doorLaid Tryd.prog 400 os) #[.int .i64 0] 8 rfl (World.shaped_of_RefB (by kernel_rfl) (by kernel_rfl)) (by kernel_rfl) (by kernel_rfl) (by kernel_rfl) (door_met os _)) ?_
  intro W base args ds gs before hval0 hW _ _ hL _
  have hK := of_laid hL
  have hval : ∀ (j : Nat) t v, Tryd.f5.params[j]? = some t → args[j]? = some v → Value.okWide Tryd.prog W .any base t v := hval0
  have hW' := hW
  obtain ⟨p, q, hA0, hV, rfl, _, _⟩ := hW
  have hA : DataW.TrodAll enc Tryd.prog W 0 (fun _ => true) true Tryd.f5.params.toList args.toList ds p := hA0
  rw [Tryd.params5] at hA hval
  obtain ⟨v0, vs0, d0, ds0, p0, q0, hargs, rfl, rfl, h0, r0⟩ := trodAll_cons hA
  obtain ⟨rfl, rfl, rfl⟩ := trodAll_nil r0
  obtain rfl : args = #[v0] := by cases args; simp_all
  obtain ⟨rfl, rfl⟩ := trodVars_none hV
  have k0 := h0
  have lt0 : ∀ x ∈ p0, x.block < W.heap.size := by obtain ⟨m, hm⟩ := k0; exact DataW.trod_lt m _ _ _ hm
  obtain ⟨a0, rfl, _, _, w0⟩ := open_int Tryd.underlying3 (hval 0 3 v0 rfl rfl) h0
  refine (shaConstants_walk a0 w0 W hK).mono fun e W' ⟨he, bel⟩ => ?_
  subst he
  exact ⟨_, rfl, _, _, _, [], _, [], hW', trodAll_mk1 (shut_bool Tryd.underlying4 _), (trodAll_cons_mk (Below.trod laidOut (by kernel_rfl) (of_decide_eq_true (by kernel_rfl)) k0 bel lt0) trodAll_mk0), rfl, bel.frame _, fun h => by cases h⟩
theorem over : Rows.shaConstantsRow.holds Tryd.pinned (OpenSpec.ofChange Rows.shaConstantsSpec) :=
  OpenClaim.holds_of_wide 5 Tryd.f5 rfl rfl rfl rfl rfl rfl rfl ⟨rfl, rfl, rfl, rfl, rfl⟩ rfl rfl rfl rfl rfl (by kernel_rfl) Tryd.func5 (by kernel_rfl)
    (of_decide_eq_true (by kernel_rfl)) (by unfold Func.isWrapper; first | (rw [if_pos (by decide +kernel)]; kernel_rfl) | (rw [if_neg (by decide +kernel)]; exact ⟨rfl, rfl⟩))
    (fun os started H enc _ => lifted os started H enc)
end shaConstantsF
/-- The row. -/
theorem shaConstants_row : Rows.ShaConstantsSaid := shaConstantsF.over
/-- The statement: the card. -/
theorem shaConstants_holds : Rows.ShaConstantsCardSaid :=
  Claim7.holds_tied_plain_at .later [] [.data] true Rows.shaConstantsCard.stood.harness false
    shaConstants_row (fun _ h => by cases h) (by kernel_rfl) (fun _ h => by cases h) shaConstants_row_tie rfl ⟨rfl, rfl⟩ (by kernel_rfl) rfl
    (fun f fn hf hfn => by
      obtain rfl : f = 5 := Option.some.inj ((show Tryd.prog.funcNamed "toll/tolllaw04.ShaConstants" = some 5 by kernel_rfl).symm.trans hf) |>.symm
      obtain rfl : fn = Tryd.f5 := (Option.some.inj (Tryd.func5.symm.trans hfn)).symm
      exact ⟨by kernel_rfl, fun j t ht => by
        rw [Tryd.params5] at ht
        have hm : t ∈ [3] := by simpa using Array.mem_of_getElem? ht
        have hall : ([3].all fun u => !Tryd.prog.wantsStandIn u) = true := by kernel_rfl
        exact (show Tryd.prog.wantsStandIn t = false by simpa using List.all_eq_true.1 hall t hm)⟩)
    (by kernel_rfl)
#print axioms shaConstants_holds
end Go.Proofs.YtgalddnblciciaaDoor
