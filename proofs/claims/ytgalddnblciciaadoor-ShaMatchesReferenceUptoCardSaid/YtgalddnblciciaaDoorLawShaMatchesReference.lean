/- The digest of any bytes, in any parts, is that of the reference implementation: for every list of byte slices that holds at most 1048576 values the law returns true. The variable sha.constants reads as the program's text lays it. -/
import Derived.Test.YtgalddnblciciaaDoorShaKit
import Derived.Test.YtgalddnblciciaaDoorOpenBulk
import Derived.Deep.DeepHandedRow
namespace Go.Proofs.YtgalddnblciciaaDoor
open Go.ChangeShapes Go.WideShapes Go.ChangeAt Go.RowKit Go.Deep

set_option maxRecDepth 100000 in
set_option maxHeartbeats 2000000 in
theorem shaMatchesReference_many (w : World) (v : Value) (ll : List (List Nat)) (h : Bss w v ll) (hn : 20 < ll.length) (hK : Consts w Sha.tab) :
    Calls Tryd.prog 3 #[v] w (RetBool true w) := by
  obtain ⟨a, cap, rfl, hll, -⟩ := h
  have HK := Lib.hid hK; clear hK
  go_enter Tryd.func3, Tryd.ntmps3
  go_wp2_with fail
  refine (awake_any _ HK.out).mono ?_
  rintro e w1 ⟨rfl, hb1⟩
  have B1 := Lib.hid hb1; clear hb1
  go_wp2_with fail
  refine (awake_any _ (HK.out.below B1.out)).mono ?_
  rintro e w2 ⟨rfl, hb2⟩
  have B2 := Lib.hid (B1.out.trans (hb2.mono B1.out.size)); clear hb2
  go_wp2_with fail
  go_ret
  exact ⟨rfl, B2.out⟩

set_option maxRecDepth 100000 in
set_option maxHeartbeats 2000000 in
theorem shaMatchesReference_walk (w : World) (v : Value) (ll : List (List Nat)) (h : Bss w v ll) (hj : (Wir.join ll).length ≤ 1048576) (hK : Consts w Sha.tab) :
    Calls Tryd.prog 3 #[v] w (RetBool true w) := by
  by_cases hn : 20 < ll.length
  · exact shaMatchesReference_many w v ll h hn hK
  have H := Lib.hid h
  obtain ⟨a, cap, rfl, hll, -⟩ := h
  have HK := Lib.hid hK; clear hK
  have HJ := Lib.hid hj; clear hj
  go_enter Tryd.func3, Tryd.ntmps3
  go_wp2_with fail
  refine (awake_any _ HK.out).mono ?_
  rintro e w1 ⟨rfl, hb1⟩
  have B1 := Lib.hid hb1; clear hb1
  go_wp2_with fail
  refine (refJoin_any _ ll _ (H.out.below B1.out) (by have := HJ.out; omega)).mono ?_
  rintro e w2 ⟨vj, rfl, ho, hb2⟩
  have B2 := Lib.hid (B1.out.trans (hb2.mono B1.out.size)); clear hb2
  have O := Lib.hid ho
  obtain ⟨ja, jc, rfl⟩ := ho.form
  clear ho
  by_cases hlong : 2000 < (Wir.join ll).length
  · have hl2 := HJ.out
    go_wp2_with fail
    go_ret
    exact ⟨rfl, B2.out⟩
  · have hl2 := HJ.out
    go_wp2_with fail
    refine (sum_dig _ ll _ (H.out.below B2.out) (by omega) (HK.out.below B2.out)).mono ?_
    rintro e w3 ⟨rfl, hb3⟩
    have RJ := Lib.hid (O.out.bs.rs.below hb3)
    have B3 := Lib.hid (B2.out.trans (hb3.mono B2.out.size)); clear hb3
    go_wp2_with fail
    refine (refsum_any _ (Wir.join ll) _ RJ.out (by omega)).mono ?_
    rintro e w4 ⟨rfl, hb4⟩
    have B4 := Lib.hid (B3.out.trans (hb4.mono B3.out.size)); clear hb4
    have heq := fun wx => run_equalIn_arr (P := Tryd.prog) (k := .u8) (n := 32) wx (Sha.dig (Wir.join ll)) (Sha.dig (Wir.join ll)) Tryd.underlying26 Tryd.underlying5 (by kernel_rfl)
    rw [sameArr_refl] at heq
    go_wp2_with fail
    go_ret
    exact ⟨rfl, B4.out⟩

/-! ### THE ROW's STEP -/
namespace shaMatchesReferenceF
theorem own : ownKnob Tryd.prog.godebug = none := by kernel_rfl
theorem laidOut : laidOutB Tryd.prog = true := by kernel_rfl
theorem gT : Tryd.prog.globalNamed "toll/sha.constants" = some 0 := by kernel_rfl
theorem gTType : (Tryd.prog.globals[0]?).map (·.type) = some 37 := by kernel_rfl
/-- A world for the witness: the settled one, the table holding what its initialiser lays. -/
noncomputable def laidWorld (os : Os) : World :=
  { World.holding Tryd.prog os ⟨#[], #[], []⟩ with heap := (World.holding Tryd.prog os ⟨#[], #[], []⟩).heap.modify 0 fun
      | .cells _ t frozen => .cells (Sha.tableL.map fun n : Nat => Value.int .u32 (n : Int)).toArray t frozen
      | o => o }
theorem laid_met (os : Os) : laidMet Tryd.prog Rows.shaMatchesReferenceUptoRow.laid ((laidWorld os).forCall (fun _ _ => 0) ⟨#[], #[.slice none 0 0], []⟩).memory :=
  laidMet_of_run' 8 (by kernel_rfl) (by kernel_rfl)
theorem reads (os : Os) {H : Type} (enc : TypeId × Value → H) : ∃ places, DataW.whole enc Tryd.prog ((laidWorld os).forCall (fun _ _ => 0) ⟨#[], #[.slice none 0 0], []⟩).memory Tryd.f3.params.toList Rows.shaMatchesReferenceSpec.vars false #[(.slice none 0 0 : Value)].toList 8 = some ([.nil], [], places) :=
  ⟨[], by kernel_rfl⟩
theorem of_laid {W : World} (h : laidMetH Tryd.prog Rows.shaMatchesReferenceUptoRow.laid W) : Consts W Sha.tab := fun i hi => by
  rw [MakeChecks.laidMetH_plain _ _ _ (by kernel_rfl)] at h
  have hT := Lib.tabIs_of_head (k := .u32) (zs := Sha.tableL.map fun n : Nat => (n : Int)) gT gTType Tryd.underlying37 Tryd.underlying31 (by kernel_rfl) (by kernel_rfl) h
  have hl : i < Sha.tableL.length := hi
  rw [hT.cell gT i (by simpa using hl)]
  simp [Sha.tab, List.getD, hl]
set_option maxRecDepth 100000 in
theorem lifted (os : Os) (started : os.Started) (H : Type) (enc : TypeId × Value → H) (F : Stop.Interp) :
    ReturnsInHanded {} Tryd.checked os 3 .any ((Rows.OpenSpec.upto Rows.shaMatchesReferenceSpec).preRow enc Tryd.prog Tryd.f3 Rows.shaMatchesReferenceUptoRow.domain false Rows.shaMatchesReferenceUptoRow.laid) (((Rows.OpenSpec.upto Rows.shaMatchesReferenceSpec).at F).post enc Tryd.prog Tryd.f3 false true false false) := by
  obtain ⟨places, hx⟩ := reads os enc
  refine returnsInHanded_of_row (C := Tryd.checked) (s := Rows.OpenSpec.upto Rows.shaMatchesReferenceSpec) own started (by kernel_rfl) Tryd.func3
    (witness_row_at (enc := enc) (C := Tryd.checked) false (laidWorld os) #[.slice none 0 0] rfl (by kernel_rfl) (by kernel_rfl) (by kernel_rfl)
      (OpenSpec.preRow_of_cond 8 hx (by kernel_rfl) (fun k hk => by cases hk; kernel_rfl) (by kernel_rfl) (laid_met os))) ?_
  intro W base args ds gs before hval0 hW _ hcond _ hL _ _
  have hK := of_laid hL
  have hk0 := of_decide_eq_true (hcond _ rfl)
  have hval : ∀ (j : Nat) t v, Tryd.f3.params[j]? = some t → args[j]? = some v → Value.okWide Tryd.prog W .any base t v := hval0
  have hW' := hW
  obtain ⟨p, q, hA0, hV, rfl, _, _⟩ := hW
  have hA : DataW.TrodAll enc Tryd.prog W 0 (fun _ => true) true Tryd.f3.params.toList args.toList ds p := hA0
  rw [Tryd.params3] at hA hval
  obtain ⟨v0, vs0, d0, ds0, p0, q0, hargs, rfl, rfl, h0, r0⟩ := trodAll_cons hA
  obtain ⟨rfl, rfl, rfl⟩ := trodAll_nil r0
  obtain rfl : args = #[v0] := by cases args; simp_all
  obtain ⟨rfl, rfl⟩ := trodVars_none hV
  have k0 := h0
  have lt0 : ∀ x ∈ p0, x.block < W.heap.size := by obtain ⟨m, hm⟩ := k0; exact DataW.trod_lt m _ _ _ hm
  obtain ⟨a0, len0, cap0, rfl⟩ := okWide_slice Tryd.underlying22 (hval 0 22 v0 rfl rfl)
  obtain ⟨z0, w0, b0, c0⟩ := open_byteslists_bulk Tryd.underlying22 Tryd.underlying24 Tryd.underlying5 (by kernel_rfl) (by kernel_rfl) h0
  refine (shaMatchesReference_walk W _ z0 w0 (by simp only [List.cons_append, List.nil_append, Rows.uptoBulkAll] at hk0; omega) hK).mono fun e W' ⟨he, bel⟩ => ?_
  subst he
  exact ⟨_, rfl, _, _, _, [], _, [], hW', trodAll_mk1 (shut_bool Tryd.underlying4 _), (trodAll_cons_mk (Below.trod laidOut (by kernel_rfl) (of_decide_eq_true (by kernel_rfl)) k0 bel lt0) trodAll_mk0), rfl, bel.frame _, fun h => by cases h⟩
theorem over : Rows.shaMatchesReferenceUptoRow.holds Tryd.pinned (Rows.OpenSpec.upto Rows.shaMatchesReferenceSpec) :=
  OpenClaim.holds_of_cond 3 Tryd.f3 rfl rfl rfl rfl rfl rfl rfl ⟨rfl, rfl, rfl, rfl, rfl⟩ rfl rfl rfl rfl rfl (by kernel_rfl) Tryd.func3 (by kernel_rfl)
    (of_decide_eq_true (by kernel_rfl)) (by unfold Func.isWrapper; first | (rw [if_pos (by decide +kernel)]; kernel_rfl) | (rw [if_neg (by decide +kernel)]; exact ⟨rfl, rfl⟩))
    (fun os started H enc _ F => by rw [OpenClaim.pre_eq_preRow]; exact lifted os started H enc F)
end shaMatchesReferenceF
/-- The row. -/
theorem shaMatchesReference_row : Rows.ShaMatchesReferenceUptoSaid := shaMatchesReferenceF.over
/-- The statement: the card. -/
theorem shaMatchesReference_holds : Rows.ShaMatchesReferenceUptoCardSaid :=
  Claim7.holds_tied_plain_at .later [] [.data] true Rows.shaMatchesReferenceUptoCard.stood.harness false
    shaMatchesReference_row (fun _ h => by cases h) (by kernel_rfl) (fun _ h => by cases h) shaMatchesReferenceUpto_row_tie rfl ⟨rfl, rfl⟩ (by kernel_rfl) rfl
    (fun f fn hf hfn => by
      obtain rfl : f = 3 := Option.some.inj ((show Tryd.prog.funcNamed "toll/tolllaw04.ShaMatchesReference" = some 3 by kernel_rfl).symm.trans hf) |>.symm
      obtain rfl : fn = Tryd.f3 := (Option.some.inj (Tryd.func3.symm.trans hfn)).symm
      exact ⟨by kernel_rfl, fun j t ht => by
        rw [Tryd.params3] at ht
        have hm : t ∈ [22] := by simpa using Array.mem_of_getElem? ht
        have hall : ([22].all fun u => !Tryd.prog.wantsStandIn u) = true := by kernel_rfl
        exact (show Tryd.prog.wantsStandIn t = false by simpa using List.all_eq_true.1 hall t hm)⟩)
    (by kernel_rfl)
#print axioms shaMatchesReference_holds
end Go.Proofs.YtgalddnblciciaaDoor
