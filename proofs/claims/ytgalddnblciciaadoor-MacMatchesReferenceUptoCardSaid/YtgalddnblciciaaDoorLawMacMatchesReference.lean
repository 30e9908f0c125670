/- The code of any bytes, in any parts, under any key, is that of the reference implementation: for every key and every list of byte slices that hold at most 1048576 values the law returns true. The variable sha.constants reads as the program's text lays it. -/
import Derived.Test.YtgalddnblciciaaDoorMacKit
namespace Go.Proofs.YtgalddnblciciaaDoor
open Go.ChangeShapes Go.WideShapes Go.ChangeAt Go.RowKit Go.Deep

set_option maxRecDepth 100000 in
set_option maxHeartbeats 2000000 in
theorem macMatchesReference_many (w : World) (u : Value) (l : List Nat) (hl : Rs w u l) (v : Value) (ll : List (List Nat)) (h : Bss w v ll) (hn : 300 < l.length ∨ 20 < ll.length) (hK : Consts w Sha.tab) :
    Calls Tryd.prog 8 #[u, v] w (RetBool true w) := by
  obtain ⟨b, d, rfl⟩ := hl.form
  have h63 := hl.len
  obtain ⟨a, cap, rfl, hll, -⟩ := h
  have HK := Lib.hid hK; clear hK
  have key := mac_key HK
  by_cases h5 : 300 < l.length
  · have d1 : decide ((300 : Int) < (l.length : Int)) = true := by simp; omega
    go_enter Tryd.func8, Tryd.ntmps8
    go_wp2_with fail
    refine (key _ (Below.refl _ _)).mono ?_
    rintro e w1 ⟨rfl, hb1⟩
    have B1 := Lib.hid hb1; clear hb1
    go_wp2_with fail
    refine (key _ B1.out).mono ?_
    rintro e w2 ⟨rfl, hb2⟩
    have B2 := Lib.hid hb2; clear hb2
    go_wp2_with fail
    go_ret
    exact ⟨rfl, B2.out⟩
  · have d1 : decide ((300 : Int) < (l.length : Int)) = false := by simp; omega
    have d2 : decide ((20 : Int) < (ll.length : Int)) = true := by simp; omega
    go_enter Tryd.func8, Tryd.ntmps8
    go_wp2_with fail
    refine (key _ (Below.refl _ _)).mono ?_
    rintro e w1 ⟨rfl, hb1⟩
    have B1 := Lib.hid hb1; clear hb1
    go_wp2_with fail
    refine (key _ B1.out).mono ?_
    rintro e w2 ⟨rfl, hb2⟩
    have B2 := Lib.hid hb2; clear hb2
    go_wp2_with fail
    go_ret
    exact ⟨rfl, B2.out⟩

set_option maxRecDepth 100000 in
set_option maxHeartbeats 2000000 in
theorem macMatchesReference_walk (w : World) (u : Value) (l : List Nat) (hl : Rs w u l) (hlen : l.length ≤ 1048576) (v : Value) (ll : List (List Nat)) (h : Bss w v ll) (hj : (Wir.join ll).length ≤ 1048576) (hK : Consts w Sha.tab) :
    Calls Tryd.prog 8 #[u, v] w (RetBool true w) := by
  by_cases hn : 300 < l.length ∨ 20 < ll.length
  · exact macMatchesReference_many w u l hl v ll h hn hK
  have RU := Lib.hid hl
  have H := Lib.hid h
  obtain ⟨b, d, rfl⟩ := hl.form
  obtain ⟨a, cap, rfl, hll, -⟩ := h
  have HK := Lib.hid hK; clear hK hl
  have HJ := Lib.hid hj; clear hj
  obtain ⟨f, hf⟩ : ∃ f, f = Mac.hm l (Wir.join ll) := ⟨_, rfl⟩
  have S1 : ∀ w1, Below w.heap.size w w1 → Calls Tryd.prog 29 #[.slice b l.length d, .slice a ll.length cap] w1 fun e w2 => e = .returned (.agg (arr .u8 32 f)) ∧ Below w1.heap.size w1 w2 := fun w1 hb => by
    rw [hf]
    exact macsum_any l _ _ ll _ (RU.out.below hb) (by omega) (H.out.below hb) (by have := HJ.out; omega) (by omega) (HK.out.below hb)
  have S2 : ∀ w1 vj, Below w.heap.size w w1 → Rs w1 vj (Wir.join ll) → Calls Tryd.prog 30 #[.slice b l.length d, vj] w1 fun e w2 => e = .returned (.agg (arr .u8 32 f)) ∧ Below w1.heap.size w1 w2 := fun w1 vj hb hr => by
    rw [hf]
    exact refmac_any l (Wir.join ll) _ _ _ (RU.out.below hb) (by omega) hr (by have := HJ.out; omega)
  clear hf
  have d1 : decide ((300 : Int) < (l.length : Int)) = false := by simp; omega
  have d2 : decide ((20 : Int) < (ll.length : Int)) = false := by simp; omega
  have HN := Lib.hid hn; clear hn
  go_enter Tryd.func8, Tryd.ntmps8
  go_wp2_with fail
  refine (macAwake_any _ HK.out).mono ?_
  rintro e w1 ⟨rfl, hb1⟩
  have B1 := Lib.hid hb1; clear hb1
  go_wp2_with fail
  refine (refJoin_any _ ll _ (H.out.below B1.out) (by have := HJ.out; omega)).mono ?_
  rintro e w2 ⟨vj, rfl, ho, hb2⟩
  have B2 := Lib.hid (B1.out.trans (hb2.mono B1.out.size)); clear hb2
  have O := Lib.hid ho
  obtain ⟨ja, jc, rfl⟩ := ho.form
  clear ho
  by_cases hlong : 1000 < (Wir.join ll).length
  · have hl2 := HJ.out
    go_wp2_with fail
    go_ret
    exact ⟨rfl, B2.out⟩
  · have hl2 := HJ.out
    go_wp2_with fail
    refine (S1 _ B2.out).mono ?_
    rintro e w3 ⟨rfl, hb3⟩
    have RJ := Lib.hid (O.out.bs.rs.below hb3)
    have B3 := Lib.hid (B2.out.trans (hb3.mono B2.out.size)); clear hb3
    go_wp2_with fail
    refine (S2 _ _ B3.out RJ.out).mono ?_
    rintro e w4 ⟨rfl, hb4⟩
    have B4 := Lib.hid (B3.out.trans (hb4.mono B3.out.size)); clear hb4
    have heq := fun wx => run_equalIn_arr (P := Tryd.prog) (k := .u8) (n := 32) wx f f Tryd.underlying26 Tryd.underlying5 (by kernel_rfl)
    rw [sameArr_refl] at heq
    clear S1 S2
    go_wp2_with fail
    go_ret
    exact ⟨rfl, B4.out⟩

/-! ### THE ROW's STEP -/
namespace macMatchesReferenceF
theorem own : ownKnob Tryd.prog.godebug = none := by kernel_rfl
theorem laidOut : laidOutB Tryd.prog = true := by kernel_rfl
theorem gT : Tryd.prog.globalNamed "toll/sha.constants" = some 0 := by kernel_rfl
theorem gTType : (Tryd.prog.globals[0]?).map (·.type) = some 37 := by kernel_rfl
/-- A world for the witness: the settled one, the table holding what its initialiser lays. -/
noncomputable def laidWorld (os : Os) : World :=
  { World.holding Tryd.prog os ⟨#[], #[], []⟩ with heap := (World.holding Tryd.prog os ⟨#[], #[], []⟩).heap.modify 0 fun
      | .cells _ t frozen => .cells (Sha.tableL.map fun n : Nat => Value.int .u32 (n : Int)).toArray t frozen
      | o => o }
theorem laid_met (os : Os) : laidMet Tryd.prog Rows.macMatchesReferenceUptoRow.laid ((laidWorld os).forCall (fun _ _ => 0) ⟨#[], #[.slice none 0 0, .slice none 0 0], []⟩).memory :=
  laidMet_of_run' 8 (by kernel_rfl) (by kernel_rfl)
theorem reads (os : Os) {H : Type} (enc : TypeId × Value → H) : ∃ places, DataW.whole enc Tryd.prog ((laidWorld os).forCall (fun _ _ => 0) ⟨#[], #[.slice none 0 0, .slice none 0 0], []⟩).memory Tryd.f8.params.toList Rows.macMatchesReferenceSpec.vars false #[(.slice none 0 0 : Value), (.slice none 0 0 : Value)].toList 8 = some ([.nil, .nil], [], places) :=
  ⟨[], by kernel_rfl⟩
theorem of_laid {W : World} (h : laidMetH Tryd.prog Rows.macMatchesReferenceUptoRow.laid W) : Consts W Sha.tab := fun i hi => by
  rw [MakeChecks.laidMetH_plain _ _ _ (by kernel_rfl)] at h
  have hT := Lib.tabIs_of_head (k := .u32) (zs := Sha.tableL.map fun n : Nat => (n : Int)) gT gTType Tryd.underlying37 Tryd.underlying31 (by kernel_rfl) (by kernel_rfl) h
  have hl : i < Sha.tableL.length := hi
  rw [hT.cell gT i (by simpa using hl)]
  simp [Sha.tab, List.getD, hl]
set_option maxRecDepth 100000 in
theorem lifted (os : Os) (started : os.Started) (H : Type) (enc : TypeId × Value → H) (F : Stop.Interp) :
    ReturnsInHanded {} Tryd.checked os 8 .any ((Rows.OpenSpec.upto Rows.macMatchesReferenceSpec).preRow enc Tryd.prog Tryd.f8 Rows.macMatchesReferenceUptoRow.domain false Rows.macMatchesReferenceUptoRow.laid) (((Rows.OpenSpec.upto Rows.macMatchesReferenceSpec).at F).post enc Tryd.prog Tryd.f8 false true false false) := by
  obtain ⟨places, hx⟩ := reads os enc
  refine returnsInHanded_of_row (C := Tryd.checked) (s := Rows.OpenSpec.upto Rows.macMatchesReferenceSpec) own started (by kernel_rfl) Tryd.func8
    (witness_row_at (enc := enc) (C := Tryd.checked) false (laidWorld os) #[.slice none 0 0, .slice none 0 0] rfl (by kernel_rfl) (by kernel_rfl) (by kernel_rfl)
      (OpenSpec.preRow_of_cond 8 hx (by kernel_rfl) (fun k hk => by cases hk; kernel_rfl) (by kernel_rfl) (laid_met os))) ?_
  intro W base args ds gs before hval0 hW _ hcond _ hL _ _
  have hK := of_laid hL
  have hk0 := of_decide_eq_true (hcond _ rfl)
  have hval : ∀ (j : Nat) t v, Tryd.f8.params[j]? = some t → args[j]? = some v → Value.okWide Tryd.prog W .any base t v := hval0
  have hW' := hW
  obtain ⟨p, q, hA0, hV, rfl, _, _⟩ := hW
  have hA : DataW.TrodAll enc Tryd.prog W 0 (fun _ => true) true Tryd.f8.params.toList args.toList ds p := hA0
  rw [Tryd.params8] at hA hval
  obtain ⟨v0, vs0, d0, ds0, p0, q0, hargs, rfl, rfl, h0, r0⟩ := trodAll_cons hA
  obtain ⟨v1, vs1, d1, ds1, p1, q1, rfl, rfl, rfl, h1, r1⟩ := trodAll_cons r0
  obtain ⟨rfl, rfl, rfl⟩ := trodAll_nil r1
  obtain rfl : args = #[v0, v1] := by cases args; simp_all
  obtain ⟨rfl, rfl⟩ := trodVars_none hV
  have k0 := h0
  have lt0 : ∀ x ∈ p0, x.block < W.heap.size := by obtain ⟨m, hm⟩ := k0; exact DataW.trod_lt m _ _ _ hm
  obtain ⟨a0, len0, cap0, rfl⟩ := okWide_slice Tryd.underlying24 (hval 0 24 v0 rfl rfl)
  obtain ⟨z0, w0, b0⟩ := open_bytes_bulk Tryd.underlying24 Tryd.underlying5 (by kernel_rfl) h0
  have k1 := h1
  have lt1 : ∀ x ∈ p1, x.block < W.heap.size := by obtain ⟨m, hm⟩ := k1; exact DataW.trod_lt m _ _ _ hm
  obtain ⟨a1, len1, cap1, rfl⟩ := okWide_slice Tryd.underlying22 (hval 1 22 v1 rfl rfl)
  obtain ⟨z1, w1, b1, c1⟩ := open_byteslists_bulk Tryd.underlying22 Tryd.underlying24 Tryd.underlying5 (by kernel_rfl) (by kernel_rfl) h1
  refine (macMatchesReference_walk W _ z0 w0 (by simp only [List.cons_append, List.nil_append, Rows.uptoBulkAll] at hk0; omega) _ z1 w1 (by simp only [List.cons_append, List.nil_append, Rows.uptoBulkAll] at hk0; omega) hK).mono fun e W' ⟨he, bel⟩ => ?_
  subst he
  exact ⟨_, rfl, _, _, _, [], _, [], hW', trodAll_mk1 (shut_bool Tryd.underlying4 _), (trodAll_cons_mk (Below.trod laidOut (by kernel_rfl) (of_decide_eq_true (by kernel_rfl)) k0 bel lt0) (trodAll_cons_mk (Below.trod laidOut (by kernel_rfl) (of_decide_eq_true (by kernel_rfl)) k1 bel lt1) trodAll_mk0)), rfl, bel.frame _, fun h => by cases h⟩
theorem over : Rows.macMatchesReferenceUptoRow.holds Tryd.pinned (Rows.OpenSpec.upto Rows.macMatchesReferenceSpec) :=
  OpenClaim.holds_of_cond 8 Tryd.f8 rfl rfl rfl rfl rfl rfl rfl ⟨rfl, rfl, rfl, rfl, rfl⟩ rfl rfl rfl rfl rfl (by kernel_rfl) Tryd.func8 (by kernel_rfl)
    (of_decide_eq_true (by kernel_rfl)) (by unfold Func.isWrapper; first | (rw [if_pos (by decide +kernel)]; kernel_rfl) | (rw [if_neg (by decide +kernel)]; exact ⟨rfl, rfl⟩))
    (fun os started H enc _ F => by rw [OpenClaim.pre_eq_preRow]; exact lifted os started H enc F)
end macMatchesReferenceF
/-- The row. -/
theorem macMatchesReference_row : Rows.MacMatchesReferenceUptoSaid := macMatchesReferenceF.over
/-- The statement: the card. -/
theorem macMatchesReference_holds : Rows.MacMatchesReferenceUptoCardSaid :=
  Claim7.holds_tied_plain_at .later [] [.data] true Rows.macMatchesReferenceUptoCard.stood.harness false
    macMatchesReference_row (fun _ h => by cases h) (by kernel_rfl) (fun _ h => by cases h) macMatchesReferenceUpto_row_tie rfl ⟨rfl, rfl⟩ (by kernel_rfl) rfl
    (fun f fn hf hfn => by
      obtain rfl : f = 8 := Option.some.inj ((show Tryd.prog.funcNamed "toll/tolllaw05.MacMatchesReference" = some 8 by kernel_rfl).symm.trans hf) |>.symm
      obtain rfl : fn = Tryd.f8 := (Option.some.inj (Tryd.func8.symm.trans hfn)).symm
      exact ⟨by kernel_rfl, fun j t ht => by
        rw [Tryd.params8] at ht
        have hm : t ∈ [24, 22] := by simpa using Array.mem_of_getElem? ht
        have hall : ([24, 22].all fun u => !Tryd.prog.wantsStandIn u) = true := by kernel_rfl
        exact (show Tryd.prog.wantsStandIn t = false by simpa using List.all_eq_true.1 hall t hm)⟩)
    (by kernel_rfl)
#print axioms macMatchesReference_holds
end Go.Proofs.YtgalddnblciciaaDoor
