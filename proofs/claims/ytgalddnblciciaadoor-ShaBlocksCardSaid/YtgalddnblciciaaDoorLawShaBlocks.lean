/- The state after any block is that of the reference implementation: for every seed and every state the law returns true. The variable sha.constants reads as the program's text lays it. -/
import Derived.Test.YtgalddnblciciaaDoorShaKit
import Derived.Test.YtgalddnblciciaaDoorHeld
namespace Go.Proofs.YtgalddnblciciaaDoor
open Go.ChangeShapes Go.WideShapes Go.ChangeAt Go.RowKit Go.Deep

set_option maxRecDepth 100000 in
set_option maxHeartbeats 4000000 in
theorem shaBlocks_core (x : Int) (hx : 0 ≤ x ∧ x < 18446744073709551616) (s : Sha.St) (hs : Sha.St32 s) (w : World) (hK : Consts w Sha.tab) :
    Calls Tryd.prog 4 #[.int .u64 x, .agg (arr .u32 8 s.at)] w (RetBool true w) := by
  have HK := Lib.hid hK; clear hK
  have HS := Lib.hid hs; clear hs
  have hsz := arr_size .u32 8 s.at
  have hat : ∀ (ad : Option Addr) cp wx, (Instr.arrayAt 33 (.slice ad 64 cp)).run Tryd.prog wx = .ok (.pointer ad) wx := fun ad cp wx => run_arrayAt wx 33 5 64 ad 64 cp Tryd.underlying33 (Nat.le_refl _)
  have hi64 : ∀ f, ((Tryd.prog).info? 33).map (·.size) = some (arr .u8 64 f).size := by intro f; rw [arr_size]; rfl
  go_enter Tryd.func4, Tryd.ntmps4
  go_wp2_with fail
  refine (awake_any _ (HK.out.below ((Below.refl _ _).alloc (Nat.le_refl _) _))).mono ?_
  rintro e w1 ⟨rfl, hb1⟩
  have hs1 : isArr w1 w.heap.size 32 .u32 8 s.at := (isArr_new w _ _ _ _).below hb1 (by simp)
  have hz1 : w.heap.size + 1 ≤ w1.heap.size := by have := hb1.size; simpa using this
  have hB1 : Below w.heap.size w w1 := ((Below.refl _ _).alloc (Nat.le_refl _) _).trans (hb1.mono (by simp))
  clear hb1
  have B1 := Lib.hid hB1; clear hB1
  go_wp2_with fail
  refine (spread_any x 64 _ hx (by omega)).mono ?_
  rintro e w2 ⟨l, v, rfl, hl, ho, hb2⟩
  have hs2 := hs1.below hb2 (by omega)
  have hz2 : w.heap.size + 1 ≤ w2.heap.size := Nat.le_trans hz1 hb2.size
  have B2 := Lib.hid (B1.out.trans (hb2.mono B1.out.size))
  have hbb := fun i => ho.1.get i
  rcases ho.bs.cases with ⟨h', hnil⟩ | ⟨g, off, gc, rfl, hc1, hc2, hc3, hc⟩
  · rw [hnil] at hl; simp at hl
  rw [hl] at hc1 ⊢
  have HC := Lib.hid (cells_of (o := 0) (n := 64) hc (by omega))
  have hf : (fun i => l.getD (0 + i) 0) = fun i => l.getD i 0 := by funext i; rw [Nat.zero_add]
  rw [hf, Nat.add_zero] at HC
  have HBB := Lib.hid hbb
  generalize (fun i => l.getD i 0) = b at HC hf
  have hbl : ∀ i, b i < 256 := by intro i; have := congrFun hf i; rw [← this]; exact HBB.out _
  have HBL := Lib.hid hbl
  clear hs1 hz1 hb2 B1 ho hbb hc hc1 hc2 hc3 hl hf HBB hbl
  go_upto_region 4 with (first | refine wpList_load_arr rfl _ _ rfl ⟨g, off, none⟩ rfl _ _ HC.out rfl rfl (hi64 _) ?_ | (refine wpList_store_rowTo rfl _ _ _ rfl rfl w2.heap.size _ rfl rfl _ _ (heap_alloc_new _ _) (hi64 _) (by rw [arr_size]; rfl) (arr_one _ _ _) ?_; generalize hV : World.setRow _ w2.heap.size _ = V))
  have hVb : Below w2.heap.size w2 V := by rw [← hV]; exact below_setRow ((Below.refl _ _).alloc (Nat.le_refl _) _) (Nat.le_refl _) _
  have hVa : isArr V w2.heap.size 33 .u8 64 b := by rw [← hV]; exact setRow_heap _ _ _ _ _ _ (heap_alloc_new _ _)
  have hVs : isArr V w.heap.size 32 .u32 8 s.at := hs2.below hVb (by omega)
  have BV := Lib.hid (B2.out.trans (hVb.mono B2.out.size))
  clear hV hVb hs2 hz2 HC B2
  generalize w2.heap.size = gb at hVa ⊢
  generalize w.heap.size = gs at hVs ⊢
  have hi8 : ∀ f, ((Tryd.prog).info? 32).map (·.size) = some (arr .u32 8 f).size := by intro f; rw [arr_size]; rfl
  have HC2 : Hid (∀ w', Below V.heap.size V w' → Consts w' Sha.tab) := Lib.hid (fun w' hb => HK.out.below (BV.out.trans (hb.mono BV.out.size)))
  have LS : ∀ w', Below V.heap.size V w' → ∀ j v, (arr .u32 8 s.at)[j]? = some v → w'.cell? ((⟨gs, 0, none⟩ : Addr).add j) = some v := fun w' hb => (hVs.below hb hVs.lt).cells
  have LB : ∀ w', Below V.heap.size V w' → ∀ j v, (arr .u8 64 b)[j]? = some v → w'.cell? ((⟨gb, 0, none⟩ : Addr).add j) = some v := fun w' hb => (hVa.below hb hVa.lt).cells
  clear hat hx hVs hVa
  refine wp_region_held_drew (S := fun w' => Below V.heap.size V w') (by kernel_rfl) (below_drewN (Below.refl _ _) 1) (fun h0 => ?_)
  refine held_load 0 (some 12) rfl rfl (by kernel_rfl) (by kernel_rfl) (by kernel_rfl) (fun _ _ _ _ h => h) rfl _ _ rfl ⟨gs, 0, none⟩ rfl _ _ LS rfl rfl (hi8 _) h0 ?_
  simp only [Act.put, List.setIfInBounds_toArray, List.set_cons_zero, List.set_cons_succ]
  refine held_load 1 (some 13) rfl rfl (by kernel_rfl) (by kernel_rfl) (by kernel_rfl) (fun _ _ _ _ h => h) rfl _ _ rfl ⟨gb, 0, none⟩ rfl _ _ LB rfl rfl (hi64 _) h0 ?_
  simp only [Act.put, List.setIfInBounds_toArray, List.set_cons_zero, List.set_cons_succ]
  refine held_load 3 (some 15) rfl rfl (by kernel_rfl) (by kernel_rfl) (by kernel_rfl) (fun _ _ _ _ h => h) rfl _ _ rfl ⟨gs, 0, none⟩ rfl _ _ LS rfl rfl (hi8 _) h0 ?_
  simp only [Act.put, List.setIfInBounds_toArray, List.set_cons_zero, List.set_cons_succ]
  refine held_load 4 (some 16) rfl rfl (by kernel_rfl) (by kernel_rfl) (by kernel_rfl) (fun _ _ _ _ h => h) rfl _ _ rfl ⟨gb, 0, none⟩ rfl _ _ LB rfl rfl (hi64 _) h0 ?_
  simp only [Act.put, List.setIfInBounds_toArray, List.set_cons_zero, List.set_cons_succ]
  refine held_call 2 (some 14) (by kernel_rfl) rfl rfl rfl 18 #[.agg (arr .u32 8 s.at), .agg (arr .u8 64 b)] (by kernel_rfl) ?_
  refine (block_any s b Sha.tab _ HS.out HBL.out (HC2.out _ h0)).mono ?_
  rintro e w3 ⟨rfl, hb3⟩
  have h3 := below_then h0 hb3
  refine ⟨_, rfl, h3, ?_⟩
  simp only [Act.put, List.setIfInBounds_toArray, List.set_cons_zero, List.set_cons_succ]
  refine held_call 5 (some 17) (by kernel_rfl) rfl rfl rfl 20 #[] (by kernel_rfl) ?_
  refine (table_any _).mono ?_
  rintro e w4 ⟨rfl, hb4⟩
  have h4 := below_then h3 hb4
  refine ⟨_, rfl, h4, ?_⟩
  simp only [Act.put, List.setIfInBounds_toArray, List.set_cons_zero, List.set_cons_succ]
  refine held_call 6 (some 18) (by kernel_rfl) rfl rfl rfl 19 #[.agg (arr .u32 8 s.at), .agg (arr .u8 64 b), .agg (arr .u32 64 Sha.tab)] (by kernel_rfl) ?_
  refine (refblock_any s b Sha.tab _ HS.out HBL.out).mono ?_
  rintro e w5 ⟨rfl, hb5⟩
  have h5 := below_then h4 hb5
  refine ⟨_, rfl, h5, ?_⟩
  simp only [Act.put, List.setIfInBounds_toArray, List.set_cons_zero, List.set_cons_succ]
  refine held_value 7 (some 19) (by kernel_rfl) rfl rfl rfl (.bool true) ((exec_eql_arr (P := Tryd.prog) (k := .u32) (n := 8) (Sha.blk Sha.tab s b).at (Sha.blk Sha.tab s b).at rfl rfl rfl Tryd.underlying32 Tryd.underlying31 (by kernel_rfl) (by kernel_rfl)).trans (by rw [sameArr_refl])) h5 ?_
  refine held_value 8 (some 4) (by kernel_rfl) rfl rfl rfl (.bool true) (by kernel_rfl) h5 ?_
  refine wpAnyH_done (by kernel_rfl) ?_ _
  simp only [Act.put, List.setIfInBounds_toArray, List.set_cons_zero, List.set_cons_succ]
  go_wp2_with fail
  go_ret
  exact ⟨rfl, BV.out.trans (h5.mono BV.out.size)⟩

theorem shaBlocks_walk (x : Int) (wx : (Lit.int .u64 x).wf = true) (f : Nat → Int) (wf : ∀ j, j < 8 → (Lit.int .u32 (f j)).wf = true) (w : World) (hK : Consts w Sha.tab) :
    Calls Tryd.prog 4 #[.int .u64 x, .agg ((List.range 8).map fun i => Value.int .u32 (f i)).toArray] w (RetBool true w) := by
  have hx := bounds_u64 wx
  have nat : ∀ j, j < 8 → f j = ((f j).toNat : Int) ∧ (f j).toNat < 4294967296 := fun j hj => by
    have := bounds_u32 (wf j hj)
    omega
  have e : ((List.range 8).map fun i => Value.int .u32 (f i)).toArray = arr .u32 8 (⟨(f 0).toNat, (f 1).toNat, (f 2).toNat, (f 3).toNat, (f 4).toNat, (f 5).toNat, (f 6).toNat, (f 7).toNat⟩ : Sha.St).at := by
    refine arr_of_get _ _ _ _ rfl fun i hi => ?_
    rcases i with _ | _ | _ | _ | _ | _ | _ | _ | i
    · exact congrArg (fun z => some (Value.int .u32 z)) (nat 0 (by omega)).1
    · exact congrArg (fun z => some (Value.int .u32 z)) (nat 1 (by omega)).1
    · exact congrArg (fun z => some (Value.int .u32 z)) (nat 2 (by omega)).1
    · exact congrArg (fun z => some (Value.int .u32 z)) (nat 3 (by omega)).1
    · exact congrArg (fun z => some (Value.int .u32 z)) (nat 4 (by omega)).1
    · exact congrArg (fun z => some (Value.int .u32 z)) (nat 5 (by omega)).1
    · exact congrArg (fun z => some (Value.int .u32 z)) (nat 6 (by omega)).1
    · exact congrArg (fun z => some (Value.int .u32 z)) (nat 7 (by omega)).1
    · omega
  rw [e]
  exact shaBlocks_core x (by omega) _ ⟨(nat 0 (by omega)).2, (nat 1 (by omega)).2, (nat 2 (by omega)).2, (nat 3 (by omega)).2, (nat 4 (by omega)).2, (nat 5 (by omega)).2, (nat 6 (by omega)).2, (nat 7 (by omega)).2⟩ w hK

/-! ### THE ROW's STEP -/
namespace shaBlocksF
theorem own : ownKnob Tryd.prog.godebug = none := by kernel_rfl
theorem laidOut : laidOutB Tryd.prog = true := by kernel_rfl
theorem gT : Tryd.prog.globalNamed "toll/sha.constants" = some 0 := by kernel_rfl
theorem gTType : (Tryd.prog.globals[0]?).map (·.type) = some 37 := by kernel_rfl
theorem door_met (os : Os) (args : Array Value) : laidMetH Tryd.prog Rows.shaBlocksRow.laid ((World.doorLaid Tryd.prog 400 os).forCall (fun _ _ => 0) ⟨#[], args, []⟩).memory :=
  laidMetH_of_parts3 (fuel := 8) (laidMet_of_run' 8 (by kernel_rfl) (by kernel_rfl)) (by kernel_rfl) (by kernel_rfl)
theorem of_laid {W : World} (h : laidMetH Tryd.prog Rows.shaBlocksRow.laid W) : Consts W Sha.tab := fun i hi => by
  rw [MakeChecks.laidMetH_plain _ _ _ (by kernel_rfl)] at h
  have hT := Lib.tabIs_of_head (k := .u32) (zs := Sha.tableL.map fun n : Nat => (n : Int)) gT gTType Tryd.underlying37 Tryd.underlying31 (by kernel_rfl) (by kernel_rfl) h
  have hl : i < Sha.tableL.length := hi
  rw [hT.cell gT i (by simpa using hl)]
  simp [Sha.tab, List.getD, hl]
set_option maxRecDepth 100000 in
theorem lifted (os : Os) (started : os.Started) (H : Type) (enc : TypeId × Value → H) :
    ReturnsInHanded {} Tryd.checked os 4 .any (fun w args => (Rows.shaBlocksSpec.pre enc Tryd.prog Tryd.f4 [] false w args ∧ laidMetH Tryd.prog Rows.shaBlocksRow.laid w) ∧ sizedMet enc Tryd.prog Tryd.f4 (OpenSpec.ofChange Rows.shaBlocksSpec) false w args)
      (Rows.shaBlocksSpec.post enc Tryd.prog Tryd.f4 false true false false) := by
  refine returnsInHanded_of_change_and (C := Tryd.checked) (X := fun w _ => laidMetH Tryd.prog Rows.shaBlocksRow.laid w) (fun _ _ _ hh h => h.of_heap hh) own started (by kernel_rfl) Tryd.func4
    (ChangeSpec.witness_shaped (enc := enc) (C := Tryd.checked) (os := os) (X := fun w _ => laidMetH Tryd.prog Rows.shaBlocksRow.laid w) false (World.doorLaid Tryd.prog 400 os) #[.int .u64 0, .agg #[.int .u32 0, .int .u32 0, .int .u32 0, .int .u32 0, .int .u32 0, .int .u32 0, .int .u32 0, .int .u32 0]] 8 rfl (World.shaped_of_RefB (by kernel_rfl) (by kernel_rfl)) (by kernel_rfl) (by kernel_rfl) (by kernel_rfl) (door_met os _)) ?_
  intro W base args ds gs before hval0 hW _ _ hL _
  have hK := of_laid hL
  have hval : ∀ (j : Nat) t v, Tryd.f4.params[j]? = some t → args[j]? = some v → Value.okWide Tryd.prog W .any base t v := hval0
  have hW' := hW
  obtain ⟨p, q, hA0, hV, rfl, _, _⟩ := hW
  have hA : DataW.TrodAll enc Tryd.prog W 0 (fun _ => true) true Tryd.f4.params.toList args.toList ds p := hA0
  rw [Tryd.params4] at hA hval
  obtain ⟨v0, vs0, d0, ds0, p0, q0, hargs, rfl, rfl, h0, r0⟩ := trodAll_cons hA
  obtain ⟨v1, vs1, d1, ds1, p1, q1, rfl, rfl, rfl, h1, r1⟩ := trodAll_cons r0
  obtain ⟨rfl, rfl, rfl⟩ := trodAll_nil r1
  obtain rfl : args = #[v0, v1] := by cases args; simp_all
  obtain ⟨rfl, rfl⟩ := trodVars_none hV
  have k0 := h0
  have lt0 : ∀ x ∈ p0, x.block < W.heap.size := by obtain ⟨m, hm⟩ := k0; exact DataW.trod_lt m _ _ _ hm
  obtain ⟨a0, rfl, _, _, w0⟩ := open_int Tryd.underlying30 (hval 0 30 v0 rfl rfl) h0
  have k1 := h1
  have lt1 : ∀ x ∈ p1, x.block < W.heap.size := by obtain ⟨m, hm⟩ := k1; exact DataW.trod_lt m _ _ _ hm
  obtain ⟨a1, rfl, w1⟩ := open_int_array Tryd.underlying32 Tryd.underlying31 (by kernel_rfl) (by kernel_rfl) (hval 1 32 v1 rfl rfl) h1
  refine (shaBlocks_walk a0 w0 a1 w1 W hK).mono fun e W' ⟨he, bel⟩ => ?_
  subst he
  exact ⟨_, rfl, _, _, _, [], _, [], hW', trodAll_mk1 (shut_bool Tryd.underlying4 _), (trodAll_cons_mk (Below.trod laidOut (by kernel_rfl) (of_decide_eq_true (by kernel_rfl)) k0 bel lt0) (trodAll_cons_mk (Below.trod laidOut (by kernel_rfl) (of_decide_eq_true (by kernel_rfl)) k1 bel lt1) trodAll_mk0)), rfl, bel.frame _, fun h => by cases h⟩
theorem over : Rows.shaBlocksRow.holds Tryd.pinned (OpenSpec.ofChange Rows.shaBlocksSpec) :=
  OpenClaim.holds_of_wide 4 Tryd.f4 rfl rfl rfl rfl rfl rfl rfl ⟨rfl, rfl, rfl, rfl, rfl⟩ rfl rfl rfl rfl rfl (by kernel_rfl) Tryd.func4 (by kernel_rfl)
    (of_decide_eq_true (by kernel_rfl)) (by unfold Func.isWrapper; first | (rw [if_pos (by decide +kernel)]; kernel_rfl) | (rw [if_neg (by decide +kernel)]; exact ⟨rfl, rfl⟩))
    (fun os started H enc _ => lifted os started H enc)
end shaBlocksF
/-- The row. -/
theorem shaBlocks_row : Rows.ShaBlocksSaid := shaBlocksF.over
/-- The statement: the card. -/
theorem shaBlocks_holds : Rows.ShaBlocksCardSaid :=
  Claim7.holds_tied_plain_at .later [] [.data] true Rows.shaBlocksCard.stood.harness false
    shaBlocks_row (fun _ h => by cases h) (by kernel_rfl) (fun _ h => by cases h) shaBlocks_row_tie rfl ⟨rfl, rfl⟩ (by kernel_rfl) rfl
    (fun f fn hf hfn => by
      obtain rfl : f = 4 := Option.some.inj ((show Tryd.prog.funcNamed "toll/tolllaw04.ShaBlocks" = some 4 by kernel_rfl).symm.trans hf) |>.symm
      obtain rfl : fn = Tryd.f4 := (Option.some.inj (Tryd.func4.symm.trans hfn)).symm
      exact ⟨by kernel_rfl, fun j t ht => by
        rw [Tryd.params4] at ht
        have hm : t ∈ [30, 32] := by simpa using Array.mem_of_getElem? ht
        have hall : ([30, 32].all fun u => !Tryd.prog.wantsStandIn u) = true := by kernel_rfl
        exact (show Tryd.prog.wantsStandIn t = false by simpa using List.all_eq_true.1 hall t hm)⟩)
    (by kernel_rfl)
#print axioms shaBlocks_holds
end Go.Proofs.YtgalddnblciciaaDoor
