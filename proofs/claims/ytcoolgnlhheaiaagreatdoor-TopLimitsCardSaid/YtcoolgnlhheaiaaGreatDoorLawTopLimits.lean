/- At the greatest time, and with the greatest skew, nothing wraps: a right request has the answer of the checks: for every skew, kind and number of ticks the law returns true. The variable sha.constants reads as the program's text lays it. -/
import Derived.Test.YtcoolgnlhheaiaaGreatDoorG19
import Derived.Test.YtcoolgnlhheaiaaGreatDoorG50
namespace Go.Proofs.YtcoolgnlhheaiaaGreatDoor
open Go.ChangeShapes Go.WideShapes Go.ChangeAt Go.RowKit Go.Deep
set_option linter.all false
set_option maxRecDepth 100000
theorem nK (a:Int) (_wa:(Lit.int .i64 a).wf=true) (J:Kd) (_wJ:(Lit.int .i64 J.client).wf=true∧(Lit.int .i64 J.other).wf=true∧(Lit.int .i64 J.start).wf=true∧(Lit.int .i64 J.stop).wf=true∧(Lit.int .i64 J.time).wf=true) (hz:J.seq<4294967296) (_hp:J.spoil<65536) (c:Int) (wc:(Lit.int .u8 c).wf=true) (w:World) (hK:Consts w Sha.tab):
 Calls Tryz.prog 7 #[.int .i64 a,.agg (iI J),.int .u8 c] w (kY true w):=by
 have hc:=bounds_u8 wc
 cases hr:J.right with
 |false=>exact j3 a J c w hK (.inl hr)
 |true=>
  by_cases h1:a<1
  ·exact j3 a J c w hK (.inr (.inl ⟨hr,decide_eq_true h1⟩))
  ·by_cases h2:1073741824<a
   ·exact j3 a J c w hK (.inr (.inr ⟨hr,decide_eq_false h1,decide_eq_true h2⟩))
   ·exact aBC a J c w hK hr hz (by omega) (by omega) hc.1 (by omega)
namespace topLimitsF
theorem own:ownKnob Tryz.prog.godebug=none:=by kernel_rfl
theorem laidOut:laidOutB Tryz.prog=true:=by kernel_rfl
theorem gT:Tryz.prog.globalNamed "toll/sha.constants"=some 0:=by kernel_rfl
theorem gTType:(Tryz.prog.globals[0]?).map (·.type)=some 188:=by kernel_rfl
theorem door_met (os:Os) (args:Array Value):laidMetH Tryz.prog Rows.topLimitsRow.laid ((World.doorLaid Tryz.prog 400 os).forCall (fun _ _=>0) ⟨#[],args,[]⟩).memory:=
 laidMetH_of_parts3 (fuel:=8) (laidMet_of_run' 8 (by kernel_rfl) (by kernel_rfl)) (by kernel_rfl) (by kernel_rfl)
theorem of_laid {W:World} (h:laidMetH Tryz.prog Rows.topLimitsRow.laid W):Consts W Sha.tab:=fun i hi=>by
 rw[MakeChecks.laidMetH_plain _ _ _ (by kernel_rfl)] at h;have hT:=Lib.tabIs_of_head (k:=.u32) (zs:=Sha.tableL.map fun n:Nat=>(n:Int)) gT gTType Tryz.underlying188 Tryz.underlying44 (by kernel_rfl) (by kernel_rfl) h;have hl:i<Sha.tableL.length:=hi;rw[hT.cell gT i (by simpa using hl)];simp[Sha.tab,List.getD,hl]
theorem lifted (os:Os) (started:os.Started) (H:Type) (enc:TypeId×Value→H):
 ReturnsInHanded {} Tryz.checked os 7 .any (fun w args=>(Rows.topLimitsSpec.pre enc Tryz.prog Tryz.f7 [] false w args∧laidMetH Tryz.prog Rows.topLimitsRow.laid w)∧sizedMet enc Tryz.prog Tryz.f7 (OpenSpec.ofChange Rows.topLimitsSpec) false w args)
  (Rows.topLimitsSpec.post enc Tryz.prog Tryz.f7 false true false false):=by
 refine returnsInHanded_of_change_and (C:=Tryz.checked) (X:=fun w _=>laidMetH Tryz.prog Rows.topLimitsRow.laid w) (fun _ _ _ hh h=>h.of_heap hh) own started (by kernel_rfl) Tryz.func7
  (ChangeSpec.witness_shaped (enc:=enc) (C:=Tryz.checked) (os:=os) (X:=fun w _=>laidMetH Tryz.prog Rows.topLimitsRow.laid w) false (World.doorLaid Tryz.prog 400 os) #[.int .i64 0,.agg #[.int .i64 0,.int .i64 0,.int .i64 0,.int .i64 0,.int .i64 0,.int .u32 0,.bool false,.int .u16 0],.int .u8 0] 8 rfl (World.shaped_of_RefB (by kernel_rfl) (by kernel_rfl)) (by kernel_rfl) (by kernel_rfl) (by kernel_rfl) (door_met os _)) ?_
 intro W base args ds gs before hval0 hW _ _ hL _;have hK:=of_laid hL;have hval:∀(j:Nat) t v,Tryz.f7.params[j]? =some t→args[j]? =some v→Value.okWide Tryz.prog W .any base t v:=hval0;have hW':=hW;obtain⟨p,q,hA0,hV,rfl,_,_⟩:=hW;have hA:DataW.TrodAll enc Tryz.prog W 0 (fun _=>true) true Tryz.f7.params.toList args.toList ds p:=hA0;rw[Tryz.params7] at hA hval;obtain⟨v0,vs0,d0,ds0,p0,q0,hargs,rfl,rfl,h0,r0⟩:=trodAll_cons hA;obtain⟨v1,vs1,d1,ds1,p1,q1,rfl,rfl,rfl,h1,r1⟩:=trodAll_cons r0;obtain⟨v2,vs2,d2,ds2,p2,q2,rfl,rfl,rfl,h2,r2⟩:=trodAll_cons r1;obtain⟨rfl,rfl,rfl⟩:=trodAll_nil r2;obtain rfl:args=#[v0,v1,v2]:=by cases args;simp_all
 obtain⟨rfl,rfl⟩:=trodVars_none hV;have k0:=h0;have lt0:∀x∈p0,x.block<W.heap.size:=by obtain⟨m,hm⟩:=k0;exact DataW.trod_lt m _ _ _ hm
 obtain⟨a0,rfl,_,_,w0⟩:=open_int Tryz.underlying2 (hval 0 2 v0 rfl rfl) h0;have k1:=h1;have lt1:∀x∈p1,x.block<W.heap.size:=by obtain⟨m,hm⟩:=k1;exact DataW.trod_lt m _ _ _ hm
 obtain⟨J1,rfl,w1,s1,p1⟩:=aCN (hval 1 47 v1 rfl rfl) h1;have k2:=h2;have lt2:∀x∈p2,x.block<W.heap.size:=by obtain⟨m,hm⟩:=k2;exact DataW.trod_lt m _ _ _ hm
 obtain⟨a2,rfl,_,_,w2⟩:=open_int Tryz.underlying5 (hval 2 5 v2 rfl rfl) h2;refine(nK a0 w0 J1 w1 s1 p1 a2 w2 W hK).mono fun e W' ⟨he,bel⟩=>?_
 subst he;exact⟨_,rfl,_,_,_,[],_,[],hW',trodAll_mk1 (shut_bool Tryz.underlying4 _),(trodAll_cons_mk (Below.trod laidOut (by kernel_rfl) (of_decide_eq_true (by kernel_rfl)) k0 bel lt0) (trodAll_cons_mk (Below.trod laidOut (by kernel_rfl) (of_decide_eq_true (by kernel_rfl)) k1 bel lt1) (trodAll_cons_mk (Below.trod laidOut (by kernel_rfl) (of_decide_eq_true (by kernel_rfl)) k2 bel lt2) trodAll_mk0))),rfl,bel.frame _,fun h=>by cases h⟩
theorem over:Rows.topLimitsRow.holds Tryz.pinned (OpenSpec.ofChange Rows.topLimitsSpec):=
 OpenClaim.holds_of_wide 7 Tryz.f7 rfl rfl rfl rfl rfl rfl rfl ⟨rfl,rfl,rfl,rfl,rfl⟩ rfl rfl rfl rfl rfl (by kernel_rfl) Tryz.func7 wY
  (of_decide_eq_true (by kernel_rfl)) (by unfold Func.isWrapper;first|(rw[if_pos (by decide+kernel)];kernel_rfl)|(rw[if_neg (by decide+kernel)];exact⟨rfl,rfl⟩))
  (fun os started H enc _=>lifted os started H enc)
end topLimitsF
theorem pF:Rows.TopLimitsSaid:=topLimitsF.over
theorem mN:Rows.TopLimitsCardSaid:=
 Claim7.holds_tied_plain_at .later [] [.data] true Rows.topLimitsCard.stood.harness true
  pF (fun _ h=>by cases h) (by kernel_rfl) (fun _ h=>by cases h) topLimits_row_tie rfl ⟨rfl,rfl⟩ (by kernel_rfl) rfl
  (fun f fn hf hfn=>by
    obtain rfl:f=7:=Option.some.inj ((show Tryz.prog.funcNamed "toll/tolltop.TopLimits"=some 7 by kernel_rfl).symm.trans hf) |>.symm
    obtain rfl:fn=Tryz.f7:=(Option.some.inj (Tryz.func7.symm.trans hfn)).symm
    exact⟨by kernel_rfl,fun j t ht=>by
     rw[Tryz.params7] at ht;have hm:t∈[2,47,5]:=by simpa using Array.mem_of_getElem? ht
     have hall:([2,47,5].all fun u=> !Tryz.prog.wantsStandIn u)=true:=by kernel_rfl
     exact(show Tryz.prog.wantsStandIn t=false by simpa using List.all_eq_true.1 hall t hm)⟩)
  (by kernel_rfl)
#print axioms mN
end Go.Proofs.YtcoolgnlhheaiaaGreatDoor
