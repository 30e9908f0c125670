import Derived.Test.YtcoolgnlhheaiaaGreatDoorG24
import Derived.Test.YtcoolgnlhheaiaaGreatDoorG26
namespace Go.Proofs.YtcoolgnlhheaiaaGreatDoor
open Go.RowKit Go.Deep Go.Maps Go.ChangeMaps Go.MapKept Go.WideShapes
set_option linter.all false
set_option maxRecDepth 100000
set_option maxHeartbeats 2000000
theorem aDL (w:World):(zeroValue 4).run Tryz.prog w= .ok (.bool false) w:=by kernel_rfl
theorem aFA (w:World):(zeroValue 40).run Tryz.prog w= .ok (.slice none 0 0) w:=by kernel_rfl
theorem Stp.turned {F:Nat→Prop} {w w':World} {b:Nat} (h:w.mapTurned w' b) (hF:F b):Stp F F w w':=by
 obtain⟨es,c,es',c',_,rfl⟩:=h;exact⟨rfl,rfl,rfl,by simp[setBlock],fun i hi hf=>iT _ _ _ _ (fun e=>hf (e▸hF)),fun _ h=>.inl h⟩
theorem Stp.cell {F:Nat→Prop} (w:World) {b:Nat} (i:Nat) (u:Value) (hF:F b):Stp F F w (w.setCell ⟨b,i,none⟩ u):=
 ⟨rfl,rfl,rfl,by simp[World.setCell],fun j _ hf=>heap_setCell_other w _ j u (fun e=>hf (e▸hF)),fun _ h=>.inl h⟩
theorem Stp.drew (F:Nat→Prop) (w:World) (n:Nat):Stp F F w (w.drewN n):=⟨rfl,rfl,rfl,Nat.le_refl _,fun _ _ _=>rfl,fun _ h=>.inl h⟩
theorem qW:dB (fL [])=fun _=>none:=by
 funext kl;unfold dB fL;split
 ·simp[Dsk.lastOf_nil]
 ·rfl
theorem aE2 (f:Int→Option Value) (c:Int):xM (dB f) (.int .i64 c)=dB (fun k=>if k=c then none else f k):=by
 funext kl;unfold xM
 by_cases h:kl= .int .i64 c
 ·subst h;rw[if_pos rfl];show none=if c=c then none else f c;rw[if_pos rfl]
 ·rw[if_neg h]
  unfold dB;split
  ·rename_i k;show f k=if k=c then none else f k;rw[if_neg (by rintro rfl;exact h rfl)]
  ·rfl
theorem aEH (f:Int→Option Value) (c:Int) (v:Value):m9 (dB f) (.int .i64 c) v=dB (fun k=>if k=c then some v else f k):=by
 funext kl;unfold m9
 by_cases h:kl= .int .i64 c
 ·subst h;rw[if_pos rfl];show some v=if c=c then some v else f c;rw[if_pos rfl]
 ·rw[if_neg h]
  unfold dB;split
  ·rename_i k;show f k=if k=c then some v else f k;rw[if_neg (by rintro rfl;exact h rfl)]
  ·rfl
def iM (v:Value) (d:Nat) (b:Dsk.B) (D:Dsk.D) (w:World) (e:Ending) (w':World):Prop:=e= .returned v∧∃b',Dk w' d b' D∧Stp (b.F d) (b'.F d) w w'
theorem oB (d:Nat) (b:Dsk.B) (D:Dsk.D) (w:World) (h:Dk w d b D):Calls Tryz.prog 74 #[.pointer (some ⟨d,0,none⟩)] w (iM (.tuple #[]) d b (Dsk.cleared D) w):=by
 obtain⟨⟨c0,c1,c2,_⟩,⟨_,f1,_⟩⟩:=cW h.blk;have ap:=h.apart;have c2':(w.setCell ⟨d,1,none⟩ (.slice none 0 0)).cell? ⟨d,2,none⟩=some (.map (some b.bl)):=by rw[World.cell?_setCell_other _ _ _ _ (by simp)];exact c2
 have hm:MapIs (w.setCell ⟨d,1,none⟩ (.slice none 0 0)) 3 b.bl D.n (dB (fL D.opn)):=h.last.of_block (heap_setCell_other w _ _ _ (Ne.symm ap.2.2.1));have H:=aD h;have AP:=aD ap;clear h ap c2 c0;go_enter Tryz.func74,Tryz.ntmps74;go_wp2_with (refine aCM rfl _ rfl Tryz.underlying116 rfl hm ?_;intro w2 hm2 ht);go_end0;have h:=H.out;have ap:=AP.out;have hk:∀g,g≠d→g≠b.bl→w2.heap[g]? =w.heap[g]? :=fun g h1 h2=>(cC ht h2).trans (heap_setCell_other w _ g _ h1)
 have hz:w2.heap.size=w.heap.size:=by rw[iZ ht];simp[World.setCell]
 have hsub:∀i,Dsk.B.F { b with vo:=.slice none 0 0} d i→b.F d i:=fun i hi=>by
  rcases hi with h1|h1|h1|h1
  ·exact .inl h1
  ·exact .inr (.inl h1)
  ·cases h1
  ·exact .inr (.inr (.inr h1))
 refine⟨rfl,{ b with vo:=.slice none 0 0},⟨⟨h.ok.sec,by simp[Dsk.cleared],by simp[Dsk.cleared],h.ok.steps,h.ok.room⟩,?_,?_,RowOf.nil _ _ _ _,?_,?_,?_,h.ne,fun k=>?_⟩,?_⟩
 ·rw[cC ht ap.2.2.1];exact heap_setCell_same w d 1 _ _ _ h.blk
 ·exact h.sec.of_block fun g hg=>hk g (ap.1 g hg).1 (ap.1 g hg).2.1
 ·show MapIs w2 _ _ _ (dB (fL []))
  rw[qW];exact hm2.mono (Nat.zero_le _)
 ·exact h.fails.of_block (hk _ (Ne.symm ap.2.2.2.1) (Ne.symm h.ne.1))
 ·exact h.crashes.of_block (hk _ (Ne.symm ap.2.2.2.2) (Ne.symm h.ne.2.1))
 ·rcases h.cuts k with hx|⟨l,v,h1,h2,h3⟩
  ·exact .inl hx
  ·exact .inr ⟨l,v,h1,h2,(h3.keep (Nat.le_of_eq hz.symm) fun g _ hS=>hk g (fun e=>hS (.inl e)) (fun e=>hS (.inr (.inr (.inr (.inl e)))))).mono fun g _ hS hc=>hS (hsub g hc)⟩
 ·exact((Stp.cell w 1 _ (.inl rfl)).trans (Stp.turned ht (.inr (.inr (.inr (.inl rfl)))))).left fun i hi=>.inl (hsub i hi)
def aHU (d:Nat) (b:Dsk.B) (D:Dsk.D) (w:World) (e:Ending) (w':World):Prop:=
 ∃v,e= .returned (.tuple #[.int .i64 (Dsk.fate D:Nat),v])∧(Dsk.fate D=2→Iv w' v (Dsk.cuts D) (fun g=>¬b.F d g))∧∃cm,Dk w' d { b with cm:=cm} (Dsk.stepped D)∧Stp (b.F d) (b.F d) w w'
theorem qM (d:Nat) (b:Dsk.B) (D:Dsk.D) (w:World) (h:Dk w d b D) (hN:D.n<4611686018427387904):Calls Tryz.prog 193 #[.pointer (some ⟨d,0,none⟩)] w (aHU d b D w):=by
 obtain⟨⟨c0,c1,c2,c3,c4,c5,c6⟩,⟨_,_,_,_,f4,_⟩⟩:=cW h.blk;have ap:=h.apart;have hTb:D.steps<4611686018427387904:=Nat.lt_of_le_of_lt h.ok.steps hN;obtain⟨T,hT⟩:∃T,T=D.steps:=⟨_,rfl⟩;have hblk:=h.blk;rw[←hT] at hTb c4 hblk;have h1:=heap_setCell_same w d 4 _ _ (.int .i64 ((T:Int)+1)) hblk;obtain⟨⟨_,_,_,_,d4,d5,d6⟩,_⟩:=cW (show(w.setCell ⟨d,4,none⟩ (.int .i64 ((T:Int)+1))).heap[d]? =some (.cells #[_,_,_,_,_,_,_] _ _) from h1);have hmf:MapIs (w.setCell ⟨d,4,none⟩ (.int .i64 ((T:Int)+1))) 3 b.bf D.n (dB (i1 D.fails)):=h.fails.of_block (heap_setCell_other w _ _ _ (Ne.symm ap.2.2.2.1));have hmc:MapIs (w.setCell ⟨d,4,none⟩ (.int .i64 ((T:Int)+1))) 3 b.bc D.n (dB b.cm):=h.crashes.of_block (heap_setCell_other w _ _ _ (Ne.symm ap.2.2.2.2));have H:=aD h;have AP:=aD ap;have HT:=aD hT;clear h ap c0 c1 c2 c3 hblk hT hN;go_enter Tryz.func193,Tryz.ntmps193;go_upto_region 2 with fail;clear c4 c5 c6 f4;have hVk:∀g,g≠d→(w.setCell ⟨d,4,none⟩ (.int .i64 ((T:Int)+1))).heap[g]? =w.heap[g]? :=fun g hg=>heap_setCell_other w _ g _ hg
 have hVd:(w.setCell ⟨d,4,none⟩ (.int .i64 ((T:Int)+1))).heap[d]? =some (.cells #[b.vs,b.vo,.map (some b.bl),.bool D.down,.int .i64 ((T:Int)+1),.map (some b.bf),.map (some b.bc)] 120 (0,0)):=h1;have hVs:=Stp.cell (F:=b.F d) w 4 (.int .i64 ((T:Int)+1)) (.inl rfl);have HV0:Hid ((∀g,g≠d→(w.setCell ⟨d,4,none⟩ (.int .i64 ((T:Int)+1))).heap[g]? =w.heap[g]?)∧(w.setCell ⟨d,4,none⟩ (.int .i64 ((T:Int)+1))).heap[d]? =some (.cells #[b.vs,b.vo,.map (some b.bl),.bool D.down,.int .i64 ((T:Int)+1),.map (some b.bf),.map (some b.bc)] 120 (0,0))∧Stp (b.F d) (b.F d) w (w.setCell ⟨d,4,none⟩ (.int .i64 ((T:Int)+1)))):=aD ⟨hVk,hVd,hVs⟩;clear hVk hVd hVs h1;have hk:=yT (k:=(T:Int)+1) (by omega) (by omega);generalize w.setCell ⟨d,4,none⟩ (.int .i64 ((T:Int)+1))=V0 at*;go_still_tail 8,(by kernel_rfl);change wpList _ _ _ _ _ (V0.drewN 1);have hm1:MapIs (V0.drewN 1) 3 b.bf D.n (dB (i1 D.fails)):=hmf;have hm2:MapIs (V0.drewN 1) 3 b.bc D.n (dB b.cm):=hmc;have HV:Hid ((∀g,g≠d→(V0.drewN 1).heap[g]? =w.heap[g]?)∧(V0.drewN 1).heap[d]? =some (.cells #[b.vs,b.vo,.map (some b.bl),.bool D.down,.int .i64 ((T:Int)+1),.map (some b.bf),.map (some b.bc)] 120 (0,0))∧Stp (b.F d) (b.F d) w (V0.drewN 1)):=aD ⟨HV0.out.1,HV0.out.2.1,HV0.out.2.2.trans (Stp.drew _ _ 1)⟩;clear hmf hmc d4 d5 d6 HV0;generalize V0.drewN 1=V at*;obtain⟨⟨_,_,_,_,d4,d5,d6⟩,_⟩:=cW HV.out.2.1;have hfl:(dB (i1 D.fails) (.int .i64 ((T:Int)+1))).getD (.bool false)= .bool (D.fails ((T:Int)+1)):=by
  unfold dB i1;dsimp only
  cases D.fails ((T:Int)+1)<;>rfl
 generalize hfe:D.fails ((T:Int)+1)=fl at hfl;have HFE:=aD hfe;clear hfe;refine aEM rfl (.tmp 17) (.tmp 21) rfl yX Tryz.underlying117 (aDL _) rfl hm1 rfl hk ?_;rw[hfl];clear hfl;go_upto_region 3 with fail;have hm3:MapIs (V.drewN 1) 3 b.bf D.n (dB (i1 D.fails)):=hm1;have hm4:MapIs (V.drewN 1) 3 b.bc D.n (dB b.cm):=hm2;have HV2:Hid ((∀g,g≠d→(V.drewN 1).heap[g]? =w.heap[g]?)∧(V.drewN 1).heap[d]? =some (.cells #[b.vs,b.vo,.map (some b.bl),.bool D.down,.int .i64 ((T:Int)+1),.map (some b.bf),.map (some b.bc)] 120 (0,0))∧Stp (b.F d) (b.F d) w (V.drewN 1)):=aD ⟨HV.out.1,HV.out.2.1,HV.out.2.2.trans (Stp.drew _ _ 1)⟩;clear hm1 hm2 HV d4 d5 d6;obtain⟨V2,hV2⟩:∃V2,V.drewN 1=V2:=⟨_,rfl⟩;rw[hV2] at hm3 hm4 HV2;obtain⟨⟨_,_,_,_,d4,d5,d6⟩,_⟩:=cW HV2.out.2.1;obtain⟨vv,cr,hcl,hcr⟩:∃vv cr,(Value.tuple #[(dB b.cm (.int .i64 ((T:Int)+1))).getD (.slice none 0 0),.bool (dB b.cm (.int .i64 ((T:Int)+1))).isSome])= .tuple #[vv,.bool cr]∧((cr=false∧D.crashes ((T:Int)+1)=none)∨∃l,cr=true∧D.crashes ((T:Int)+1)=some l∧Iv w vv l (fun g=>¬b.F d g)):=by
  refine⟨_,_,rfl,?_⟩;show((b.cm ((T:Int)+1)).isSome=false∧_)∨∃l,(b.cm ((T:Int)+1)).isSome=true∧_∧Iv w ((b.cm ((T:Int)+1)).getD _) _ _;rcases H.out.cuts ((T:Int)+1) with ⟨h1,h2⟩|⟨l,v,h1,h2,h3⟩
  ·exact .inl ⟨by rw[h2];rfl,h1⟩
  ·exact .inr ⟨l,by rw[h2];rfl,h1,by rw[h2];exact h3⟩
 have HCR:=aD hcr;clear hcr;refine bO Tryz.f193 3 14 (fun w'=>w'=V2) (by kernel_rfl) (by kernel_rfl) (by kernel_rfl) hV2 (fun K hK _=>?_);refine aW (listed':=#[false,false,false,false,false,false,false,false,false,false,false,false,false,false]) (by kernel_rfl) rfl ?_;have HF:=aD hK;clear hK;rw[hV2];refine aX 0 24 (Value.pointer (some ⟨d,0,none⟩)) (fun _ _=>by kernel_rfl) rfl ?_;simp only[Act.put,aJ,aK,aI];refine aX 1 25 (Value.pointer (some ⟨d,0,none⟩)) (fun _ _=>by kernel_rfl) rfl ?_;simp only[Act.put,aJ,aK,aI];refine aX 2 26 (Value.pointer (some ⟨d,6,none⟩)) (fun _ _=>by kernel_rfl) rfl ?_;simp only[Act.put,aJ,aK,aI];refine bD 3 27 (by kernel_rfl) 118 (.tmp 26) (by kernel_rfl) ⟨d,6,none⟩ (by kernel_rfl) (.map (some b.bc)) _ (fun w' hw'=>by rw[hw'];exact d6) Tryz.underlying118 rfl rfl ?_;simp only[Act.put,aJ,aK,aI];refine aX 4 28 (Value.pointer (some ⟨d,0,none⟩)) (fun _ _=>by kernel_rfl) rfl ?_;simp only[Act.put,aJ,aK,aI];refine aX 5 29 (Value.pointer (some ⟨d,0,none⟩)) (fun _ _=>by kernel_rfl) rfl ?_;simp only[Act.put,aJ,aK,aI];refine aX 6 30 (Value.pointer (some ⟨d,4,none⟩)) (fun _ _=>by kernel_rfl) rfl ?_;simp only[Act.put,aJ,aK,aI];refine bD 7 31 (by kernel_rfl) 3 (.tmp 30) (by kernel_rfl) ⟨d,4,none⟩ (by kernel_rfl) (.int .i64 ((T:Int)+1)) _ (fun w' hw'=>by rw[hw'];exact d4) Tryz.underlying3 rfl rfl ?_;simp only[Act.put,aJ,aK,aI];refine aX 8 32 (.tuple #[vv,.bool cr]) (fun w' hw'=>?_) rfl ?_
 ·subst hw'
  have e:(opn (iJ Tryz.f193 3) 8).op= .lookup 118 (.tmp 27) (.tmp 31) true:=by kernel_rfl
  unfold execOp;rw[e];simp only[Act.eval,Array.getD_eq_getD_getElem?,List.getElem?_toArray,List.getElem?_cons_succ,List.getElem?_cons_zero,Option.getD_some];rw[Sem.run_bind,hm4.look_ok yX Tryz.underlying118 (aFA _) hk,hcl];rfl
 simp only[Act.put,aJ,aK,aI];refine aX 9 23 (Value.tuple #[vv,.bool cr]) (fun _ _=>by kernel_rfl) rfl ?_;simp only[Act.put,aJ,aK,aI];refine aX 10 33 (vv) (fun _ _=>by kernel_rfl) rfl ?_;simp only[Act.put,aJ,aK,aI];refine aX 11 34 (Value.bool cr) (fun _ _=>by kernel_rfl) rfl ?_;simp only[Act.put,aJ,aK,aI];refine aX 12 5 (vv) (fun _ _=>by kernel_rfl) rfl ?_;simp only[Act.put,aJ,aK,aI];refine aX 13 6 (Value.bool cr) (fun _ _=>by kernel_rfl) rfl ?_;simp only[Act.put,aJ,aK,aI];refine aZ (by kernel_rfl) (HF.out _ _ ?_);clear hcl HF hV2;go_upto_region 4 with fail;go_still_tail 8,(by kernel_rfl);change wpList _ _ _ _ _ (V2.drewN 1);have hm5:MapIs (V2.drewN 1) 3 b.bf D.n (dB (i1 D.fails)):=hm3;have hm6:MapIs (V2.drewN 1) 3 b.bc D.n (dB b.cm):=hm4;have HV3:Hid ((∀g,g≠d→(V2.drewN 1).heap[g]? =w.heap[g]?)∧(V2.drewN 1).heap[d]? =some (.cells #[b.vs,b.vo,.map (some b.bl),.bool D.down,.int .i64 ((T:Int)+1),.map (some b.bf),.map (some b.bc)] 120 (0,0))∧Stp (b.F d) (b.F d) w (V2.drewN 1)):=aD ⟨HV2.out.1,HV2.out.2.1,HV2.out.2.2.trans (Stp.drew _ _ 1)⟩;clear hm3 hm4 HV2 d4 d5 d6;generalize V2.drewN 1=V3 at*;refine uG rfl (.tmp 38) (.tmp 42) rfl yX Tryz.underlying117 rfl hm5 rfl hk ?_;intro V4 hm7 ht7;go_upto_region 5 with fail;have ap:=AP.out;have hne:=H.out.ne;have HV4:Hid ((∀g,g≠d→g≠b.bf→V4.heap[g]? =w.heap[g]?)∧V4.heap[d]? =some (.cells #[b.vs,b.vo,.map (some b.bl),.bool D.down,.int .i64 ((T:Int)+1),.map (some b.bf),.map (some b.bc)] 120 (0,0))∧Stp (b.F d) (b.F d) w V4):=
  aD ⟨fun g h1 h2=>(cC ht7 h2).trans (HV3.out.1 g h1),(cC ht7 ap.2.2.2.1).trans HV3.out.2.1,HV3.out.2.2.trans (Stp.turned ht7 (.inr (.inr (.inr (.inr (.inl rfl))))))⟩
 have hm8:MapIs V4 3 b.bc D.n (dB b.cm):=hm6.of_block (cC ht7 (Ne.symm hne.2.2));clear hm5 hm6 ht7 HV3;obtain⟨⟨_,_,_,_,d4,d5,d6⟩,_⟩:=cW HV4.out.2.1;go_still_tail 8,(by kernel_rfl);change wpList _ _ _ _ _ (V4.drewN 1);have hm9:MapIs (V4.drewN 1) 3 b.bc D.n (dB b.cm):=hm8;have hm10:MapIs (V4.drewN 1) 3 b.bf D.n (xM (dB (i1 D.fails)) (.int .i64 ((T:Int)+1))):=hm7;have HV5:Hid ((∀g,g≠d→g≠b.bf→(V4.drewN 1).heap[g]? =w.heap[g]?)∧(V4.drewN 1).heap[d]? =some (.cells #[b.vs,b.vo,.map (some b.bl),.bool D.down,.int .i64 ((T:Int)+1),.map (some b.bf),.map (some b.bc)] 120 (0,0))∧Stp (b.F d) (b.F d) w (V4.drewN 1)):=aD ⟨HV4.out.1,HV4.out.2.1,HV4.out.2.2.trans (Stp.drew _ _ 1)⟩;clear hm7 hm8 HV4 d4 d5 d6;generalize V4.drewN 1=V5 at*;refine uG rfl (.tmp 46) (.tmp 50) rfl yX Tryz.underlying118 rfl hm9 rfl hk ?_;intro V6 hm11 ht;go_upto_region 6 with fail;have hkk:∀g,g≠d→g≠b.bf→g≠b.bc→V6.heap[g]? =w.heap[g]? :=fun g h1 h2 h3=>(cC ht h3).trans (HV5.out.1 g h1 h2)
 have hz:w.heap.size≤V6.heap.size:=by rw[iZ ht];exact HV5.out.2.2.size
 have hwf:∀{g:Nat},¬b.F d g→V6.heap[g]? =w.heap[g]? :=fun{g} hS=>hkk g (fun e=>hS (.inl e)) (fun e=>hS (.inr (.inr (.inr (.inr (.inl e)))))) (fun e=>hS (.inr (.inr (.inr (.inr (.inr e))))))
 have hT1:((D.steps+1:Nat):Int)=(T:Int)+1:=by rw[←HT.out];omega
 have hdel:=fun f=>aE2 f ((T:Int)+1)
 have hDk:Dk V6 d { b with cm:=fun k=>if k=(T:Int)+1 then none else b.cm k} (Dsk.stepped D):=by
  have h:=H.out;refine⟨⟨h.ok.sec,h.ok.opn,Nat.le_succ_of_le h.ok.len,Nat.succ_le_succ h.ok.steps,h.ok.room⟩,?_,?_,?_,?_,?_,?_,hne,fun k=>?_⟩
  ·refine(cC ht ap.2.2.2.2).trans (HV5.out.2.1.trans ?_)
   show _=some (Obj.cells #[b.vs,b.vo,.map (some b.bl),.bool D.down,.int .i64 ((D.steps+1:Nat):Int),.map (some b.bf),.map (some b.bc)] _ _);rw[hT1]
  ·exact h.sec.of_block fun g hg=>hkk g (ap.1 g hg).1 (ap.1 g hg).2.2.1 (ap.1 g hg).2.2.2.1
  ·exact h.opn.of_block fun g hg=>hkk g (ap.2.1 g hg).1 (ap.2.1 g hg).2.2.1 (ap.2.1 g hg).2.2.2.1
  ·exact(h.last.of_block (hkk _ (Ne.symm ap.2.2.1) hne.1 hne.2.1)).mono (Nat.le_succ _)
  ·rw[hdel] at hm10
   have e:(fun k=>if k=(T:Int)+1 then none else i1 D.fails k)=i1 (Dsk.stepped D).fails:=by
    funext k;have e1:(Dsk.stepped D).fails k=if k=(T:Int)+1 then false else D.fails k:=by
     unfold Dsk.stepped;dsimp only;rw[hT1]
    simp only[i1,e1]
    by_cases hk:k=(T:Int)+1
    ·simp[hk]
    ·simp[hk]
   rw[e] at hm10;exact(hm10.of_block (cC ht hne.2.2)).mono (Nat.le_succ _)
  ·rw[hdel] at hm11
   exact hm11.mono (Nat.le_succ _)
  ·unfold Dsk.stepped
   dsimp only;rw[hT1]
   by_cases hk:k=(T:Int)+1
   ·rw[if_pos hk,if_pos hk];exact .inl ⟨rfl,rfl⟩
   ·rw[if_neg hk,if_neg hk]
    rcases h.cuts k with hx|⟨l,v,h1,h2,h3⟩
    ·exact .inl hx
    ·exact .inr ⟨l,v,h1,h2,h3.keep hz fun g _ hS=>hwf hS⟩
 have hSt:Stp (b.F d) (b.F d) w V6:=HV5.out.2.2.trans (Stp.turned ht (.inr (.inr (.inr (.inr (.inr rfl))))));have HE:=aD (aQ hDk hSt);have hfate:Dsk.fate D=if cr then 2 else if fl then 1 else 0:=by
  unfold Dsk.fate;rw[hT1,HFE.out];rcases HCR.out with ⟨h1,h2⟩|⟨l,h1,h2,_⟩<;>simp[h1,h2]
 have hcut:cr=true→Iv V6 vv (Dsk.cuts D) (fun g=>¬b.F d g):=fun hc=>by
  rcases HCR.out with ⟨h1,h2⟩|⟨l,h1,h2,h3⟩
  ·rw[h1] at hc;cases hc
  ·unfold Dsk.cuts
   rw[hT1,h2];exact h3.keep hz fun g _ hS=>hwf hS
 have HQ:=aD (aQ hfate hcut);clear hDk hSt hfate hcut HV5 hm9 hm10 hm11 ht hkk hz hwf hdel hne ap H AP HFE HCR hT1 hk
 cases cr
 ·cases fl
  ·go_wp2_with fail
   go_ret2;exact⟨_,by rw[HQ.out.1];rfl,fun h=>by rw[HQ.out.1] at h;simp at h,_,HE.out⟩
  ·go_wp2_with fail
   go_ret2;exact⟨_,by rw[HQ.out.1];rfl,fun h=>by rw[HQ.out.1] at h;simp at h,_,HE.out⟩
 ·go_wp2_with fail
  go_ret2;exact⟨_,by rw[HQ.out.1];rfl,fun h=>HQ.out.2 (by first|trivial|rfl),_,HE.out⟩
set_option linter.all false
set_option maxHeartbeats 4000000
theorem rK {e:TypeId} {k bytes:Nat} (hk:0<k) (h:(Tryz.prog.info? e).map (fun i=>(i.zero.map (·.cells.size),i.size,i.bytes))=some (some k,k,bytes)):j6 e k bytes:=by
 cases hi:Tryz.prog.info? e with
 |none=>rw[hi] at h;cases h
 |some i=>
  rw[hi] at h;simp only[Option.map_some,Option.some.injEq,Prod.mk.injEq] at h
  cases hz:i.zero with
  |none=>rw[hz] at h;cases h.1
  |some z=>
   rw[hz] at h;simp only[Option.map_some,Option.some.injEq] at h;exact⟨⟨i,z,hi,hz,h.2.1,h.2.2,h.1⟩,hk⟩
theorem aIZ:j6 275 65 72:=rK (by decide) (by kernel_rfl)
def iH (x:Nat) (s:List Nat):Array Value:=#[.int .i64 (x:Int)]++aH .u8 64 (aT s)
theorem yA (x:Nat) (s:List Nat):(sG (x,s)).toArray=iH x s:=by unfold sG iH;apply Array.ext';simp
theorem eP (x:Nat) (s:List Nat):(iH x s).size=65:=by unfold iH;rw[Array.size_append,aA];rfl
theorem aGL (x:Nat) (s:List Nat):Tryz.prog.built 275 [(0,.int .i64 (x:Int)),(1,.agg (aH .u8 64 (aT s)))]=some (iH x s):=by kernel_rfl
theorem aHB (o:Oper) (a:Act) (w:World) (i j:Operand) (x:Nat) (s:List Nat) (ho:o.op= .build 275 #[(0,i),(1,j)]) (hi:a.eval i= .int .i64 (x:Int)) (hj:a.eval j= .agg (aH .u8 64 (aT s))):
 (execOp a.eval o).run Tryz.prog w= .ok (.value (.agg (iH x s))) w:=by
 unfold execOp;simp only[ho];rw[show(#[(0,i),(1,j)]:Array (Nat×Operand)).map (fun(i,x)=>(i,a.eval x))=#[(0,.int .i64 (x:Int)),(1,.agg (aH .u8 64 (aT s)))] by simp[hi,hj]];rw[Sem.run_bind,run_build w 275 _ (iH x s) (aGL x s)];rfl
theorem tE (o:Oper) (a:Act) (w:World) (i:Operand) (x:Nat) (s:List Nat) (ho:o.op= .buildSlice 115 1 #[(0,i)]) (hi:a.eval i= .agg (iH x s)):
 (execOp a.eval o).run Tryz.prog w= .ok (.value (.slice (some ⟨w.heap.size,0,none⟩) 1 1)) (w.alloc (.cells (iH x s) 275)):=by
 unfold execOp;simp only[ho];rw[show(#[(0,i)]:Array (Nat×Operand)).map (fun(i,x)=>(i,a.eval x))=#[(0,.agg (iH x s))] by simp[hi]]
 kernel_rfl
theorem vK (d:Nat) (b:Dsk.B) (D:Dsk.D) (x:Nat) (s:List Nat) (w:World) (h:Dk w d b D) (hx:x<D.sec.length) (hs:Frm.okS s) (hN:D.n<100000000):Calls Tryz.prog 244 #[.pointer (some ⟨d,0,none⟩),.int .i64 (x:Int),sv s] w (iM (.bool true) d b (Dsk.added D x s) w):=by
 have hroom:=h.ok.room;have hlen:=h.ok.len;have bx:=aN w 191 .u8 64 (aT s);have gx:=aG (aE w none) (.cells (aH .u8 64 (aT s)) 191);have hd:=h.lt;have H:=aD h;have HD:=aD (h.below (aB gx));have GX:=aD gx;have hz:=aA .u8 64 (aT s);clear h gx;unfold sv;go_enter Tryz.func244,Tryz.ntmps244;go_upto_region 1 with fail;generalize w.alloc (.cells (aH .u8 64 (aT s)) 191)=W at*;have hh:=tU d b D (x:Int) W HD.out;rw[show decide (0≤(x:Int)∧(x:Int)<(D.sec.length:Nat))=true by simp;omega] at hh;go_upto_region 3 with (go_at_call 240;refine hh.mono ?_;rintro e w2 ⟨rfl,rfl⟩);clear hh;have h1:=HD.out;have ap:=h1.apart;obtain⟨⟨c0,c1,c2,c3,c4,c5,c6⟩,⟨_,f1,_⟩⟩:=cW h1.blk;obtain⟨vp,vcap,hv⟩:=h1.opn.form;rw[List.length_map] at hv;rw[hv] at c1;have hm:=h1.last;have AP:=aD ap;clear h1 ap c0 c3 c4 c5 c6;obtain⟨L,hL⟩:∃L,L=D.opn.length:=⟨_,rfl⟩;rw[←hL] at hlen c1 hv;have HL:=aD hL;have HVO:=aD hv;clear hL hv;have hk:=yT (k:=(x:Int)) (by omega) (by omega);go_still_tail 10,(by kernel_rfl);change wpList _ _ _ _ _ (W.drewN 1);have hm1:MapIs (W.drewN 1) 3 b.bl D.n (dB (fL D.opn)):=hm;have bx1:isArr (W.drewN 1) w.heap.size 191 .u8 64 (aT s):=bx;have HD1:Hid (Dk (W.drewN 1) d b D):=aD (HD.out.keep (Nat.le_refl _) (fun _ _=>rfl));have GX1:Hid (w.grownBy (W.drewN 1) none):=aD (aM GX.out 1);clear hm c1 c2 f1 bx HD GX;generalize W.drewN 1=W1 at*;refine qL rfl (.tmp 14) (.tmp 15) (.tmp 20) rfl yX Tryz.underlying116 (by unfold maxLen;omega) rfl hm1 (val:=.int .i64 (L:Int)) rfl rfl (by trivial) hk ?_;intro W2 hm2 ht;go_upto_region 4 with fail;have ap:=AP.out;have hbl:=H.out.last.lt;have hU:∀g,g≠b.bl→(W2.drewN 1).heap[g]? =W1.heap[g]? :=fun g hg=>cC ht hg
 have hUs0:=iZ ht;have hUs:(W2.drewN 1).heap.size=W1.heap.size:=hUs0;clear hUs0;have bxU:Hb (W2.drewN 1) w.heap.size (aH .u8 64 (aT s)) 191:=(hU _ (by omega)).trans bx1;have rowU:RowOf (W2.drewN 1) 0 275 65 b.vo (D.opn.map sG):=HD1.out.opn.of_block fun g hg=>hU g (ap.2.1 g hg).2.1
 have blkU:=(hU d ap.2.2.1).trans HD1.out.blk;have hmU:MapIs (W2.drewN 1) 3 b.bl (D.n+1) (m9 (dB (fL D.opn)) (.int .i64 (x:Int)) (.int .i64 (L:Int))):=hm2;have GU:Stp (b.F d) (b.F d) w (W2.drewN 1):=(Stp.of_only GX1.out _).trans ((Stp.turned (F:=b.F d) ht (.inr (.inr (.inr (.inl rfl))))).trans (Stp.drew _ W2 1));have HU:=aD (aQ hU (aQ hUs (aQ blkU (aQ hmU GU))));obtain⟨⟨_,c1,_⟩,_⟩:=cW blkU;rw[HVO.out] at c1 rowU;clear hU hUs blkU hmU GU hm2 bx1 GX1 ht hm1;refine bO Tryz.f244 4 13 (fun w'=>Hb w' w.heap.size (aH .u8 64 (aT s)) 191) (by kernel_rfl) (by kernel_rfl) (by kernel_rfl) bxU (fun K hK h0=>?_);refine aW (listed':=#[false,false,false,false,false,false,false,false,false,false,false,false,false]) (by kernel_rfl) rfl ?_;have HF:=aD hK;clear hK;generalize W2.drewN 1=U at*;simp only[Act.put,aJ,aK,aI];refine aX 0 21 (Value.pointer (some ⟨d,0,none⟩)) (fun _ _=>by kernel_rfl) h0 ?_;simp only[Act.put,aJ,aK,aI];refine aX 1 22 (Value.pointer (some ⟨d,0,none⟩)) (fun _ _=>by kernel_rfl) h0 ?_;simp only[Act.put,aJ,aK,aI];refine aX 2 23 (Value.pointer (some ⟨d,0,none⟩)) (fun _ _=>by kernel_rfl) h0 ?_;simp only[Act.put,aJ,aK,aI];refine aX 3 24 (Value.pointer (some ⟨d,1,none⟩)) (fun _ _=>by kernel_rfl) h0 ?_;simp only[Act.put,aJ,aK,aI];refine aX 5 26 (Value.int .i64 (x:Int)) (fun _ _=>by kernel_rfl) h0 ?_;simp only[Act.put,aJ,aK,aI];refine bG 6 27 (by kernel_rfl) 191 (.tmp 5) (by kernel_rfl) ⟨w.heap.size,0,none⟩ (by kernel_rfl) (aH .u8 64 (aT s)) _ (fun w' hw' j v hj=>by rw[Addr.add_lit,Nat.zero_add];exact hw'.cell hj) Tryz.underlying191 rfl (by rw[aA];rfl) h0 ?_;simp only[Act.put,aJ,aK,aI];refine aX 7 28 (Value.agg (iH x s)) (fun w' _=>aHB _ _ w' (.tmp 26) (.tmp 27) x s (by kernel_rfl) (by kernel_rfl) (by kernel_rfl)) h0 ?_;simp only[Act.put,aJ,aK,aI];refine fA (α:=Nat) 4 #[true,true,true,true,true,true,true,true,true,false,false,false,false] (fun a g=>(a.put (some 25) (.slice vp L vcap)).put (some 29) (.slice (some ⟨g,0,none⟩) 1 1)) (fun g w'=>Hb w' g (iH x s) 275∧U.grownBy w' none∧U.heap.size≤g) (fun g w' hc=>?_) (fun CUT=>?_)
 ·obtain⟨hgx,hgU,hgn⟩:=hc
  simp only[Act.put,aJ,aK,aI];have hd9:(opn (iJ Tryz.f244 4) 9).dst=some 30:=by kernel_rfl
  have hd12:(opn (iJ Tryz.f244 4) 12).dst=none:=by kernel_rfl
  have row1:RowOf w' 0 275 65 (.slice vp L vcap) (D.opn.map sG):=rowU.of_block fun g' hg'=>hgU.block g' (rowU.lt hg').2 (by simp)
  have hdU:d<U.heap.size:=(Array.getElem?_eq_some_iff.1 HU.out.2.2.1).1;have blk1:=(hgU.block d hdU (by simp)).trans HU.out.2.2.1;have bx1:Hb w' w.heap.size (aH .u8 64 (aT s)) 191:=h0.only hgU;refine aR 9 (by kernel_rfl) (by kernel_rfl) (HStep.of_law #[] (by kernel_rfl) fun K' hK'=>?_);refine gU (fs:=[sG (x,s)]) rfl (.tmp 25) (.tmp 29) (by kernel_rfl) (by kernel_rfl) row1 aIZ Tryz.underlying115 ⟨g,0,none⟩ 1 1 (by kernel_rfl) rfl (by simp[aHI]) (by simp;exact rO _) (fun j u hj=>?_) (by rw[List.length_map,←HL.out];simp;omega) (by decide) (Nat.zero_le _) ?_
  ·rw[Addr.add_mid,Nat.zero_add]
   refine hgx.cell ?_;rw[←yA,List.getElem?_toArray]
   simpa using hj
  intro v' w2 row2 hgr hmv;rw[hd9];have apV:=(AP.out.2.1);rw[HVO.out] at apV;have blk2:=(hgr.block d (Array.getElem?_eq_some_iff.1 blk1).1 (fun e=>(apV d e.symm).1 rfl)).trans blk1
  have bx2:Hb w2 w.heap.size (aH .u8 64 (aT s)) 191:=h0 |> fun _=>bx1.keep hgr (fun e=>by
   obtain⟨cs,hcs⟩:=row1.type e.symm;have:=bx1.symm.trans hcs;simp only[Option.some.injEq,Obj.cells.injEq] at this
   exact absurd this.2.1 (by decide))
  refine bH (hK' _ _ bx2 ?_);simp only[Act.put,aJ,aK,aI];refine aX 10 31 (Value.pointer (some ⟨d,0,none⟩)) (fun _ _=>by kernel_rfl) bx2 ?_;simp only[Act.put,aJ,aK,aI];refine aX 11 32 (Value.pointer (some ⟨d,1,none⟩)) (fun _ _=>by kernel_rfl) bx2 ?_;simp only[Act.put,aJ,aK,aI];obtain⟨⟨_,e1,_⟩,⟨_,f1,_⟩⟩:=cW blk2;obtain⟨vp',vc',hv'⟩:=row2.form;refine aR 12 (by kernel_rfl) (by kernel_rfl) (HStep.of_law #[] (by kernel_rfl) fun K' hK'=>?_);refine pP rfl 115 (.tmp 32) (.tmp 30) (by kernel_rfl) d 1 (by kernel_rfl) v' (by kernel_rfl) e1 f1 (by rw[hv'];rfl) (by kernel_rfl) ?_;rw[hd12];have bx3:Hb (w2.setCell ⟨d,1,none⟩ v') w.heap.size (aH .u8 64 (aT s)) 191:=bx2.far (by simp;omega) _;refine bH (hK' _ _ bx3 ?_);simp only[Act.put,aJ,aK,aI];refine aZ (by kernel_rfl) (HF.out _ _ ?_);go_wp2_with fail;go_ret;have hUk:=HU.out.1;have hUm:=HU.out.2.2.2.1;have hUG:=HU.out.2.2.2.2;have hUsz:=HU.out.2.1;have apD:=AP.out;have h:=H.out;have hkeep:∀i,i<w.heap.size→¬b.F d i→(w2.setCell ⟨d,1,none⟩ v').heap[i]? =w.heap[i]? :=fun i hi hf=>by
   have hne:b.vo.ownBlock≠some i:=fun e=>hf (.inr (.inr (.inl e)))
   rw[heap_setCell_other w2 _ i v' (fun e=>hf (.inl e)),hgr.block i (by have:=hUG.size;have:=hgU.size;omega) (by rw[←HVO.out];exact fun e=>hne e.symm),hgU.block i (by have:=hUG.size;omega) (by simp)];exact hUG.keep i hi hf
  have hbk:∀g',g'≠d→b.vo.ownBlock≠some g'→g'<U.heap.size→(w2.setCell ⟨d,1,none⟩ v').heap[g']? =U.heap[g']? :=fun g' h1 h2 h3=>by
   rw[heap_setCell_other w2 _ g' v' h1,hgr.block g' (by have:=hgU.size;omega) (by rw[←HVO.out];exact fun e=>h2 e.symm),hgU.block g' h3 (by simp)]
  have hzz:w.heap.size≤(w2.setCell ⟨d,1,none⟩ v').heap.size:=by have:=hUG.size;have:=hgU.size;have:=hgr.size;simp[World.setCell];omega
  have hD1:=HD1.out;have hmv2:∀i,v'.ownBlock=some i→b.vo.ownBlock=some i∨w.heap.size≤i:=fun i hi=>(hmv i hi).imp (fun e=>by rw[HVO.out];exact e) (fun e=>by have:=hUG.size;have:=hgU.size;omega)
  have hFs:∀i,Dsk.B.F { b with vo:=v'} d i→b.F d i∨w.heap.size≤i:=fun i hi=>by
   rcases hi with h1|h1|h1|h1
   ·exact .inl (.inl h1)
   ·exact .inl (.inr (.inl h1))
   ·exact(hmv2 i h1).imp (fun e=>.inr (.inr (.inl e))) id
   ·exact .inl (.inr (.inr (.inr h1)))
  have hblU:b.bl<U.heap.size:=by have:=hUG.size;have:=h.last.lt;omega
  have hbfU:b.bf<U.heap.size:=by have:=hUG.size;have:=h.fails.lt;omega
  have hbcU:b.bc<U.heap.size:=by have:=hUG.size;have:=h.crashes.lt;omega
  have hvo:∀g',b.vo.ownBlock≠some g'∨(g'≠d∧g'≠b.bl∧g'≠b.bf∧g'≠b.bc∧b.vs.ownBlock≠some g'):=fun g'=>by
   by_cases e:b.vo.ownBlock=some g'
   ·exact .inr (apD.2.1 g' e)
   ·exact .inl e
  refine⟨rfl,{ b with vo:=v'},⟨⟨h.ok.sec,?_,?_,Nat.le_succ_of_le h.ok.steps,h.ok.room⟩,?_,?_,?_,?_,?_,?_,h.ne,fun k=>?_⟩,?_⟩
  ·intro y hy
   rcases List.mem_append.1 hy with hy|hy
   ·exact h.ok.opn y hy
   ·rw[List.mem_singleton] at hy;subst hy;exact⟨hx,hs⟩
  ·simp only[Dsk.added,List.length_append,List.length_singleton];rw[←HL.out];omega
  ·exact heap_setCell_same w2 d 1 _ _ v' blk2
  ·refine hD1.sec.of_block fun g' hg'=>?_
   have a1:=apD.1 g' hg';rw[hbk g' a1.1 a1.2.2.2.2 (by rw[hUsz];exact(hD1.sec.lt hg').2)];exact hUk g' a1.2.1
  ·have:=row2.of_block (w':=w2.setCell ⟨d,1,none⟩ v') fun g' hg'=>heap_setCell_other w2 _ g' v' (by
    rintro rfl;obtain⟨cs,hcs⟩:=row2.type hg';have e:=blk2.symm.trans hcs;simp only[Option.some.injEq,Obj.cells.injEq] at e
    exact absurd e.2.1 (by decide))
   show RowOf _ _ _ _ v' ((D.opn++[(x,s)]).map sG);rw[List.map_append];exact this
  ·have e:m9 (dB (fL D.opn)) (.int .i64 (x:Int)) (.int .i64 (L:Int))=dB (fL (D.opn++[(x,s)])):=by
    rw[aEH];congr 1;funext k;unfold fL
    by_cases hk0:k<0
    ·rw[if_pos hk0,if_pos hk0,if_neg (by omega)]
    ·rw[if_neg hk0,if_neg hk0,Dsk.lastOf_snoc,←HL.out]
     by_cases hkx:k=(x:Int)
     ·rw[if_pos hkx,if_pos (by omega)];rfl
     ·rw[if_neg hkx,if_neg (by omega)]
   rw[e] at hUm;exact hUm.of_block (hbk _ (Ne.symm apD.2.2.1) ((hvo b.bl).elim id fun q=>absurd rfl q.2.1) hblU)
  ·exact((hD1.fails.of_block (hUk _ (Ne.symm h.ne.1))).of_block (hbk _ (Ne.symm apD.2.2.2.1) ((hvo b.bf).elim id fun q=>absurd rfl q.2.2.1) hbfU)).mono (Nat.le_succ _)
  ·exact((hD1.crashes.of_block (hUk _ (Ne.symm h.ne.2.1))).of_block (hbk _ (Ne.symm apD.2.2.2.2) ((hvo b.bc).elim id fun q=>absurd rfl q.2.2.2.1) hbcU)).mono (Nat.le_succ _)
  ·rcases h.cuts k with hx|⟨l,v,h1,h2,h3⟩
   ·exact .inl hx
   ·exact .inr ⟨l,v,h1,h2,((h3.mono (T:=fun g'=>¬b.F d g'∧¬Dsk.B.F { b with vo:=v'} d g') fun g' hg' hS=>⟨hS,fun hc=>(hFs g' hc).elim hS (by omega)⟩).keep hzz fun g' hg' hS=>hkeep g' hg' hS.1).mono fun g' _ hS=>hS.2⟩
  ·exact⟨by rw[show(w2.setCell ⟨d,1,none⟩ v').os=w2.os by rfl];exact hgr.os.trans (hgU.os.trans hUG.os),hgr.tape.trans (hgU.tape.trans hUG.tape),hgr.output.trans (hgU.output.trans hUG.output),hzz,hkeep,hFs⟩
 ·simp only[Act.put,aJ,aK,aI] at CUT
  have wr1:=Hb.new U (iH x s) 275;have gr1:=aG (aE U none) (.cells (iH x s) 275);have bxn:=h0.only gr1;refine cU 4 8 (by kernel_rfl) (by kernel_rfl) ?_ ?_
  ·refine HStep.value (some 25) (by kernel_rfl) (by kernel_rfl) (.slice vp L vcap) U ?_ h0 ?_
   ·have e:(opn (iJ Tryz.f244 4) 4).op= .load 115 (.tmp 24):=by kernel_rfl
    unfold execOp;rw[e];simp only[Act.eval,Array.getD_eq_getD_getElem?,List.getElem?_toArray,List.getElem?_cons_succ,List.getElem?_cons_zero,Option.getD_some];rw[Sem.run_bind,fB Tryz.underlying115 rfl c1];rfl
   simp only[Act.put,aJ,aK,aI];refine aR 8 (by kernel_rfl) (by kernel_rfl) (HStep.value (some 29) (by kernel_rfl) (by kernel_rfl) _ _ (tE _ _ U (.tmp 28) x s (by kernel_rfl) (by kernel_rfl)) bxn ?_);simp only[Act.put,aJ,aK,aI];exact CUT U.heap.size _ ⟨wr1,gr1,Nat.le_refl _⟩
  ·refine HStep.value (some 29) (by kernel_rfl) (by kernel_rfl) _ _ (tE _ _ U (.tmp 28) x s (by kernel_rfl) (by kernel_rfl)) bxn ?_
   simp only[Act.put,aJ,aK,aI];have c1':(U.alloc (.cells (iH x s) 275)).cell? ⟨d,1,none⟩=some (.slice vp L vcap):=gr1.cell c1 (by simp);refine aR 4 (by kernel_rfl) (by kernel_rfl) (HStep.value (some 25) (by kernel_rfl) (by kernel_rfl) (.slice vp L vcap) _ ?_ bxn ?_)
   ·have e:(opn (iJ Tryz.f244 4) 4).op= .load 115 (.tmp 24):=by kernel_rfl
    unfold execOp;rw[e];simp only[Act.eval,Array.getD_eq_getD_getElem?,List.getElem?_toArray,List.getElem?_cons_succ,List.getElem?_cons_zero,Option.getD_some];rw[Sem.run_bind,fB Tryz.underlying115 rfl c1'];rfl
   simp only[Act.put,aJ,aK,aI];exact CUT U.heap.size _ ⟨wr1,gr1,Nat.le_refl _⟩
set_option linter.all false
theorem aGU:j6 191 64 64:=rK (by decide) (by kernel_rfl)
theorem RowOf.built (w:World) (e:TypeId) (k:Nat):RowOf (w.alloc (.cells #[] e)) w.heap.size e k (.slice (some ⟨w.heap.size,0,none⟩) 0 0) []:=⟨by simp,by simp,World.ownsRow_made w #[] 0 (Nat.le_refl _) (Nat.zero_le _) (by simp)⟩
theorem zE (v:Value) (es:List (List Value)) (w:World) (h:RowOf w 0 191 64 v es) (hb:es.length≤1000000):
 Calls Tryz.prog 156 #[v] w fun e w'=>∃v',e= .returned v'∧RowOf w' w.heap.size 191 64 v' es∧Below w.heap.size w w':=by
 have H:=aD h;rcases h.own.2 with ⟨rfl,h0⟩|⟨g,cap,cur,rfl,_,_⟩
 ·have he:es=[]:=List.eq_nil_of_length_eq_zero h0
  have hn:=fun wx=>Lib.run_eql_slice_nil (P:=Tryz.prog) wx _ _ none 0 0 0 0 Tryz.underlying83
  clear h;go_enter Tryz.func156,Tryz.ntmps156;go_wp2;go_ret;exact⟨_,rfl,by rw[he];exact RowOf.nil _ _ _ _,Below.refl _ _⟩
 ·have hn:=fun wx=>Lib.run_eql_slice_nil (P:=Tryz.prog) wx _ _ (some ⟨g,0,none⟩) es.length cap 0 0 Tryz.underlying83
  have hcells:=h.own.cells (g:=g) rfl;have hgl:=(h.lt (g:=g) rfl).2;clear h;have gr:=aG (aE w none) (.cells #[] 191);go_enter Tryz.func156,Tryz.ntmps156;go_wp2_with (at_builtin;go_must (refine gU (es:=[]) (fs:=es) rfl _ _ rfl rfl (RowOf.built w 191 64) aGU Tryz.underlying83 ⟨g,0,none⟩ _ _ rfl rfl H.out.len H.out.one (fun j u hj=>gr.cell (hcells j u hj) (by simp)) (by simp;omega) (by decide) (by simp) ?_;intro v1 w1 hown hgr hmv));go_ret;refine⟨_,rfl,by simpa using hown,aB (aO gr hgr (by simp[Value.ownBlock]))⟩
end Go.Proofs.YtcoolgnlhheaiaaGreatDoor
