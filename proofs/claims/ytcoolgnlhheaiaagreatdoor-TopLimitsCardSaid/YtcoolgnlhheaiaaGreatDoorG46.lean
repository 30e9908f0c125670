import Derived.Scope
import Derived.Test.YtcoolgnlhheaiaaGreatDoorG45
namespace Go.Proofs.YtcoolgnlhheaiaaGreatDoor
open Go.RowKit Go.Deep Go.Maps Go.ChangeMaps Go.MapKept Go.WideShapes
set_option linter.all false
set_option maxRecDepth 100000
set_option maxHeartbeats 4000000
theorem Vx.other {w w':World} {v d i:Nat} {key:Nat→Nat} {b:Dsk.B} {q:Vf.Q} {N:Nat} {D:Dsk.D} {V:Vf.V} (h:Vx w v d key b q N D V) (g:w.grownBy w' (some i)) (hF:¬VF v d b q i) (hI:¬IntB w i):Vx w' v d key b q N D V:=
 ⟨h.dk.other fun j hj hb=>g.block j hj fun e=>by
   cases e
   exact hb.elim (fun hb=>hF (.inr (.inl hb))) hI,
   h.blk.keep g (fun e=>hF (.inl (Option.some.inj e).symm)),
   h.cache.imp id fun⟨c,p,C,h1,h2,h3,h4⟩=>⟨c,p,C,h1,h2,h3.keep fun j hj=>g.block j (h3.lt j hj) fun e=>by
    cases e
    exact hF (.inr (.inr ⟨_,h1,hj⟩)),h4⟩⟩
theorem Vx.at' {w w':World} {v d t:Nat} {key:Nat→Nat} {b:Dsk.B} {q:Vf.Q} {N:Nat} {D:Dsk.D} {V:Vf.V} {cs:Array Value} (h:Vx w v d key b q N D V) (hb:Hb w t cs 123) (g:w.grownBy w' (some t)):Vx w' v d key b q N D V:=
 h.other g (h.alien hb (by decide) (by decide) (by decide) (by decide) (by decide) (by decide) (by decide) (by decide)) (h.dk.alien hb (by decide) (by decide) (by decide) (by decide)).2
theorem Consts.stp {w w':World} {K:Nat→Nat} {F F':Nat→Prop} (h:Consts w K) (st:Stp F F' w w') (hF:¬F 0):Consts w' K:=fun i hi=>by
 have h1:=h i hi;have hlt:(0:Nat)<w.heap.size:=by
  rcases Nat.lt_or_ge 0 w.heap.size with h2|h2
  ·exact h2
  ·have h3:w.heap[(0:Nat)]? =none:=Array.getElem?_eq_none h2
   simp[World.cell?,h3] at h1
 rw[World.cell?_of_block (w:=w) (a:=⟨0,i,none⟩) (st.keep _ hlt hF)];exact h1
theorem Vf.look_some {D:Dsk.D} {V:Vf.V} {C:Ca.C} (h:(Vf.look D V).cache=some C) (q:Vf.Q):Vf.look D V=V∧bQ D q=q:=by
 unfold Vf.look at h ⊢;unfold bQ
 cases hd:D.down with
 |true=>rw[hd] at h;simp at h
 |false=>simp
theorem Vf.pol_eq {A:TA} {ss tt:List ByteArray} {o:Tic.T×Aut.A×Int} (ht:tic A.q ss A.s A.x A.k=o.1) (ha:aut A.r tt A.t A.m A.z=o.2.1) (V:Vf.V):Pol.check (decide (A.q=A.r∧ss=tt)) A.s A.x A.t V.now V.skew=Vf.pol o V:=by
 unfold Vf.pol;have e:decide (A.q=A.r∧ss=tt)=Vf.sameC o:=by
  unfold Vf.sameC;refine decide_eq_decide.2 ?_;rw[←ht,←ha,←aJF];show nm A.q ss=nm A.r tt↔(nm A.q ss).realm=(nm A.r tt).realm∧(nm A.q ss).parts=(nm A.r tt).parts;constructor
  ·intro h;rw[h];exact⟨rfl,rfl⟩
  ·rintro⟨h1,h2⟩
   cases hx:nm A.q ss
   cases hy:nm A.r tt
   rw[hx,hy] at h1 h2
   cases h1;cases h2;rfl
 rw[e,←ht,←ha];rfl
theorem j1 (v d:Nat) (key:Nat→Nat) (b:Dsk.B) (q:Vf.Q) (N:Nat) (D:Dsk.D) (V:Vf.V) (bv:Value) (l:List Nat) (w:World) (h:Vx w v d key b q N D V) (hk:Aes.B8 key) (hl:Rs w bv l) (hll:l.length≤1000000) (hK:Consts w Sha.tab) (hKF:¬VF v d b q 0)
 (nn:bS V.now) (nk:bS V.skew) (hN:N<800000) (hDn:D.n<700000) (hcp:∀C,V.cache=some C→Lg.room C.log≤C.log.count→jH D C V.now)
 (hfit:∀C,V.cache=some C→Lg.fit D C.log→Lg.fit (Vf.ins D C (Req.opn key l).2.1 V.skew V.now).1 (Vf.ins D C (Req.opn key l).2.1 V.skew V.now).2.1.log):
 Calls Tryz.prog 17 #[.pointer (some ⟨v,0,none⟩),bv] w (p7 1 (.int .i64 (Vf.verify (Req.opn key l) D V).2.2) v d key b q N (Vf.verify (Req.opn key l) D V).1 (Vf.verify (Req.opn key l) D V).2.1 w):=by
 have hmf:∀(fn:Fn) (first cap:Array Value) (w:World),(Instr.makeFunc fn first cap).run Tryz.prog w= .ok (.func fn first cap) w:=fun _ _ _ _=>rfl
 obtain⟨ba,bc,rfl⟩:=hl.form;have hsz:=sZ v (.slice ba l.length bc) TA.zero;have HH:=aD (aQ h (aQ hk (aQ hl (aQ hll (aQ hK hKF)))));have HP:=aD (aQ nn (aQ nk (aQ hN (aQ hDn (aQ hcp hfit)))));obtain⟨R,hR⟩:∃R,R=Vf.verify (Req.opn key l) D V:=⟨_,rfl⟩;rw[←hR];have HR:=aD hR;obtain⟨bn,hbn⟩:∃bn,bn=l.length:=⟨_,rfl⟩;rw[←hbn] at hsz;rw[←hbn];have HBN:=aD hbn;clear h hk hl hll hK hKF nn nk hN hDn hcp hfit hR hbn;go_enter Tryz.func17,Tryz.ntmps17;go_wp2_with fail;refine wp_scope_straight ?_;go_upto_region 5 with (refine cZ rfl _ (aHZ _ _ _ _ _ v ba bn bc rfl rfl rfl) ?_);have hb:=Hb.new w (lQ v (.slice ba bn bc) TA.zero) 123;have gr:=aG (aE w none) (.cells (lQ v (.slice ba bn bc) TA.zero) 123);generalize w.alloc (.cells (lQ v (.slice ba bn bc) TA.zero) 123)=W at*;obtain⟨t,ht⟩:∃t,t=w.heap.size:=⟨_,rfl⟩;rw[←ht] at hb;simp only[←ht];have H1:=aD (aQ hb (aQ gr ht));clear hb gr ht;refine wp_label ?_;simp only[Exit.then];go_wp2_with fail;obtain⟨hb,gr,ht⟩:=H1.out;have hF:=Hb.new W #[.func (.func 45) #[.pointer (some ⟨t,0,none⟩)] #[],.func (.func 46) #[.pointer (some ⟨t,0,none⟩)] #[],.func (.func 47) #[.pointer (some ⟨t,0,none⟩)] #[],.func (.func 48) #[.pointer (some ⟨t,0,none⟩)] #[]] 124;have gF:=aG (aE W none) (.cells #[.func (.func 45) #[.pointer (some ⟨t,0,none⟩)] #[],.func (.func 46) #[.pointer (some ⟨t,0,none⟩)] #[],.func (.func 47) #[.pointer (some ⟨t,0,none⟩)] #[],.func (.func 48) #[.pointer (some ⟨t,0,none⟩)] #[]] 124);generalize W.alloc (.cells #[.func (.func 45) #[.pointer (some ⟨t,0,none⟩)] #[],.func (.func 46) #[.pointer (some ⟨t,0,none⟩)] #[],.func (.func 47) #[.pointer (some ⟨t,0,none⟩)] #[],.func (.func 48) #[.pointer (some ⟨t,0,none⟩)] #[]] 124)=W2 at*;obtain⟨g4,hg4⟩:∃g,g=W.heap.size:=⟨_,rfl⟩;rw[←hg4] at hF;simp only[←hg4];have hb2:=hb.only gF;have g2:=aF gr gF;have hx2:=HH.out.1.only g2;have hop:=aCT t v d key q V (.slice ba bn bc) l TA.zero W2 hb2 hx2.blk HH.out.2.1 (by rw[HBN.out];exact HH.out.2.2.1.below (aB g2)) HH.out.2.2.2.1 (HH.out.2.2.2.2.1.below (aB g2));have HX2:=aD hx2;have HB2:=aD hb2;have HF2:=aD hF;have HG2:=aD (aQ g2 (aQ ht (aQ (aF gr (aE W none)).size hg4)));have k0:=hF.cell (i:=0) rfl;clear hb gr ht gF hg4 hb2 g2 hx2 hF;obtain⟨o,ho⟩:∃o,o=Req.opn key l:=⟨_,rfl⟩;rw[←ho] at hop;have HO:=aD ho;clear ho;unfold aIG at hop
 by_cases hc:o.2.2=0
 ·have hcb:(o.2.2 !=0)=false:=by simpa using hc
  have hnear:=aD (Req.opn_near (key:=key) (l:=l) (by rw[←HO.out];exact hc));refine wp_loop_rounds 5 ?_;rw[rounds_succ]
  go_wp2_with (first
   |(go_at_call 45;refine hop.mono ?_;clear hop;rintro e w3 ⟨rfl,A,ss,tt,hb3,ou,ov,hq,hr,hm,hz,htt,haa,g3⟩))
  have hx3:=HX2.out.at' HB2.out g3;have htW:t<W.heap.size:=H1.out.1.lt;have hF3:=HF2.out.keep g3 (fun e=>by have h4:=HG2.out.2.2.2;have:=Option.some.inj e;omega);have k1:=hF3.cell (i:=1) rfl;have hnr:=hnear.out;rw[←HO.out] at hnr;have hs1:o.1.start=A.s:=by rw[←htt];rfl
  have hs2:o.1.stop=A.x:=by rw[←htt];rfl
  have hs3:o.2.1.time=A.t:=by rw[←haa];rfl
  rw[hs1,hs2,hs3] at hnr;have hck:=yM t v d key q V (.slice ba bn bc) A ss tt w3 hb3 hx3.blk ou.ss ov.ss hnr.1 hnr.2.1 hnr.2.2 HP.out.1 HP.out.2.1;rw[Vf.pol_eq htt haa V] at hck;have H3:=aD (aQ hb3 (aQ hx3 (aQ hF3 (aQ ou (aQ ov g3)))));have HA3:=aD (aQ hr (aQ hm (aQ hz (aQ haa hnr.2.2))));have HC0:=aD hc;clear hb3 hx3 hF3 ou ov g3 hq hr hm hz htt haa hnr hs1 hs2 hs3 k0 hc hcb htW;obtain⟨pc,hpc⟩:∃pc,pc=Vf.pol o V:=⟨_,rfl⟩;rw[←hpc] at hck;have HPC:=aD hpc;clear hpc;rw[rounds_succ]
  by_cases hp0:pc=0
  ·subst hp0
   go_wp2_with (go_at_call 46;refine hck.mono ?_;clear hck;rintro e w4 ⟨rfl,g4'⟩);obtain⟨hb3,hx3,hF3,ou,ov,g3⟩:=H3.out;have hb4:=hb3.only g4';have hx4:=hx3.only g4';have hF4:=hF3.only g4';have k2:=hF4.cell (i:=2) rfl;have hwt:=aAY t v d key b q N D V (.slice ba bn bc) A w4 hb4 hx4;have hne:t≠v:=fun e=>by
    have h1:w4.heap[t]? =_:=hb4;have h2:w4.heap[v]? =_:=hx4.blk;rw[e,h2] at h1;exact absurd (Obj.cells.inj (Option.some.inj h1)).2.1 (by decide)
   have hne4:g4≠v:=fun e=>by
    have h1:w4.heap[g4]? =_:=hF4;have h2:w4.heap[v]? =_:=hx4.blk;rw[e,h2] at h1;exact absurd (Obj.cells.inj (Option.some.inj h1)).2.1 (by decide)
   have H4:=aD (aQ hb4 (aQ hx4 (aQ hF4 (aQ (ou.below (aB g4')) (aQ (ov.below (aB g4')) (aQ g4' (aQ hne hne4)))))));clear hb3 hx3 hF3 ou ov g3 hb4 hx4 hF4 g4' hne hne4 k1;unfold lO at hwt;obtain⟨wc,hwc⟩:∃wc,wc=Vf.waitc D V:=⟨_,rfl⟩;rw[←hwc] at hwt;have HWC:=aD hwc;clear hwc;rw[rounds_succ]
   by_cases hw0:wc=0
   ·subst hw0
    go_wp2_with (go_at_call 47;refine hwt.mono ?_;clear hwt;rintro e w5 ⟨rfl,vx5,g5⟩);obtain⟨C,hC⟩:∃C,(Vf.look D V).cache=some C:=by
     have h1:=HWC.out;unfold Vf.waitc at h1
     cases hx:(Vf.look D V).cache with
     |none=>rw[hx] at h1;cases h1
     |some C=>exact⟨C,rfl⟩
    obtain⟨hlV,hlQ⟩:=Vf.look_some hC q;rw[hlV] at hC vx5;rw[hlQ] at vx5;obtain⟨c,p,C',hq',hV',cx5,hf5,hpn5⟩:=vx5.cache.resolve_left (fun h=>by rw[hC] at h;cases h.2);obtain rfl:C=C':=Option.some.inj (hC.symm.trans hV');subst hq';obtain⟨hb4,hx4,hF4,ou,ov,g4',hne,hne4⟩:=H4.out;have hb5:=hb4.keep g5 (fun e=>hne (Option.some.inj e));have hF5:=hF4.keep g5 (fun e=>hne4 (Option.some.inj e));have k3:=hF5.cell (i:=3) rfl;have hvl:v<w.heap.size:=HH.out.1.blk.lt;have hz2:w.heap.size≤W2.heap.size:=HG2.out.1.size;have ov5:=ov.only g5 (.inr fun e=>by have:=(ov.lt v e).1;omega);have e3:Stp (VF v d b (some (c,p))) (VF v d b (some (c,p))) w w3:=((Stp.of_only HG2.out.1 (VF v d b (some (c,p)))).new H3.out.2.2.2.2.2 (fun g e=>by cases e;rw[HG2.out.2.1];exact Nat.le_refl _));have e5:=(e3.trans (Stp.of_only g4' (VF v d b (some (c,p))))).trans (Stp.vx_own g5 (some (c,p)) (.inr rfl));have K5:=HH.out.2.2.2.2.1.stp e5 HH.out.2.2.2.2.2;have hins:=tL t v d c key b p N D V C (.slice ba bn bc) A tt w5 hb5 vx5 hC ov5.ss ov5.one HA3.out.1 HA3.out.2.1 HA3.out.2.2.1 HA3.out.2.2.2.2 HP.out.2.1 K5 HP.out.2.2.1 HP.out.2.2.2.1 (HP.out.2.2.2.2.1 C hC) (by rw[HA3.out.2.2.2.1,HO.out];exact HP.out.2.2.2.2.2 C hC hf5);rw[HA3.out.2.2.2.1] at hins;obtain⟨I,hI⟩:∃I,I=Vf.ins D C o.2.1 V.skew V.now:=⟨_,rfl⟩;rw[←hI] at hins;have hRR:R=(I.1,Vf.look I.1 { V with cache:=some I.2.1},(I.2.2:Int)):=by
     rw[HR.out,←HO.out];unfold Vf.verify;rw[if_neg (by rw[HC0.out];simp),if_neg (by rw[←HPC.out];simp),if_neg (by rw[←HWC.out];simp),hlV,hC];rw[hI];rfl
    have H5:=aD (aQ e5 hRR);clear vx5 g5 hb4 hx4 hF4 ou ov g4' hne hne4 hb5 hF5 hvl hz2 ov5 e3 e5 K5 hI hRR hlV hlQ hC hV' cx5 hf5 hpn5 k2;obtain⟨ic,hic⟩:∃ic,ic=I.2.2:=⟨_,rfl⟩;rw[←hic] at hins;have HIC:=aD hic;clear hic;unfold p7 at hins;rw[rounds_succ];have hfin:∀(w7:World) (e7:Ending),(∃b6 q6 w6,Vx w6 v d key b6 q6 (N+1) I.1 { V with cache:=some I.2.1}∧Stp (VF v d b (some (c,p))) (VF v d b6 q6) w5 w6∧Vx w7 v d key b6 (bQ I.1 q6) (N+1) I.1 (Vf.look I.1 { V with cache:=some I.2.1})∧w6.grownBy w7 (some v))→∃b' q',Vx w7 v d key b' q' (N+1) R.1 R.2.1∧Stp (VF v d b (some (c,p))) (VF v d b' q') w w7:=by
     rintro w7 e7 ⟨b6,q6,w6,vx6,st6,vx7,g7⟩;rw[H5.out.2];exact⟨b6,bQ I.1 q6,vx7,(H5.out.1.trans st6).trans (Stp.vx_own g7 _ (by unfold bQ;split;exact .inl rfl;exact .inr rfl))⟩
    have HFN:=aD hfin;clear hfin
    by_cases hi0:ic=0
    ·subst hi0
     go_wp2_with (go_at_call 48;refine hins.mono ?_;clear hins;rintro e6 w6 ⟨rfl,b6,q6,vx6,st6⟩);rw[rounds_succ];go_upto_region 11 with fail;have hlk6:=eM v d key b6 q6 (N+1) I.1 { V with cache:=some I.2.1} w6 vx6;unfold eK at hlk6;have H6:=aD (aQ vx6 st6);clear vx6 st6 k3;go_wp2_with (go_at_call 43;refine hlk6.mono ?_;clear hlk6;rintro e7 w7 ⟨rfl,vx7,g7⟩);go_ret;exact⟨by rw[H5.out.2,←HIC.out];rfl,HFN.out _ (.returned undef) ⟨b6,q6,w6,H6.out.1,H6.out.2,vx7,g7⟩⟩
    ·have hib:((ic:Int)!=0)=true:=by simp;omega
     clear hi0;go_upto_region 11 with (go_at_call 48;refine hins.mono ?_;clear hins;rintro e6 w6 ⟨rfl,b6,q6,vx6,st6⟩);have hlk6:=eM v d key b6 q6 (N+1) I.1 { V with cache:=some I.2.1} w6 vx6;unfold eK at hlk6;have H6:=aD (aQ vx6 st6);clear vx6 st6 k3;go_wp2_with (go_at_call 43;refine hlk6.mono ?_;clear hlk6;rintro e7 w7 ⟨rfl,vx7,g7⟩);go_ret;exact⟨by rw[H5.out.2,←HIC.out];rfl,HFN.out _ (.returned undef) ⟨b6,q6,w6,H6.out.1,H6.out.2,vx7,g7⟩⟩
   ·have hwb:((wc:Int)!=0)=true:=by simp;omega
    have HW0:=aD hw0;clear hw0;go_upto_region 11 with (go_at_call 47;refine hwt.mono ?_;clear hwt;rintro e w5 ⟨rfl,vx5,g5⟩);have hlk5:=eM v d key b (bQ D q) N D (Vf.look D V) w5 vx5;unfold eK at hlk5;rw[Vf.look_look,tM] at hlk5;have H5:=aD g5;clear vx5 g5 k2;go_wp2_with (go_at_call 43;refine hlk5.mono ?_;clear hlk5;rintro e6 w6 ⟨rfl,vx6,g6⟩);go_ret;have hRR:R=(D,Vf.look D V,(wc:Int)):=by
     rw[HR.out,←HO.out];unfold Vf.verify;rw[if_neg (by rw[HC0.out];simp),if_neg (by rw[←HPC.out];simp),←HWC.out,if_pos HW0.out]
    rw[hRR];refine⟨rfl,b,bQ D q,vx6.mono (Nat.le_succ _),?_⟩;have e3:Stp (VF v d b q) (VF v d b q) w w3:=((Stp.of_only HG2.out.1 (VF v d b q)).new H3.out.2.2.2.2.2 (fun g e=>by cases e;rw[HG2.out.2.1];exact Nat.le_refl _));have e4:=e3.trans (Stp.of_only H4.out.2.2.2.2.2.1 (VF v d b q));exact e4.trans (Stp.vx_own (aF H5.out g6) _ (by unfold bQ;split;exact .inl rfl;exact .inr rfl))
  ·have hpb:((pc:Int)!=0)=true:=by simp;omega
   have HP0:=aD hp0;clear hp0;go_upto_region 11 with (go_at_call 46;refine hck.mono ?_;clear hck;rintro e w4 ⟨rfl,g4'⟩);have hx4:=H3.out.2.1.only g4';have hlk4:=eM v d key b q N D V w4 hx4;unfold eK at hlk4;have H4:=aD g4';clear hx4 g4' k1;go_wp2_with (go_at_call 43;refine hlk4.mono ?_;clear hlk4;rintro e5 w5 ⟨rfl,vx5,g5⟩);go_ret;have hRR:R=(D,Vf.look D V,(pc:Int)):=by
    rw[HR.out,←HO.out];unfold Vf.verify;rw[if_neg (by rw[HC0.out];simp),←HPC.out,if_pos HP0.out]
   rw[hRR];refine⟨rfl,b,bQ D q,vx5.mono (Nat.le_succ _),?_⟩;have e3:Stp (VF v d b q) (VF v d b q) w w3:=((Stp.of_only HG2.out.1 (VF v d b q)).new H3.out.2.2.2.2.2 (fun g e=>by cases e;rw[HG2.out.2.1];exact Nat.le_refl _));have e4:=e3.trans (Stp.of_only H4.out (VF v d b q));exact e4.trans (Stp.vx_own g5 _ (by unfold bQ;split;exact .inl rfl;exact .inr rfl))
 ·have hcb:(o.2.2 !=0)=true:=by simpa using hc
  have hlk:=fun W' hv=>eM v d key b q N D V W' hv
  unfold eK at hlk;have HCC:=aD hc;clear hc;refine wp_loop_rounds 1 ?_;rw[rounds_succ]
  go_upto_region 11 with (first
   |(go_at_call 45;refine hop.mono ?_;clear hop;rintro e w3 ⟨rfl,A,ss,tt,hb3,ou,ov,hq,hr,hm,hz,htt,haa,g3⟩))
  have hx3:=HX2.out.at' HB2.out g3;have hlk3:=hlk w3 hx3;have H3:=aD g3;clear hb3 ou ov hq hr hm hz htt haa g3 hlk hx3 k0;go_wp2_with (go_at_call 43;refine hlk3.mono ?_;clear hlk3;rintro e4 w4 ⟨rfl,vx4,g4'⟩);go_ret;have hRR:R=(D,Vf.look D V,o.2.2):=by rw[HR.out,←HO.out];unfold Vf.verify;rw[if_pos HCC.out]
  rw[hRR];refine⟨rfl,b,bQ D q,vx4.mono (Nat.le_succ _),?_⟩;have e1:Stp (VF v d b q) (VF v d b q) w w3:=((Stp.of_only HG2.out.1 (VF v d b q)).new H3.out (fun g e=>by cases e;rw[HG2.out.2.1];exact Nat.le_refl _));exact e1.trans (Stp.vx_own g4' _ (by unfold bQ;split;exact .inl rfl;exact .inr rfl))
end Go.Proofs.YtcoolgnlhheaiaaGreatDoor
