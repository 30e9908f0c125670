import Derived.Test.YtcoolgnlhheaiaaGreatDoorG43
namespace Go.Proofs.YtcoolgnlhheaiaaGreatDoor
open Go.RowKit Go.Deep Go.Maps Go.ChangeMaps Go.MapKept Go.WideShapes
set_option linter.all false
set_option maxRecDepth 100000
set_option maxHeartbeats 2000000
theorem Ca.opn_fit {D:Dsk.D} (h0:Dsk.ok D) {skew now:Int} {C:Ca.C} (h:(Ca.opn D skew now).2= .inr C):Lg.fit (Ca.opn D skew now).1 C.log∧C.log.broken=false:=by
 unfold Ca.opn at h ⊢;simp only at h ⊢;split at h
 ·cases h
 ·rename_i x hx
  cases h
  have:=Lg.opn_fit h0 hx;exact⟨this.1,this.2.2.2⟩
theorem Ca.opn_code {D:Dsk.D} {skew now:Int} {k:Nat} (h:(Ca.opn D skew now).2= .inl k):k≠0:=by
 unfold Ca.opn at h;simp only at h;split at h
 ·rename_i c hc
  cases h
  exact Lg.opn_code hc
 ·cases h
def rI (v d:Nat) (key:Nat→Nat) (b:Dsk.B) (q:Vf.Q) (r:Dsk.D×Vf.V×Nat) (w:World) (e:Ending) (w':World):Prop:=
 e= .returned (iF r.2.2)∧∃b' q',Vx w' v d key b' q' 4096 r.1 r.2.1∧Stp (VF v d b q) (VF v d b' q') w w'
theorem wL (v d:Nat) (key:Nat→Nat) (b:Dsk.B) (q:Vf.Q) (N:Nat) (D:Dsk.D) (V:Vf.V) (w:World) (h:Vx w v d key b q N D V) (h2:2≤D.sec.length) (hN:D.n<900000) (hs:bS V.skew) (hn:bS V.now):
 Calls Tryz.prog 19 #[.pointer (some ⟨v,0,none⟩)] w (rI v d key b q (Vf.boot D V) w):=by
 obtain⟨⟨_,_,_,c19⟩,f⟩:=h.cells;have f19:=f 19;have H:=aD h;obtain⟨cv,hcv⟩:∃cv,cv=Vf.Q.ptr q:=⟨_,rfl⟩;rw[←hcv] at c19;clear h f hcv;obtain⟨R,hR⟩:∃R,R=Vf.boot D V:=⟨_,rfl⟩;rw[←hR];have HR:=aD hR;clear hR;go_enter Tryz.func19,Tryz.ntmps19;go_upto_region 4 with fail;have g1:=bA (aE w (some v)) 19 (.pointer none);have hb1:Hb (w.setCell ⟨v,19,none⟩ (.pointer none)) v ((jX key d q V).setIfInBounds 19 (Vf.Q.ptr none)) 112:=H.out.blk.set 19 (.pointer none);rw[lC key d q none V none] at hb1;have vx1:=H.out.forget g1 rfl hb1;have S1:=aD (Stp.vx_own (b:=b) (d:=d) (q:=q) g1 none (.inl rfl));clear g1 hb1 c19 f19;generalize w.setCell ⟨v,19,none⟩ (.pointer none)=W1 at*;have c17:=vx1.cells.1.2.1;have hst:=zK d b D W1 vx1.dk;have HV1:=aD vx1;clear vx1;go_upto_region 5 with (go_at_call 50;refine hst.mono ?_;clear hst;rintro e w2 ⟨rfl,dk2,g2⟩);have hdv:d≠v:=fun e=>by
  have h1:=HV1.out.dk.blk;have h2:W1.heap[v]? =_:=HV1.out.blk;rw[e,h2] at h1;exact absurd (Obj.cells.inj (Option.some.inj h1)).2.1 (by decide)
 have hb2:=HV1.out.blk.keep g2 (fun e=>hdv (Option.some.inj e).symm);have S2:=aD (S1.out.trans (Stp.of_grown (F:=VF v d b none) g2 fun x hx=>by cases hx;exact .inl (.inr (.inl (.inl rfl)))));have c17:=hb2.cell (kN ..);have c16:=hb2.cell (gG ..);have c18:=hb2.cell (hH ..);have f19:=hb2.frozen 19;have c19:=hb2.cell (jE ..);simp only at c16 c18;have hop:=aBV d b { D with down:=false} V.skew V.now (w2.drewN 1) (dk2.below (aU (Below.refl _ _) 1)) h2 hN hs hn;obtain⟨O,hO⟩:∃O,O=Ca.opn { D with down:=false} V.skew V.now:=⟨_,rfl⟩;rw[←hO] at hop;have HF:=aD (fun C (hC:O.2= .inr C)=>show Lg.fit O.1 C.log by rw[hO] at hC ⊢;exact(Ca.opn_fit dk2.ok hC).1);have HC:=aD (fun k (hk:O.2= .inl k)=>show k≠0 by rw[hO] at hk;exact Ca.opn_code hk);have hal:∀i,b.F d i→i≠v:=fun i hi e=>(dk2.alien hb2 (by decide) (by decide) (by decide) (by decide)).1 (by rw[e] at hi;exact hi)
 have hvl:v<w2.heap.size:=hb2.lt;have hkp:∀(b':Dsk.B) (W:World),Stp (b.F d) (b'.F d) (w2.drewN 1) W→Hb W v (jX key d none { V with cache:=none}) 112:=fun b' W st=>Stp.hb st hb2 (fun hf=>hal v hf rfl)
 have HK:=aD (aQ hb2 (aQ hkp hvl));have HO:=aD hO;obtain⟨sk,hsk⟩:∃sk,sk=V.skew:=⟨_,rfl⟩;obtain⟨nw,hnw⟩:∃nw,nw=V.now:=⟨_,rfl⟩;rw[←hsk] at c16 hop;rw[←hnw] at c18 hop;have HQ:=aD (aQ hsk hnw);clear hb2 hkp hvl hO hsk hnw hal dk2 f19 c19;unfold xO at hop;obtain⟨OD,OR⟩:=O
 cases OR with
 |inl k=>
  have hk:=eV k (HC.out k rfl);simp only[hk] at hop;have HKK:=aD hk;clear hk
  go_region_held3 (fun w'=>w'.cell? ⟨v,17,none⟩=some (.pointer (some ⟨d,0,none⟩))∧w'.cell? ⟨v,16,none⟩=some (.int .i64 sk)∧w'.cell? ⟨v,18,none⟩=some (.int .i64 nw)) (first|go_keep|exact⟨c17,c16,c18⟩|exact⟨d17,d16,d18⟩) (first
   |(go_at_call 51;refine hop.mono ?_;rintro e w3 ⟨b3,dk3,st3,rfl⟩
     have hb3:=HK.out.2.1 _ _ st3;have d17:=hb3.cell (kN ..);have d16:=hb3.cell (gG ..);have d18:=hb3.cell (hH ..);simp only at d16 d18;rw[←HQ.out.1] at d16;rw[←HQ.out.2] at d18;have H3:=aD (aQ dk3 (aQ st3 hb3))
     clear dk3 st3 hb3))
  clear d17 d16 d18 c17 c16 c18 hop;go_wp2_with fail;go_ret;obtain⟨dk3,st3,hb3⟩:=H3.out;have hRR:R=(OD,{ V with cache:=none},k):=by rw[HR.out];unfold Vf.boot;rw[←HO.out]
  rw[hRR];refine⟨by rw[HKK.out];rfl,b3,none,⟨dk3,hb3,.inl ⟨rfl,rfl⟩⟩,?_⟩;refine(S2.out.trans (Stp.drew _ w2 1)).trans ?_
  exact⟨st3.os,st3.tape,st3.output,st3.size,fun i hi hF=>st3.keep i hi fun hf=>hF (.inr (.inl hf)),fun i hi=>by
   rcases hi with rfl|hi|hi
   ·exact .inl (.inl rfl)
   ·exact(st3.sub i hi).imp (fun h=>.inr (.inl h)) id
   ·exact .inl (.inr (.inr hi))⟩
 |inr C=>
  go_region_held3 (fun w'=>w'.cell? ⟨v,17,none⟩=some (.pointer (some ⟨d,0,none⟩))∧w'.cell? ⟨v,16,none⟩=some (.int .i64 sk)∧w'.cell? ⟨v,18,none⟩=some (.int .i64 nw)) (first|go_keep|exact⟨c17,c16,c18⟩|exact⟨d17,d16,d18⟩) (first
   |(go_at_call 51;refine hop.mono ?_;rintro e w3 ⟨b3,dk3,st3,c,p,rfl,cx3,hnew,hpn⟩
     have hb3:=HK.out.2.1 _ _ st3;have d17:=hb3.cell (kN ..);have d16:=hb3.cell (gG ..);have d18:=hb3.cell (hH ..);simp only at d16 d18;rw[←HQ.out.1] at d16;rw[←HQ.out.2] at d18;have H3:=aD (aQ dk3 (aQ st3 (aQ cx3 (aQ hnew (aQ hpn hb3)))))
     clear dk3 st3 cx3 hnew hpn hb3))
  have f19:=H3.out.2.2.2.2.2.frozen 19;have c19:w3.cell? ⟨v,19,none⟩=some (.pointer none):=H3.out.2.2.2.2.2.cell (jE ..);clear d17 d16 d18 c17 c16 c18 hop;go_wp2_with fail;go_ret;obtain⟨dk3,st3,cx3,hnew,hpn,hb3⟩:=H3.out;have hRR:R=(OD,{ V with cache:=some C},0):=by rw[HR.out];unfold Vf.boot;rw[←HO.out]
  rw[hRR];have g4:=bA (aE w3 (some v)) 19 (.pointer (some ⟨c,0,none⟩));have hb4:Hb (w3.setCell ⟨v,19,none⟩ (.pointer (some ⟨c,0,none⟩))) v ((jX key d none { V with cache:=none}).setIfInBounds 19 (Vf.Q.ptr (some (c,p)))) 112:=hb3.set 19 (.pointer (some ⟨c,0,none⟩));rw[lC key d none (some (c,p)) { V with cache:=none} (some C)] at hb4;have hav:=cx3.alien hb3 (by decide) (by decide) (by decide);have cx4:Cx (w3.setCell ⟨v,19,none⟩ (.pointer (some ⟨c,0,none⟩))) c d b3 p C:=cx3.keep fun i hi=>g4.block i (cx3.lt i hi) fun e=>hav (by rw[Option.some.inj e] at hi;exact hi)
  refine⟨rfl,b3,some (c,p),⟨dk3.grown hb3 (by decide) (by decide) (by decide) (by decide) g4,hb4,.inr ⟨c,p,C,rfl,rfl,cx4,HF.out C rfl,hpn⟩⟩,?_⟩;refine((S2.out.trans (Stp.drew _ w2 1)).trans (F'':=VF v d b3 (some (c,p))) ?_).trans (Stp.of_grown g4 fun x hx=>by cases hx;exact .inl (.inl rfl))
  exact⟨st3.os,st3.tape,st3.output,st3.size,fun i hi hF=>st3.keep i hi fun hf=>hF (.inr (.inl hf)),fun i hi=>by
   rcases hi with rfl|hi|⟨x,hx,hi⟩
   ·exact .inl (.inl rfl)
   ·exact(st3.sub i hi).imp (fun h=>.inr (.inl h)) id
   ·cases hx;exact .inr (hnew i hi)⟩
end Go.Proofs.YtcoolgnlhheaiaaGreatDoor
