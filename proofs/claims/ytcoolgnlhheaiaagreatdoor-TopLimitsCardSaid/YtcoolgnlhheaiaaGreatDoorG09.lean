import Derived.Test.YtcoolgnlhheaiaaGreatDoorG08
namespace Go.Proofs.YtcoolgnlhheaiaaGreatDoor
open Go.RowKit Go.Deep
set_option linter.all false
set_option maxRecDepth 100000
set_option maxHeartbeats 16000000
namespace Aes
def tc (key:Nat→Nat) (i r:Nat):Nat:=if i % 4=0 then c0 (ks key (i / 4 - 1)) (pwr (i / 4 - 1)) r else flat key ((i - 1)*4+r)
theorem flat_step (key:Nat→Nat) (i r:Nat) (h:4≤i) (hr:r<4):flat key ((i - 4)*4+r) ^^^ tc key i r=flat key (i*4+r):=by
 obtain⟨m,hm⟩:∃m,i / 4=m+1:=⟨i / 4 - 1,by omega⟩;unfold tc flat;rw[show(i*4+r) / 16=m+1 by omega,show((i - 4)*4+r) / 16=m by omega,show(i*4+r) % 16=4*(i % 4)+r by omega,show((i - 4)*4+r) % 16=4*(i % 4)+r by omega]
 by_cases h4:i % 4=0
 ·rw[if_pos h4,h4,hm,show m+1 - 1=m by omega,show 4*0+r=r by omega]
  show _=kc (ks key m) (pwr m) r;rw[kc_low _ _ _ hr,Nat.xor_comm]
 ·rw[if_neg h4,show((i - 1)*4+r) / 16=m+1 by omega,show((i - 1)*4+r) % 16=4*(i % 4)+r - 4 by omega]
  show _ ^^^ kc (ks key m) (pwr m) (4*(i % 4)+r - 4)=kc (ks key m) (pwr m) (4*(i % 4)+r);rw[kc_high _ _ (4*(i % 4)+r) (by omega) (by omega),Nat.xor_comm]
theorem tc_lt {key:Nat→Nat} (h:B8 key) (i r:Nat):tc key i r<256:=by
 unfold tc;split
 ·exact c0_lt (ks_b8 h _) (pwr_lt _) _
 ·exact flat_b8 h _
theorem flat_low (key:Nat→Nat) (i r:Nat) (h:i<4) (hr:r<4):flat key (i*4+r)=key (4*i+r):=by
 unfold flat;rw[show(i*4+r) / 16=0 by omega,show(i*4+r) % 16=4*i+r by omega];rfl
end Aes
def LK (key:Nat→Nat) (m:Nat) (w wr:World):Prop:=
 Below w.heap.size w wr∧isArr wr w.heap.size 22 .u8 16 key∧isArr wr (w.heap.size+1) 356 .u8 256 Fld.sb∧isArr wr (w.heap.size+2) 413 .u8 176 (fun _=>0)∧isArr wr (w.heap.size+3) 429 .u8 176 (Aes.some_ key m)
theorem LK.below {key:Nat→Nat} {m:Nat} {w wr w':World} (h:LK key m w wr) (e:Below wr.heap.size wr w'):LK key m w w':=
 ⟨h.1.trans (e.mono h.1.size),h.2.1.below e h.2.1.lt,h.2.2.1.below e h.2.2.1.lt,h.2.2.2.1.below e h.2.2.2.1.lt,h.2.2.2.2.below e h.2.2.2.2.lt⟩
theorem LK.other {key:Nat→Nat} {m:Nat} {w wr:World} (h:LK key m w wr) {g:Nat} (hg:w.heap.size+3<g) (i:Nat) (v:Value):LK key m w (wr.setCell ⟨g,i,none⟩ v):=
 ⟨bM h.1 (by omega) _ _,h.2.1.setOther (by omega) _ _,h.2.2.1.setOther (by omega) _ _,h.2.2.2.1.setOther (by omega) _ _,h.2.2.2.2.setOther (by omega) _ _⟩
theorem LK.set {key:Nat→Nat} {m:Nat} {w wr:World} (h:LK key m w wr) (v:Nat) (hv:v=Aes.flat key m):LK key (m+1) w (wr.setCell ⟨w.heap.size+3,m,none⟩ (.int .u8 (v:Int))):=
 ⟨bM h.1 (by omega) _ _,h.2.1.setOther (by omega) _ _,h.2.2.1.setOther (by omega) _ _,h.2.2.2.1.setOther (by omega) _ _,(h.2.2.2.2.set m v).congr fun t _=>Aes.some_next _ _ _ _ hv⟩
theorem LK.drewN {key:Nat→Nat} {m:Nat} {w wr:World} (h:LK key m w wr) (n:Nat):LK key m w (wr.drewN n):=⟨aU h.1 n,h.2.1,h.2.2.1,h.2.2.2.1,h.2.2.2.2⟩
theorem LK.rowOther {key:Nat→Nat} {m:Nat} {w wr:World} (h:LK key m w wr) {g:Nat} (hg:w.heap.size+3<g) (cs:Array Value):LK key m w (wr.setRow g cs):=
 ⟨below_setRow h.1 (by omega) _,setRow_other h.2.1 (by omega) _,setRow_other h.2.2.1 (by omega) _,setRow_other h.2.2.2.1 (by omega) _,setRow_other h.2.2.2.2 (by omega) _⟩
theorem Aes.some_at (key:Nat→Nat) (m t:Nat) (h:t<m):Aes.some_ key m t=Aes.flat key t:=by unfold Aes.some_;rw[if_pos h]
theorem vZ (key:Nat→Nat) (w:World) (hk:Aes.B8 key):Calls Tryz.prog 290 #[.agg (aH .u8 16 key),.agg (aH .u8 256 Fld.sb)] w fun e w'=>e= .returned (.agg (aH .u8 176 (Aes.flat key)))∧Below w.heap.size w w':=by
 have hsz:=aA .u8 16 key;have hsz3:=aA .u8 256 Fld.sb;have HK:=aD hk;clear hk;have hz32:∀w,(zeroValue 413).run Tryz.prog w= .ok (.agg (Array.replicate 176 (.int .u8 0))) w:=fun _=>by kernel_rfl
 have hz64:∀w,(zeroValue 429).run Tryz.prog w= .ok (.agg (Array.replicate 176 (.int .u8 0))) w:=fun _=>by kernel_rfl
 go_enter Tryz.func290,Tryz.ntmps290;go_upto_region 2 with fail;generalize hW:(((World.alloc _ _).alloc _).alloc _:World)=W;have INV:LK key (4*0) w W:=by
  rw[←hW];have z1:w.heap.size+1=(w.alloc (Obj.cells (aH IntKind.u8 16 key) 22)).heap.size:=by simp
  have z2:w.heap.size+2=((w.alloc (Obj.cells (aH IntKind.u8 16 key) 22)).alloc (Obj.cells (aH IntKind.u8 256 Fld.sb) 356)).heap.size:=by simp
  have z3:∀o:Obj,w.heap.size+3=(((w.alloc (Obj.cells (aH IntKind.u8 16 key) 22)).alloc (Obj.cells (aH IntKind.u8 256 Fld.sb) 356)).alloc o).heap.size:=fun _=>by simp
  refine⟨((((Below.refl _ _).alloc (Nat.le_refl _) _).alloc (by simp) _).alloc (by simp;omega) _).alloc (by simp;omega) _,?_,?_,?_,?_⟩
  ·exact(((aN w _ _ _ _).alloc _).alloc _).alloc _
  ·rw[z1];exact((aN _ _ _ _ _).alloc _).alloc _
  ·rw[z2];exact(gD _ _ _ (by first|rfl|simp) (by first|rfl|decide+kernel)).alloc _
  ·rw[z3];exact(gD _ _ _ (by first|rfl|simp) (by first|rfl|decide+kernel)).congr fun t _=>by unfold Aes.some_;rw[if_neg (by omega)]
 have I0:=aD INV;clear hW INV;go_wp2_with fail
 go_loopw [6,7,8,9,10] (fun p i _ _ _ wr=>∃m:Nat,m≤44∧i= .int .i64 m∧p= .int .u8 (Aes.pwr ((m - 1) / 4):Nat)∧LK key (4*m) w wr) (fun _ i _ _ _ _=>44 - (intOf i).toNat)
 case atStart=>exact⟨0,by omega,rfl,rfl,I0.out⟩
 case round=>
  clear I0;obtain⟨i,him,rfl,rfl,hm⟩:=hrel;have HM:=aD (show LK key (i*4+0) w wr by rw[show i*4+0=4*i by omega];exact hm);clear hm
  by_cases hlt:i<44
  ·have hd:decide ((i:Int)<44)=true:=by simp;omega
   have li:(i:Int)<44:=by omega
   have ni:0≤(i:Int):=by omega
   by_cases h4:i<4
   ·have hd4:decide ((i:Int)<4)=true:=by simp;omega
    have hpn:Aes.pwr ((i - 1) / 4)=Aes.pwr ((i+1 - 1) / 4):=by congr 1;omega
    have HPN:=aD hpn;clear hpn;generalize Aes.pwr ((i - 1) / 4)=p at HPN ⊢;go_wp2_with fail
    go_loopw [8] (fun r wr=>∃k:Nat,k≤4∧r= .int .i64 k∧LK key (i*4+k) w wr) (fun r _=>4 - (intOf r).toNat)
    case atStart=>exact⟨0,by omega,rfl,HM.out⟩
    case round=>
     clear HM;obtain⟨r,hr,rfl,hm⟩:=hrel
     by_cases hlr:r<4
     ·have hdr:decide ((r:Int)<4)=true:=by simp;omega
      have lr:(r:Int)<4:=by omega
      have nr:0≤(r:Int):=by omega
      have ck:=hm.2.1.cell (i:=4*i+r) (by omega);have cc:=hm.2.2.2.2.cell (i:=i*4+r) (by omega);have fc:=hm.2.2.2.2.frozen (i*4+r);have hv:key (4*i+r)=Aes.flat key (i*4+r):=(Aes.flat_low key i r h4 hlr).symm;have J:=aD (fun(n:Nat)=>(hm.drewN n).set (key (4*i+r)) hv);obtain⟨old,hold⟩:∃old,wr.cell? ⟨w.heap.size+3,i*4+r,none⟩=some old:=⟨_,cc⟩;clear hm hv cc;generalize key (4*i+r)=y at ck J;have w1:IntKind.i64.wrap (4*(i:Int))=4*(i:Int):=IntWalk.i64_in _ (by omega);have w2:IntKind.i64.wrap (4*(i:Int)+(r:Int))=4*(i:Int)+(r:Int):=IntWalk.i64_in _ (by omega);have n1:0≤4*(i:Int)+(r:Int):=by omega
      have n2:4*(i:Int)+(r:Int)<16:=by omega
      have n3:(4*(i:Int)+(r:Int)).toNat=4*i+r:=by omega
      go_wp2_with fail;go_still_tail 10,(by kernel_rfl);change wpList _ _ _ _ _ (wr.drewN 1);have co2:(wr.drewN 1).cell? ⟨w.heap.size+3,i*4+r,none⟩=some old:=hold;have fo2:(wr.drewN 1).frozen? ⟨w.heap.size+3,i*4+r,none⟩=false:=fc;have JJ:=aD (J.out 1);clear hold fc ck J w1 w2 n1 n2 n3;generalize wr.drewN 1=wd at co2 fo2 JJ ⊢;go_wp2_with fail;go_roundw
      case rel=>exact⟨r+1,by omega,by go_num,JJ.out⟩
      case measure=>simp[intOf];omega
     ·obtain rfl:r=4:=by omega
      have hd4:decide (((4:Nat):Int)<4)=false:=by decide
      have HN:=aD (show LK key (4*(i+1)) w wr by rw[show 4*(i+1)=i*4+4 by omega];exact hm);clear hm hlr;go_wp2_with fail;go_roundw
      case rel=>exact⟨i+1,by omega,by go_num,by rw[HPN.out],HN.out⟩
      case measure=>simp[intOf];omega
   ·have hd4:decide ((i:Int)<4)=false:=by simp;omega
    have n4:4≤(i:Int):=by omega
    have hrow:∀j v,(aH .u8 4 (fun r=>Aes.flat key ((i - 1)*4+r)))[j]? =some v→wr.cell? ((⟨w.heap.size+3,(i - 1)*4,none⟩:Addr).add j)=some v:=fun j v hj=>by
     have hj4:j<4:=by
      rcases Nat.lt_or_ge j 4 with h'|h'
      ·exact h'
      ·rw[Array.getElem?_eq_none (by rw[aA];exact h')] at hj;cases hj
     rw[cJ _ _ _ _ hj4] at hj;rw[Addr.add_lit,HM.out.2.2.2.2.cell (by omega),←hj,Aes.some_at _ _ _ (by omega)]
    have HR:=aD hrow;clear hrow;have hst:=fun r hr=>Aes.flat_step key i r (by omega) hr
    have htc:=fun r=>Aes.tc_lt HK.out i r
    have HST:=aD hst;clear hst;have HTC:=aD htc;clear htc;have hfx:=Aes.flat_b8 HK.out;have HFX:=aD hfx;clear hfx;have HP8:=aD (Aes.pwr_lt ((i - 1) / 4));have HP:Hid (∃p,p=Aes.pwr ((i - 1) / 4)):=aD ⟨_,rfl⟩;obtain⟨p,hp⟩:=HP.out;rw[←hp] at HP8 ⊢;have hp8:=HP8.out;have HPE:=aD hp;clear hp HP HP8
    by_cases hz:i % 4=0
    ·have m4:(i:Int) % 4=((i % 4:Nat):Int):=by omega
     have dz:((i:Int) % 4==0)=true:=by rw[beq_iff_eq];omega
     clear m4;go_upto_region 12 with (first|refine cF rfl _ _ rfl ⟨w.heap.size+3,(i - 1)*4,none⟩ rfl _ _ HR.out rfl rfl (mI _) ?_|(refine wpList_store_rowTo rfl _ _ _ rfl rfl wr.heap.size _ rfl rfl _ _ (heap_alloc_new _ _) (mI _) (by rw[aA];rfl) (aL _ _ _) ?_;generalize hV:World.setRow _ wr.heap.size _=V));have hg:=HM.out.2.2.2.2.lt;have hLV:LK key (i*4+0) w V:=by rw[←hV];exact(HM.out.below ((Below.refl _ _).alloc (Nat.le_refl _) _)).rowOther (by omega) _
     have hTV:isArr V wr.heap.size 428 .u8 4 (fun r=>Aes.flat key ((i - 1)*4+r)):=by rw[←hV];exact setRow_heap _ _ _ _ _ _ (heap_alloc_new _ _)
     have LV:=aD (aQ hLV hTV);clear hV hLV hTV HM HR;generalize wr.heap.size=g at LV hg ⊢;obtain⟨b,hb⟩:∃b,b=Aes.ks key (i / 4 - 1):=⟨_,rfl⟩;have hb8:Aes.B8 b:=by rw[hb];exact Aes.ks_b8 HK.out _
     have hfb:∀r,r<4→Aes.flat key ((i - 1)*4+r)=b (12+r):=fun r hr=>by
      unfold Aes.flat;rw[show((i - 1)*4+r) / 16=i / 4 - 1 by omega,show((i - 1)*4+r) % 16=12+r by omega,hb]
     have hT:=LV.out.2.congr (g:=fun r=>b (12+r)) hfb;have htc:∀r,Aes.tc key i r=Aes.c0 b p r:=fun r=>by unfold Aes.tc;rw[if_pos hz,hb,HPE.out,show(i - 1) / 4=i / 4 - 1 by omega]
     have c0:=hT.cell (i:=0) (by omega);have c1:=hT.cell (i:=1) (by omega);have c2:=hT.cell (i:=2) (by omega);have c3:=hT.cell (i:=3) (by omega);have y0:=hb8 12;have y1:=hb8 13;have y2:=hb8 14;have y3:=hb8 15;have x0:=LV.out.1.2.2.1.cell (i:=b 12) y0;have x1:=LV.out.1.2.2.1.cell (i:=b 13) y1;have x2:=LV.out.1.2.2.1.cell (i:=b 14) y2;have x3:=LV.out.1.2.2.1.cell (i:=b 15) y3;have s1:=Fld.sb_lt _ y1;have e4:(#[.int .u8 ((Fld.sb (b 13) ^^^ p:Nat):Int),.int .u8 ((Fld.sb (b 14):Nat):Int),.int .u8 ((Fld.sb (b 15):Nat):Int),.int .u8 ((Fld.sb (b 12):Nat):Int)]:Array Value)=aH .u8 4 (Aes.c0 b p):=by rw[aEC];rfl
     have E4:=aD e4;clear e4;have HTB:=aD htc;have hxp:=u8_xor_nat _ _ s1 hp8;have HB:=aD hb;clear hb hfb htc;simp only[Nat.add_zero,Nat.reduceAdd] at c0 c1 c2 c3;generalize b 12=q0 at c0 x0 y0 E4;generalize b 13=q1 at c1 x1 y1 s1 E4 hxp;generalize b 14=q2 at c2 x2 y2 E4;generalize b 15=q3 at c3 x3 y3 E4;have HXP:=aD hxp;clear hxp;have ny0:0≤(q0:Int):=by omega
     have ny1:0≤(q1:Int):=by omega
     have ny2:0≤(q2:Int):=by omega
     have ny3:0≤(q3:Int):=by omega
     have ly0:(q0:Int)<256:=by omega
     have ly1:(q1:Int)<256:=by omega
     have ly2:(q2:Int)<256:=by omega
     have ly3:(q3:Int)<256:=by omega
     go_wp2_with fail;go_still_tail 19,(by kernel_rfl);change wpList _ _ _ _ _ (V.drewN 1);rw[HXP.out,E4.out];have LV2:=aD (aQ (LV.out.1.drewN 1) (hT.drewN 1));clear c0 c1 c2 c3 x0 x1 x2 x3 LV hT E4 HXP;generalize V.drewN 1=V1 at LV2 ⊢;have k1:=LV2.out.2
     have px:Hid (Fld.xt p=Aes.pwr ((i+1 - 1) / 4)):=aD (by
      have h1:i / 4=(i - 1) / 4+1:=by omega
      rw[show i+1 - 1=i by omega,h1];show _=Fld.gm (Aes.pwr ((i - 1) / 4)) 2
      rw[←HPE.out,Aes.gm_2 p hp8])
     go_upto_region 15 with (first|(refine wpList_store_rowTo rfl _ _ _ rfl rfl g _ rfl rfl _ _ k1 (mI _) ((aA _ _ _).trans (aA _ _ _).symm) (aL _ _ _) ?_;generalize hV2:World.setRow _ g _=V2)|(go_at_call 304;refine(jK p _ hp8).mono ?_;rintro e w' ⟨rfl,rfl⟩))
     have TV:Hid (LK key (i*4+0) w V2∧isArr V2 g 428 .u8 4 (Aes.tc key i)):=aD (by
      rw[←hV2]
      exact⟨LV2.out.1.rowOther (by omega) _,(show isArr (V1.setRow g (aH .u8 4 (Aes.c0 b p))) g 428 .u8 4 (Aes.c0 b p) from setRow_heap _ _ _ _ _ _ k1).congr fun r _=>(HTB.out r).symm⟩)
     clear hV2 k1 LV2 HB HTB;have HPN:Hid (Fld.xt p=Aes.pwr ((i+1 - 1) / 4)):=px;generalize Fld.xt p=p2 at HPN ⊢;go_wp2_with fail
     go_loopw [10] (fun r wr=>∃k:Nat,k≤4∧r= .int .i64 k∧LK key (i*4+k) w wr∧isArr wr g 428 .u8 4 (Aes.tc key i)) (fun r _=>4 - (intOf r).toNat)
     case atStart=>exact⟨0,by omega,rfl,TV.out⟩
     case round=>
      clear TV;obtain⟨r,hr,rfl,hm,ht⟩:=hrel
      by_cases hlr:r<4
      ·have hdr:decide ((r:Int)<4)=true:=by simp;omega
       have lr:(r:Int)<4:=by omega
       have nr:0≤(r:Int):=by omega
       have ca:=hm.2.2.2.2.cell (i:=(i - 4)*4+r) (by omega);rw[Aes.some_at _ _ _ (by omega)] at ca;have ct:=ht.cell (i:=r) hlr;have cc:=hm.2.2.2.2.cell (i:=i*4+r) (by omega);have fc:=hm.2.2.2.2.frozen (i*4+r);have hv:=HST.out r hlr;have hx:=u8_xor_nat _ _ (HFX.out ((i - 4)*4+r)) (HTC.out r);rw[hv] at hx;have Jn:=aD (fun(n:Nat)=>aQ ((hm.drewN n).set (Aes.flat key (i*4+r)) rfl) ((ht.drewN n).setOther (c:=w.heap.size+3) (by omega) (i*4+r) (.int .u8 ((Aes.flat key (i*4+r):Nat):Int))));obtain⟨old,hold⟩:∃old,wr.cell? ⟨w.heap.size+3,i*4+r,none⟩=some old:=⟨_,cc⟩;clear hm ht hv cc;generalize Aes.flat key (i*4+r)=v at hx Jn;generalize Aes.flat key ((i - 4)*4+r)=y at ca hx;generalize Aes.tc key i r=z at ct hx;have HX:=aD hx;clear hx;have w1:IntKind.i64.wrap ((i:Int) - 4)=(i:Int) - 4:=IntWalk.i64_in _ (by omega);have n1:0≤(i:Int) - 4:=by omega
       have n2:(i:Int) - 4<44:=by omega
       have n3:((i:Int) - 4).toNat=i - 4:=by omega
       go_wp2_with fail;go_still_tail 14,(by kernel_rfl);change wpList _ _ _ _ _ (wr.drewN 1);rw[HX.out];have co2:(wr.drewN 1).cell? ⟨w.heap.size+3,i*4+r,none⟩=some old:=hold;have fo2:(wr.drewN 1).frozen? ⟨w.heap.size+3,i*4+r,none⟩=false:=fc;have JJ:=aD (Jn.out 1);clear hold fc ca ct Jn w1 n1 n2 n3;generalize wr.drewN 1=wd at co2 fo2 JJ ⊢;go_wp2_with fail;go_roundw
       case rel=>exact⟨r+1,by omega,by go_num,JJ.out⟩
       case measure=>simp[intOf];omega
      ·obtain rfl:r=4:=by omega
       have hd4:decide (((4:Nat):Int)<4)=false:=by decide
       have HN:=aD (show LK key (4*(i+1)) w wr by rw[show 4*(i+1)=i*4+4 by omega];exact hm);clear hm ht hlr;go_wp2_with fail;go_roundw
       case rel=>exact⟨i+1,by omega,by go_num,by rw[HPN.out],HN.out⟩
       case measure=>simp[intOf];omega
    ·have m4:(i:Int) % 4=((i % 4:Nat):Int):=by omega
     have dz:((i:Int) % 4==0)=false:=by rw[beq_eq_false_iff_ne];omega
     clear m4;go_upto_region 12 with (first|refine cF rfl _ _ rfl ⟨w.heap.size+3,(i - 1)*4,none⟩ rfl _ _ HR.out rfl rfl (mI _) ?_|(refine wpList_store_rowTo rfl _ _ _ rfl rfl wr.heap.size _ rfl rfl _ _ (heap_alloc_new _ _) (mI _) (by rw[aA];rfl) (aL _ _ _) ?_;generalize hV:World.setRow _ wr.heap.size _=V));have hg:=HM.out.2.2.2.2.lt;have hLV:LK key (i*4+0) w V:=by rw[←hV];exact(HM.out.below ((Below.refl _ _).alloc (Nat.le_refl _) _)).rowOther (by omega) _
     have hTV:isArr V wr.heap.size 428 .u8 4 (fun r=>Aes.flat key ((i - 1)*4+r)):=by rw[←hV];exact setRow_heap _ _ _ _ _ _ (heap_alloc_new _ _)
     have LV:=aD (aQ hLV hTV);clear hV hLV hTV HM HR;generalize wr.heap.size=g at LV hg ⊢;have TV:Hid (LK key (i*4+0) w V∧isArr V g 428 .u8 4 (Aes.tc key i)):=aD ⟨LV.out.1,LV.out.2.congr fun r _=>by unfold Aes.tc;rw[if_neg hz]⟩;have hpn:p=Aes.pwr ((i+1 - 1) / 4):=by rw[HPE.out];congr 1;omega
     have HPN:=aD hpn;clear hpn LV;go_wp2_with fail
     go_loopw [10] (fun r wr=>∃k:Nat,k≤4∧r= .int .i64 k∧LK key (i*4+k) w wr∧isArr wr g 428 .u8 4 (Aes.tc key i)) (fun r _=>4 - (intOf r).toNat)
     case atStart=>exact⟨0,by omega,rfl,TV.out⟩
     case round=>
      clear TV;obtain⟨r,hr,rfl,hm,ht⟩:=hrel
      by_cases hlr:r<4
      ·have hdr:decide ((r:Int)<4)=true:=by simp;omega
       have lr:(r:Int)<4:=by omega
       have nr:0≤(r:Int):=by omega
       have ca:=hm.2.2.2.2.cell (i:=(i - 4)*4+r) (by omega);rw[Aes.some_at _ _ _ (by omega)] at ca;have ct:=ht.cell (i:=r) hlr;have cc:=hm.2.2.2.2.cell (i:=i*4+r) (by omega);have fc:=hm.2.2.2.2.frozen (i*4+r);have hv:=HST.out r hlr;have hx:=u8_xor_nat _ _ (HFX.out ((i - 4)*4+r)) (HTC.out r);rw[hv] at hx;have Jn:=aD (fun(n:Nat)=>aQ ((hm.drewN n).set (Aes.flat key (i*4+r)) rfl) ((ht.drewN n).setOther (c:=w.heap.size+3) (by omega) (i*4+r) (.int .u8 ((Aes.flat key (i*4+r):Nat):Int))));obtain⟨old,hold⟩:∃old,wr.cell? ⟨w.heap.size+3,i*4+r,none⟩=some old:=⟨_,cc⟩;clear hm ht hv cc;generalize Aes.flat key (i*4+r)=v at hx Jn;generalize Aes.flat key ((i - 4)*4+r)=y at ca hx;generalize Aes.tc key i r=z at ct hx;have HX:=aD hx;clear hx;have w1:IntKind.i64.wrap ((i:Int) - 4)=(i:Int) - 4:=IntWalk.i64_in _ (by omega);have n1:0≤(i:Int) - 4:=by omega
       have n2:(i:Int) - 4<44:=by omega
       have n3:((i:Int) - 4).toNat=i - 4:=by omega
       go_wp2_with fail;go_still_tail 14,(by kernel_rfl);change wpList _ _ _ _ _ (wr.drewN 1);rw[HX.out];have co2:(wr.drewN 1).cell? ⟨w.heap.size+3,i*4+r,none⟩=some old:=hold;have fo2:(wr.drewN 1).frozen? ⟨w.heap.size+3,i*4+r,none⟩=false:=fc;have JJ:=aD (Jn.out 1);clear hold fc ca ct Jn w1 n1 n2 n3;generalize wr.drewN 1=wd at co2 fo2 JJ ⊢;go_wp2_with fail;go_roundw
       case rel=>exact⟨r+1,by omega,by go_num,JJ.out⟩
       case measure=>simp[intOf];omega
      ·obtain rfl:r=4:=by omega
       have hd4:decide (((4:Nat):Int)<4)=false:=by decide
       have HN:=aD (show LK key (4*(i+1)) w wr by rw[show 4*(i+1)=i*4+4 by omega];exact hm);clear hm ht hlr;go_wp2_with fail;go_roundw
       case rel=>exact⟨i+1,by omega,by go_num,by rw[HPN.out],HN.out⟩
       case measure=>simp[intOf];omega
  ·obtain rfl:i=44:=by omega
   have hd:decide (((44:Nat):Int)<44)=false:=by decide
   have hA:isArr wr (w.heap.size+3) 429 .u8 176 (Aes.flat key):=HM.out.2.2.2.2.congr fun t ht=>Aes.some_at _ _ _ (by omega)
   have k7:=HM.out.2.2.2.1;have kb:=HM.out.1;clear hlt HM;generalize Aes.pwr ((44 - 1) / 4)=p;go_upto_region 20 with fail;have hD:∀o:Obj,isArr (wr.alloc o) (w.heap.size+3) 429 .u8 176 (Aes.flat key)∧isArr (wr.alloc o) (w.heap.size+2) 413 .u8 176 (fun _=>0)∧Below w.heap.size w (wr.alloc o):=fun o=>⟨hA.alloc _,k7.alloc _,kb.alloc kb.size _⟩
   have hg:=hA.lt;generalize hW2:World.alloc wr _=W2;have hE:isArr W2 (w.heap.size+3) 429 .u8 176 (Aes.flat key)∧isArr W2 (w.heap.size+2) 413 .u8 176 (fun _=>0)∧Below w.heap.size w W2∧isArr W2 wr.heap.size 413 .u8 176 (Aes.some_ key 0):=by
    rw[←hW2];exact⟨(hD _).1,(hD _).2.1,(hD _).2.2,(gD _ _ _ (by first|rfl|simp) (by first|rfl|decide+kernel)).congr fun t _=>by unfold Aes.some_;rw[if_neg (by omega)]⟩
   have E2:=aD hE;clear hW2 hE hD hA k7 kb;generalize wr.heap.size=g at E2 hg ⊢;have hfx:=Aes.flat_b8 HK.out;go_wp2_with fail
   go_loopw [12] (fun i wr=>∃m:Nat,m≤176∧i= .int .i64 m∧isArr wr (w.heap.size+3) 429 .u8 176 (Aes.flat key)∧isArr wr (w.heap.size+2) 413 .u8 176 (fun _=>0)∧Below w.heap.size w wr∧isArr wr g 413 .u8 176 (Aes.some_ key m)) (fun i _=>176 - (intOf i).toNat)
   case atStart=>exact⟨0,by omega,rfl,E2.out⟩
   case round=>
    clear E2;obtain⟨m,hm,rfl,h1,h2,h3,h4⟩:=hrel
    by_cases hlm:m<176
    ·have hdm:decide ((m:Int)<176)=true:=by simp;omega
     obtain⟨a,ha⟩:∃a,a=m / 16:=⟨_,rfl⟩;obtain⟨b,hb⟩:∃b,b=m % 16:=⟨_,rfl⟩;obtain⟨c,hc⟩:∃c,c=m / 4:=⟨_,rfl⟩;obtain⟨d,hd'⟩:∃d,d=m % 4:=⟨_,rfl⟩;have e1:m=a*16+b:=by omega
     have e2:m=c*4+d:=by omega
     have q1:(m:Int).tdiv 16=(a:Int):=by rw[Int.tdiv_eq_ediv_of_nonneg (by omega)];omega
     have q2:(m:Int).tmod 16=(b:Int):=by rw[Int.tmod_eq_emod_of_nonneg (by omega)];omega
     have q3:(m:Int).tdiv 4=(c:Int):=by rw[Int.tdiv_eq_ediv_of_nonneg (by omega)];omega
     have q4:(m:Int).tmod 4=(d:Int):=by rw[Int.tmod_eq_emod_of_nonneg (by omega)];omega
     have w1:IntKind.i64.wrap (a:Int)=(a:Int):=IntWalk.i64_in _ (by omega);have w3:IntKind.i64.wrap (c:Int)=(c:Int):=IntWalk.i64_in _ (by omega);have l1:(a:Int)<11:=by omega
     have l2:(b:Int)<16:=by omega
     have l3:(c:Int)<44:=by omega
     have l4:(d:Int)<4:=by omega
     have n1:0≤(a:Int):=by omega
     have n2:0≤(b:Int):=by omega
     have n3:0≤(c:Int):=by omega
     have n4:0≤(d:Int):=by omega
     have ca:=h1.cell (i:=c*4+d) (by omega);have co:=h4.cell (i:=a*16+b) (by omega);have fo:=h4.frozen (a*16+b);have hv:Aes.flat key (c*4+d)=Aes.flat key m:=by rw[←e2]
     have J:=aD (fun(n:Nat)=>show isArr ((wr.drewN n).setCell ⟨g,a*16+b,none⟩ (.int .u8 ((Aes.flat key (c*4+d):Nat):Int))) (w.heap.size+3) 429 .u8 176 (Aes.flat key)∧isArr ((wr.drewN n).setCell ⟨g,a*16+b,none⟩ (.int .u8 ((Aes.flat key (c*4+d):Nat):Int))) (w.heap.size+2) 413 .u8 176 (fun _=>0)∧Below w.heap.size w ((wr.drewN n).setCell ⟨g,a*16+b,none⟩ (.int .u8 ((Aes.flat key (c*4+d):Nat):Int)))∧isArr ((wr.drewN n).setCell ⟨g,a*16+b,none⟩ (.int .u8 ((Aes.flat key (c*4+d):Nat):Int))) g 413 .u8 176 (Aes.some_ key (m+1)) from
      ⟨(h1.drewN n).setOther (by omega) _ _,(h2.drewN n).setOther (by omega) _ _,bM (aU h3 n) (by omega) _ _,((h4.drewN n).set (a*16+b) _).congr fun t _=>by rw[hv,←e1];exact Aes.some_next _ _ _ _ rfl⟩)
     obtain⟨old,hold⟩:∃old,wr.cell? ⟨g,a*16+b,none⟩=some old:=⟨_,co⟩;have LM:=aD hlm;clear h1 h2 h3 h4 co hv e1 e2 ha hb hc hd' hm hlm;generalize Aes.flat key (c*4+d)=y at ca J;go_wp2_with fail;go_still_tail 12,(by kernel_rfl);change wpList _ _ _ _ _ (wr.drewN 1);have co2:(wr.drewN 1).cell? ⟨g,a*16+b,none⟩=some old:=hold;have fo2:(wr.drewN 1).frozen? ⟨g,a*16+b,none⟩=false:=fo;have JJ:=aD (J.out 1);clear hold fo ca J q1 q2 q3 q4 w1 w3;generalize wr.drewN 1=wd at co2 fo2 JJ ⊢;have lm:(m:Int)<176:=by have:=LM.out;omega
     go_wp2_with fail;go_roundw
     case rel=>
      first
       |exact⟨m+1,by have:=LM.out;omega,by go_num,JJ.out⟩
       |((repeat apply Exists.intro)
         refine⟨⟨m+1,by have:=LM.out;omega,by go_num,JJ.out⟩,rfl⟩)
     case measure=>simp[intOf];have:=LM.out;omega
    ·obtain rfl:m=176:=by omega
     have hdm:decide (((176:Nat):Int)<176)=false:=by decide
     have k1:isArr wr g 413 .u8 176 (Aes.flat key):=h4.congr fun t ht=>Aes.some_at _ _ _ ht
     clear hlm hm h4 h1;go_wp2_with (first|refine wpList_load_row rfl _ _ rfl g rfl _ _ (0,0) _ k1 rfl rfl (fN _) ?_|(refine wpList_store_row rfl _ _ _ rfl (w.heap.size+2) _ rfl rfl _ _ h2 (fN _) ((aA _ _ _).trans (aA _ _ _).symm) (aL _ _ _) ?_));exact bodyPost_ret (results_cell_row rfl _ _ (w.heap.size+2) _ _ (0,0) _ rfl (setRow_heap _ (w.heap.size+2) _ _ _ (0,0) h2) rfl rfl (fN _)) rfl ⟨rfl,below_setRow h3 (by omega) _⟩
end Go.Proofs.YtcoolgnlhheaiaaGreatDoor
namespace Go.Proofs.YtcoolgnlhheaiaaGreatDoor
open Go.RowKit Go.Deep
set_option linter.all false
set_option maxRecDepth 100000
set_option maxHeartbeats 16000000
def FI (key x:Nat→Nat) (g:Nat) (w wr:World):Prop:=
 Below w.heap.size w wr∧isArr wr (w.heap.size+1) 22 .u8 16 x∧isArr wr (w.heap.size+2) 356 .u8 256 Fld.sb∧isArr wr (w.heap.size+3) 22 .u8 16 (fun _=>0)∧isArr wr g 413 .u8 176 (Aes.flat key)∧w.heap.size+3<g
theorem FI.below {key x:Nat→Nat} {g:Nat} {w wr w':World} (h:FI key x g w wr) (e:Below wr.heap.size wr w'):FI key x g w w':=
 ⟨h.1.trans (e.mono h.1.size),h.2.1.below e h.2.1.lt,h.2.2.1.below e h.2.2.1.lt,h.2.2.2.1.below e h.2.2.2.1.lt,h.2.2.2.2.1.below e h.2.2.2.2.1.lt,h.2.2.2.2.2⟩
theorem FI.row {key x y:Nat→Nat} {g:Nat} {w wr:World} (h:FI key x g w wr):FI key y g w (wr.setRow (w.heap.size+1) (aH .u8 16 y)):=by
 have hg:=h.2.2.2.2.2;exact⟨below_setRow h.1 (by omega) _,setRow_heap _ _ _ _ _ (0,0) h.2.1,setRow_other h.2.2.1 (by omega) _,setRow_other h.2.2.2.1 (by omega) _,setRow_other h.2.2.2.2.1 (by omega) _,hg⟩
theorem FI.drewN {key x:Nat→Nat} {g:Nat} {w wr:World} (h:FI key x g w wr) (n:Nat):FI key x g w (wr.drewN n):=⟨aU h.1 n,h.2.1,h.2.2.1,h.2.2.2.1,h.2.2.2.2.1,h.2.2.2.2.2⟩
theorem FI.set {key x y:Nat→Nat} {g:Nat} {w wr:World} (h:FI key x g w wr) (i v:Nat) (hy:∀t,t<16→(if t=i then v else x t)=y t):FI key y g w (wr.setCell ⟨w.heap.size+1,i,none⟩ (.int .u8 (v:Int))):=by
 have hg:=h.2.2.2.2.2;exact⟨bM h.1 (by omega) _ _,(h.2.1.set i v).congr hy,h.2.2.1.setOther (by omega) _ _,h.2.2.2.1.setOther (by omega) _ _,h.2.2.2.2.1.setOther (by omega) _ _,hg⟩
theorem FI.congr {key x y:Nat→Nat} {g:Nat} {w wr:World} (h:FI key x g w wr) (e:∀t,t<16→x t=y t):FI key y g w wr:=⟨h.1,h.2.1.congr e,h.2.2⟩
theorem oV (key b:Nat→Nat) (w:World) (hk:Aes.B8 key) (hb:Aes.B8 b):Calls Tryz.prog 272 #[.agg (aH .u8 16 key),.agg (aH .u8 16 b),.agg (aH .u8 256 Fld.sb)] w fun e w'=>e= .returned (.agg (aH .u8 16 (Aes.enc key b)))∧Below w.heap.size w w':=by
 have hsz:=aA .u8 16 key;have hsz2:=aA .u8 16 b;have hsz3:=aA .u8 256 Fld.sb;have HK:=aD hk;clear hk;have HB:=aD hb;clear hb;have hz32:∀w,(zeroValue 413).run Tryz.prog w= .ok (.agg (Array.replicate 176 (.int .u8 0))) w:=fun _=>by kernel_rfl
 go_enter Tryz.func272,Tryz.ntmps272;go_upto_region 1 with fail;generalize hW:(((World.alloc _ _).alloc _).alloc _:World)=W;have INV:Below w.heap.size w W∧isArr W w.heap.size 22 .u8 16 key∧isArr W (w.heap.size+1) 22 .u8 16 b∧isArr W (w.heap.size+2) 356 .u8 256 Fld.sb∧isArr W (w.heap.size+3) 22 .u8 16 (fun _=>0):=by
  rw[←hW];have z1:w.heap.size+1=(w.alloc (Obj.cells (aH IntKind.u8 16 key) 22)).heap.size:=by simp
  have z2:w.heap.size+2=((w.alloc (Obj.cells (aH IntKind.u8 16 key) 22)).alloc (Obj.cells (aH IntKind.u8 16 b) 22)).heap.size:=by simp
  have z3:w.heap.size+3=(((w.alloc (Obj.cells (aH IntKind.u8 16 key) 22)).alloc (Obj.cells (aH IntKind.u8 16 b) 22)).alloc (Obj.cells (aH IntKind.u8 256 Fld.sb) 356)).heap.size:=by simp
  refine⟨((((Below.refl _ _).alloc (Nat.le_refl _) _).alloc (by simp) _).alloc (by simp;omega) _).alloc (by simp;omega) _,?_,?_,?_,?_⟩
  ·exact(((aN w _ _ _ _).alloc _).alloc _).alloc _
  ·rw[z1];exact((aN _ _ _ _ _).alloc _).alloc _
  ·rw[z2];exact(aN _ _ _ _ _).alloc _
  ·rw[z3];first|exact dY|exact zero16r
 have k1:=INV.2.1;have k2:=INV.2.2.2.1;have I0:=aD INV;clear hW INV;go_upto_region 2 with (first|refine wpList_load_row rfl _ _ rfl w.heap.size rfl _ _ (0,0) _ k1 rfl rfl (a8 _) ?_|refine wpList_load_row rfl _ _ rfl (w.heap.size+2) rfl _ _ (0,0) _ k2 rfl rfl (eB _) ?_|(go_at_call 290;refine(vZ _ _ HK.out).mono ?_;rintro e w2 ⟨rfl,hb2⟩)|(refine wpList_store_rowTo rfl _ _ _ rfl rfl w2.heap.size _ rfl rfl _ _ (heap_alloc_new _ _) (fN _) (by rw[aA];first|rfl|simp) (aL _ _ _) ?_;generalize hV:World.setRow _ w2.heap.size _=V));have hE:FI key b w2.heap.size w V:=by
  have hz:=I0.out.2.2.2.2.lt;have hz2:=hb2.size;have h2:Below W.heap.size W V:=by
   rw[←hV];exact below_setRow (hb2.alloc hb2.size _) hb2.size _
  refine⟨I0.out.1.trans (h2.mono I0.out.1.size),I0.out.2.2.1.below h2 I0.out.2.2.1.lt,I0.out.2.2.2.1.below h2 I0.out.2.2.2.1.lt,I0.out.2.2.2.2.below h2 I0.out.2.2.2.2.lt,?_,by omega⟩;rw[←hV];exact setRow_heap _ _ _ _ _ _ (heap_alloc_new _ _)
 have E0:=aD (hE.congr (y:=dR b (Aes.xor b (Aes.ks key 0)) 0) fun t _=>by unfold dR;rw[if_neg (Nat.not_lt_zero _)]);clear hE hV hb2 k1 k2 I0;generalize w2.heap.size=g at E0 ⊢;have hks:=Aes.ks_b8 HK.out;have HS:=aD (Aes.st_b8 HK.out HB.out);have HKS:=aD hks;clear hks;go_upto_region 6 with fail;go_wp2_with fail
 go_loopw [8] (fun i wr=>∃m:Nat,m≤16∧i= .int .i64 m∧FI key (dR b (Aes.xor b (Aes.ks key 0)) m) g w wr) (fun i _=>16 - (intOf i).toNat)
 case atStart=>exact⟨0,by omega,rfl,E0.out⟩
 case round=>
  clear E0;obtain⟨j,hj,rfl,hm⟩:=hrel
  by_cases hlt:j<16
  ·have hd:decide ((j:Int)<16)=true:=by simp;omega
   have c0:=hm.2.1.cell (i:=j) hlt;have f0:=hm.2.1.frozen j;have c1:=hm.2.2.2.2.1.cell (i:=j) (by omega);rw[show dR b (Aes.xor b (Aes.ks key 0)) j j=b j by unfold dR;rw[if_neg (Nat.lt_irrefl _)]] at c0;rw[show Aes.flat key j=Aes.ks key 0 j by unfold Aes.flat;rw[show j / 16=0 by omega,show j % 16=j by omega]] at c1;have I7:=aD (fun n=>(hm.drewN n).set (y:=dR b (Aes.xor b (Aes.ks key 0)) (j+1)) j (b j ^^^ Aes.ks key 0 j) (fun t _=>lW b (Aes.xor b (Aes.ks key 0)) j t));have hx:=u8_xor_nat _ _ (HB.out j) (HKS.out 0 j);clear hm;generalize b j=p at c0 I7 hx;generalize Aes.ks key 0 j=q at c1 I7 hx;have lm:(j:Int)<16:=by omega
   have nm:0≤(j:Int):=by omega
   have HX:=aD hx;clear hx;go_wp2_with fail;go_still_tail 10,(by kernel_rfl);change wpList _ _ _ _ _ (wr.drewN 1);have c2:(wr.drewN 1).cell? ⟨w.heap.size+1,j,none⟩=some (.int .u8 (p:Int)):=c0;have f2:(wr.drewN 1).frozen? ⟨w.heap.size+1,j,none⟩=false:=f0;have I8:=aD (I7.out 1);clear I7 c0 f0 c1;generalize wr.drewN 1=wd at c2 f2 I8 ⊢;rw[HX.out];go_wp2_with fail;go_roundw
   case rel=>exact⟨j+1,by omega,by go_num,I8.out⟩
   case measure=>simp[intOf];omega
  ·obtain rfl:j=16:=by omega
   have hd:decide (((16:Nat):Int)<16)=false:=by decide
   have E2:=aD (hm.congr (y:=Aes.xor b (Aes.ks key 0)) fun t ht=>by unfold dR;rw[if_pos ht]);clear hm hlt;go_wp2_with fail
   go_loopw [9] (fun i wr=>∃m:Nat,m≤10∧i= .int .i64 ((m+1:Nat):Int)∧FI key (Aes.st key b m) g w wr) (fun i _=>11 - (intOf i).toNat)
   case atStart=>exact⟨0,by omega,rfl,E2.out⟩
   case round=>
    clear E2;obtain⟨m,hm,rfl,hE⟩:=hrel;have EE:=aD hE;obtain⟨i,hi⟩:∃i,i=m+1:=⟨_,rfl⟩;rw[←hi]
    by_cases hlt:m<10
    ·have hd:decide ((i:Int)≤10)=true:=by simp;omega
     have li:(i:Int)<11:=by omega
     have ni:1≤(i:Int):=by omega
     have c1:=hE.2.1.cells;have c2:=oG hE.2.2.2.2.1 i (by omega);have c3:=hE.2.2.1.cells;have hst:Aes.round (Aes.st key b m) (Aes.ks key i) ((i:Int)==10)=Aes.st key b i:=by
      rw[hi];show Aes.round (Aes.st key b m) (Aes.ks key (m+1)) _=Aes.round (Aes.st key b m) (Aes.ks key (m+1)) (m+1==10);congr 1;rw[Bool.eq_iff_iff,beq_iff_eq,beq_iff_eq];omega
     have ST:=aD hst;have C1:=aD c1;have C2:=aD c2;have C3:=aD c3;have HI:=aD hi;clear hE hst c1 c2 c3 hi hlt hm;generalize hlb:((i:Int)==10)=lb at ST;go_wp2_with fail;go_still_tail 7,(by kernel_rfl)
     repeat (first|(refine aY rfl _ _ rfl ⟨w.heap.size+1,0,none⟩ rfl _ _ C1.out rfl rfl (a8 _) ?_)|(refine aY rfl _ _ rfl ⟨g,i*16,none⟩ rfl _ _ C2.out rfl rfl (a8 _) ?_)|(refine aY rfl _ _ rfl ⟨w.heap.size+2,0,none⟩ rfl _ _ C3.out rfl rfl (eB _) ?_)|still_step)
     try refine wpStill_nil ?_
     change wpList _ _ _ _ _ (wr.drewN 1);have E3:=aD (EE.out.drewN 1);clear EE C1 C2 C3;generalize wr.drewN 1=wd at E3 ⊢;go_wp2_with (first|(go_at_call 291;refine(rM _ _ _ _ (HS.out _) (HKS.out _)).mono ?_;rintro e w6 ⟨rfl,hb6⟩;have E4:=aD (E3.out.below hb6);have k4:=E4.out.2.1;clear hb6 E3)|(refine wpList_store_row rfl _ _ _ rfl (w.heap.size+1) _ rfl rfl _ _ k4 (a8 _) ((aA _ _ _).trans (aA _ _ _).symm) (aL _ _ _) ?_));have E5:=aD (E4.out.row (y:=Aes.round (Aes.st key b m) (Aes.ks key i) lb));rw[ST.out] at E5;go_roundw
     case rel=>
      first
       |exact⟨i,by have:=HI.out;omega,by go_num,by first|exact E5.out|(rw[ST.out];exact E5.out)⟩
       |((repeat apply Exists.intro)
         refine⟨⟨i,by have:=HI.out;omega,by go_num,by first|exact E5.out|(rw[ST.out];exact E5.out)⟩,rfl⟩)
     case measure=>simp[intOf];omega
    ·obtain rfl:m=10:=by omega
     subst hi;have hd:decide (((11:Nat):Int)≤10)=false:=by decide
     have k1:=hE.2.1;have k7:=hE.2.2.2.1;clear hlt hm hE;go_wp2_with (first|refine wpList_load_row rfl _ _ rfl (w.heap.size+1) rfl _ _ (0,0) _ k1 rfl rfl (a8 _) ?_|(refine wpList_store_row rfl _ _ _ rfl (w.heap.size+3) _ rfl rfl _ _ k7 (a8 _) ((aA _ _ _).trans (aA _ _ _).symm) (aL _ _ _) ?_));exact bodyPost_ret (results_cell_row rfl _ _ (w.heap.size+3) _ _ (0,0) _ rfl (setRow_heap _ (w.heap.size+3) _ _ _ (0,0) k7) rfl rfl (a8 _)) rfl ⟨rfl,below_setRow EE.out.1 (by omega) _⟩
theorem aFK (w:World):Calls Tryz.prog 238 #[] w fun e w'=>e= .returned (.agg (aH .u8 256 Fld.sb))∧Below w.heap.size w w':=by
 have hz:∀w,(zeroValue 356).run Tryz.prog w= .ok (.agg (Array.replicate 256 (.int .u8 0))) w:=fun _=>by kernel_rfl
 go_enter Tryz.func238,Tryz.ntmps238;go_upto_region 1 with fail;generalize hW:(World.alloc _ _:World)=W;have INV:Below w.heap.size w W∧isArr W w.heap.size 356 .u8 256 (fun _=>0):=by
  rw[←hW];exact⟨(Below.refl _ _).alloc (Nat.le_refl _) _,kQ⟩
 have I0:=aD INV;clear hW INV;go_wp2_with (first|(go_at_call 271;refine(aF6 _).mono ?_;rintro e w2 ⟨rfl,hb2⟩;have k1:=I0.out.2.below hb2 I0.out.2.lt)|(refine wpList_store_row rfl _ _ _ rfl w.heap.size _ rfl rfl _ _ k1 (eB _) ((aA _ _ _).trans (aA _ _ _).symm) (aL _ _ _) ?_));exact bodyPost_ret (results_cell_row rfl _ _ w.heap.size _ _ (0,0) _ rfl (setRow_heap _ w.heap.size _ _ _ (0,0) k1) rfl rfl (eB _)) rfl ⟨rfl,below_setRow (I0.out.1.trans (hb2.mono I0.out.1.size)) (Nat.le_refl _) _⟩
end Go.Proofs.YtcoolgnlhheaiaaGreatDoor
namespace Go.Proofs.YtcoolgnlhheaiaaGreatDoor
set_option linter.all false
set_option maxRecDepth 100000
set_option maxHeartbeats 16000000
namespace Ctr
open Aes
def blk (nonce:Nat→Nat) (i:Nat):Nat→Nat:=fun k=>if k<8 then nonce k else i / 256 ^ (15 - k) % 256
theorem blk_b8 {nonce:Nat→Nat} (h:B8 nonce) (i:Nat):B8 (blk nonce i):=fun k=>by
 unfold blk;split
 ·exact h k
 ·exact Nat.mod_lt _ (by omega)
def bk (key nonce:Nat→Nat) (i:Nat):Nat→Nat:=enc key (blk nonce i)
theorem bk_b8 {key nonce:Nat→Nat} (hk:B8 key) (hn:B8 nonce) (i:Nat):B8 (bk key nonce i):=enc_b8 hk (blk_b8 hn i)
def byte (key nonce:Nat→Nat) (p:Nat):Nat:=bk key nonce (p / 16) (p % 16)
theorem byte_lt {key nonce:Nat→Nat} (hk:B8 key) (hn:B8 nonce) (p:Nat):byte key nonce p<256:=bk_b8 hk hn _ _
def str (key nonce:Nat→Nat) (a n:Nat):List Nat:=(List.range n).map fun i=>byte key nonce (a+i)
theorem str_length (key nonce:Nat→Nat) (a n:Nat):(str key nonce a n).length=n:=by simp[str]
theorem str_succ (key nonce:Nat→Nat) (a n:Nat):str key nonce a (n+1)=str key nonce a n++[byte key nonce (a+n)]:=by
 simp[str,List.range_succ]
def mask (key nonce:Nat→Nat) (a:Nat) (l:List Nat) (k:Nat):List Nat:=(List.range l.length).map fun i=>if i<k then l.getD i 0 ^^^ byte key nonce (a+i) else l.getD i 0
def crypt (key nonce:Nat→Nat) (a:Nat) (l:List Nat):List Nat:=(List.range l.length).map fun i=>l.getD i 0 ^^^ byte key nonce (a+i)
theorem mask_length (key nonce:Nat→Nat) (a:Nat) (l:List Nat) (k:Nat):(mask key nonce a l k).length=l.length:=by simp[mask]
theorem crypt_length (key nonce:Nat→Nat) (a:Nat) (l:List Nat):(crypt key nonce a l).length=l.length:=by simp[crypt]
theorem getD_range (n:Nat) (f:Nat→Nat) (i:Nat) (h:i<n):((List.range n).map f).getD i 0=f i:=by
 simp[List.getD,h]
theorem list_eq {l m:List Nat} (hl:l.length=m.length) (h:∀i,i<l.length→l.getD i 0=m.getD i 0):l=m:=by
 apply List.ext_getElem hl;intro i h1 h2;have:=h i h1
 simpa [List.getD,h1,h2] using this
theorem mask_get (key nonce:Nat→Nat) (a:Nat) (l:List Nat) (k i:Nat) (h:i<l.length):(mask key nonce a l k).getD i 0=if i<k then l.getD i 0 ^^^ byte key nonce (a+i) else l.getD i 0:=getD_range _ _ i h
theorem crypt_get (key nonce:Nat→Nat) (a:Nat) (l:List Nat) (i:Nat) (h:i<l.length):(crypt key nonce a l).getD i 0=l.getD i 0 ^^^ byte key nonce (a+i):=getD_range _ _ i h
theorem mask_zero (key nonce:Nat→Nat) (a:Nat) (l:List Nat):mask key nonce a l 0=l:=
 list_eq (mask_length ..) fun i hi=>by rw[mask_get _ _ _ _ _ _ (by simpa [mask] using hi)];simp
theorem mask_all (key nonce:Nat→Nat) (a:Nat) (l:List Nat) (k:Nat) (h:l.length≤k):mask key nonce a l k=crypt key nonce a l:=
 list_eq (by rw[mask_length,crypt_length]) fun i hi=>by
  have hi':i<l.length:=by simpa [mask] using hi
  rw[mask_get _ _ _ _ _ _ hi',crypt_get _ _ _ _ _ hi',if_pos (by omega)]
theorem getD_set (l:List Nat) (k i v:Nat) (h:i<l.length):(l.set k v).getD i 0=if k=i then v else l.getD i 0:=by
 simp[List.getD,List.getElem?_set];split
 ·next e=>subst e;simp[h]
 ·rfl
theorem mask_set (key nonce:Nat→Nat) (a:Nat) (l:List Nat) (k:Nat) (_h:k<l.length):(mask key nonce a l k).set k (l.getD k 0 ^^^ byte key nonce (a+k))=mask key nonce a l (k+1):=
 list_eq (by simp[mask]) fun i hi=>by
  have hi':i<l.length:=by simpa [mask] using hi
  rw[getD_set _ _ _ _ (by rw[mask_length];exact hi'),mask_get _ _ _ _ _ _ hi',mask_get _ _ _ _ _ _ hi']
  by_cases e:k=i
  ·subst e;rw[if_pos rfl,if_pos (by omega)]
  ·rw[if_neg e]
   by_cases h2:i<k
   ·rw[if_pos h2,if_pos (by omega)]
   ·rw[if_neg h2,if_neg (by omega)]
theorem crypt_crypt (key nonce:Nat→Nat) (a:Nat) (l:List Nat):crypt key nonce a (crypt key nonce a l)=l:=
 list_eq (by simp[crypt]) fun i hi=>by
  have hi':i<l.length:=by simpa [crypt] using hi
  rw[crypt_get _ _ _ _ _ (by rw[crypt_length];exact hi'),crypt_get _ _ _ _ _ hi',Nat.xor_assoc,Nat.xor_self,Nat.xor_zero]
end Ctr
end Go.Proofs.YtcoolgnlhheaiaaGreatDoor
