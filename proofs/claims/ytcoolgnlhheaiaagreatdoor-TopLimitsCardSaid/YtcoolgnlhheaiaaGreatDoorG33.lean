import Derived.Test.YtcoolgnlhheaiaaGreatDoorG28
import Derived.Test.YtcoolgnlhheaiaaGreatDoorG32
namespace Go.Proofs.YtcoolgnlhheaiaaGreatDoor
open Go.RowKit Go.Deep Go.Maps Go.ChangeMaps Go.MapKept Go.WideShapes
set_option linter.all false
set_option maxRecDepth 100000
set_option maxHeartbeats 4000000
theorem Dk.setSec {w:World} {d:Nat} {b:Dsk.B} {D:Dsk.D} (h:Dk w d b D) {g x:Nat} (hg:b.vs.ownBlock=some g) (hx:x<D.sec.length) {s:List Nat} (hs:Frm.okS s):
 Dk (w.setCells g (x*64) (dX s)) d b { D with sec:=D.sec.set x s}∧Stp (b.F d) (b.F d) w (w.setCells g (x*64) (dX s)):=by
 have ap:=h.apart;have gr:=dZ (dX s) w g (x*64);have a1:=ap.1 g hg;have hk:∀i,i<w.heap.size→i≠g→(w.setCells g (x*64) (dX s)).heap[i]? =w.heap[i]? :=fun i hi hne=>gr.block i hi (by simpa using hne)
 have hset:=h.sec.set hg (i:=x) (by simpa using hx) (uR s) (mZ s);rw[←List.map_set] at hset
 refine⟨⟨⟨fun y hy=>(List.mem_or_eq_of_mem_set hy).elim (h.ok.sec y) (fun e=>e▸hs),fun y hy=>⟨by show _<(D.sec.set x s).length;rw[List.length_set];exact(h.ok.opn y hy).1,(h.ok.opn y hy).2⟩,h.ok.len,h.ok.steps,by show(D.sec.set x s).length≤_;rw[List.length_set];exact h.ok.room⟩,
  (hk d h.lt (Ne.symm a1.1)).trans h.blk,hset,h.opn.of_block fun i hi=>hk i (h.opn.lt hi).2 (fun e=>a1.2.2.2.2 (e▸hi)),h.last.of_block (hk _ h.last.lt (Ne.symm a1.2.1)),h.fails.of_block (hk _ h.fails.lt (Ne.symm a1.2.2.1)),h.crashes.of_block (hk _ h.crashes.lt (Ne.symm a1.2.2.2.1)),h.ne,fun k=>?_⟩,
  Stp.of_grown gr fun i hi=>by cases hi;exact .inl (.inr (.inl hg))⟩
 rcases h.cuts k with hx'|⟨l,v,h1,h2,h3⟩
 ·exact .inl hx'
 ·exact .inr ⟨l,v,h1,h2,h3.keep gr.size fun i hi hS=>hk i hi fun e=>hS (.inr (.inl (e▸hg)))⟩
namespace Dsk
def syncN (D:Dsk.D) (k:Nat):Dsk.D:={ D with sec:=(D.opn.take k).foldl (fun sec x=>sec.set x.1 x.2) D.sec}
theorem syncN_succ (D:Dsk.D) (k:Nat) {y:Nat×List Nat} (hy:D.opn[k]? =some y):syncN D (k+1)={ syncN D k with sec:=(syncN D k).sec.set y.1 y.2}:=by
 have hk:=(List.getElem?_eq_some_iff.1 hy).1;have e:=(List.getElem?_eq_some_iff.1 hy).2;unfold syncN;rw[List.take_succ_eq_append_getElem hk,List.foldl_append,e];rfl
theorem syncN_len (D:Dsk.D):∀k,(syncN D k).sec.length=D.sec.length:=fun k=>by
 unfold syncN;dsimp only;generalize D.opn.take k=l;generalize D.sec=s
 induction l generalizing s with
 |nil=>rfl
 |cons y l ih=>rw[List.foldl_cons,ih,List.length_set]
theorem syncN_all (D:Dsk.D):cleared (syncN D D.opn.length)=synced D:=by
 unfold syncN cleared synced;rw[List.take_length]
end Dsk
theorem lA (d:Nat) (b:Dsk.B) (D:Dsk.D) (w:World) (h:Dk w d b D) (hN:D.n<10000000):Calls Tryz.prog 131 #[.pointer (some ⟨d,0,none⟩)] w (iM (iF (Dsk.sync D).2) d b (Dsk.sync D).1 w):=by
 obtain⟨⟨_,_,_,c3,_⟩,_⟩:=cW h.blk;have HD:=aD h
 cases hdn:D.down
 ·rw[hdn] at c3
  have hst:=qM d b D w h (by omega);have hl0:=h.ok.len;clear h;rcases Dsk.fate_le D with hf|hf|hf
  ·have hw:Dsk.sync D=(Dsk.synced (Dsk.stepped D),0):=by unfold Dsk.sync;rw[hdn,hf];rfl
   rw[hw];go_enter Tryz.func131,Tryz.ntmps131;go_upto_region 10 with (go_at_call 193;refine hst.mono ?_;rintro e w3 ⟨v,rfl,hcut,cm,dk3,st3⟩;rw[hf]);obtain⟨op,ocap,hvo⟩:=dk3.opn.form;obtain⟨⟨_,c1,_⟩,_⟩:=cW dk3.blk;rw[List.length_map] at hvo;obtain⟨L,hL⟩:∃L,L=(Dsk.stepped D).opn.length:=⟨_,rfl⟩;have hLn:L≤D.n:=by rw[hL];exact hl0
   rw[hvo,←hL] at c1;have DK3:=aD dk3;have HVO:=aD (aQ hvo hL);have ST3:=aD st3;clear c3 hst hcut dk3 hvo hL st3 hl0;go_upto_region 11 with fail;clear c1;obtain⟨V,hV⟩:∃V,V=w3:=⟨_,rfl⟩;rw[←hV];have HV:=aD hV;clear hV
   go_loopw [36] (fun x wr=>∃k:Nat,k≤L∧x= .int .i64 k∧Dk wr d { b with cm:=cm} (Dsk.syncN (Dsk.stepped D) k)∧Stp (b.F d) (b.F d) w wr) (fun x _=>L - (intOf x).toNat)
   case atStart=>exact⟨0,by omega,rfl,by rw[HV.out];exact DK3.out,by rw[HV.out];exact ST3.out⟩
   case round=>
    obtain⟨k,hk,rfl,hdk,hstp⟩:=hrel;have K1:=aD hdk;have S1:=aD hstp;clear hdk hstp
    by_cases hlt:k<L
    ·obtain⟨y,hy⟩:∃y,(Dsk.stepped D).opn[k]? =some y:=⟨_,List.getElem?_eq_getElem (by rw[←HVO.out.2];exact hlt)⟩
     obtain⟨hy1,hy2⟩:=DK3.out.ok.opn y (List.mem_of_getElem? hy);have hvo:=HVO.out.1;obtain⟨og,ocap',hop,_,hogl⟩:=K1.out.opn.pos (by rw[List.length_map];show 0<(Dsk.stepped D).opn.length;rw[←HVO.out.2];omega);have hop2:b.vo= .slice (some ⟨og,0,none⟩) L ocap:=by
      have e:(Dsk.syncN (Dsk.stepped D) k).opn.length=L:=HVO.out.2.symm;rw[show({ b with cm:=cm}:Dsk.B).vo=b.vo by rfl,List.length_map,e] at hop;rw[hvo,←HVO.out.2] at hop;rw[hvo,←HVO.out.2];injection hop with h1 h2 h3
      rw[h1]
     have hrg:=K1.out.opn.range (g:=og) (by rw[show({ b with cm:=cm}:Dsk.B).vo=b.vo by rfl,hop2];rfl) (i:=k) (x:=sG y) (by rw[List.getElem?_map];show((Dsk.stepped D).opn[k]?).map sG=_;rw[hy];rfl);obtain rfl:op=some ⟨og,0,none⟩:=by rw[hvo] at hop2;injection hop2
     have hkz:(k:Int).toNat=k:=by omega
     have hcw:=yA y.1 y.2;have hws:=eP y.1 y.2;have hrg':wr.rangeAt og (k*65) (iH y.1 y.2).toList:=by rw[←hcw];exact hrg
     have hone:(iH y.1 y.2).all (·.oneCell')=true:=by
      rw[←hcw];exact all_oneCell_toArray (rO y)
     have HYY:=aD (aQ hy (aQ hy1 hy2));clear hrg hcw hop hop2 hy hy2 hvo
     go_upto_region 13 with (first
      |refine wpList_load_mid rfl 275 _ rfl og (k*65) rfl (iH y.1 y.2).toList _ hrg' rfl rfl (by rw[Array.length_toList,eP];rfl) ?_
      |refine wpList_store_rowTo rfl _ _ _ rfl rfl wr.heap.size _ rfl rfl _ _ (Hb.new wr _ _) (by rw[eP];rfl) (by rw[eP];rfl) hone ?_)
     all_goals first|omega|skip
     have z9:=(Hb.new wr Tryz.zeroCells275 275).row (iH y.1 y.2);have g9:=aO (aG (aE wr none) (.cells Tryz.zeroCells275 275)) z9.2 (Nat.le_refl _);have hb9:=z9.1;clear z9 hrg';generalize (wr.alloc (.cells Tryz.zeroCells275 275)).setRow wr.heap.size (iH y.1 y.2)=U9 at*;have K9:=aD ((K1.out.below (aB g9)).below (aU (Below.refl U9.heap.size U9) 1));have S9:=aD (S1.out.trans ((Stp.of_only g9 (b.F d)).trans (Stp.drew _ U9 1)));have k9:=K1.out.below (aB g9);have hTl:=Dsk.syncN_len (Dsk.stepped D) k;obtain⟨g1,cap1,hv1,hg1,hg1l⟩:=k9.sec.pos (by rw[List.length_map,hTl];omega);rw[List.length_map,hTl] at hv1;obtain⟨⟨d0,_⟩,_⟩:=cW k9.blk;rw[hv1] at d0;have c0:U9.cell? ⟨wr.heap.size,0,none⟩=some (.int .i64 (y.1:Int)):=hb9.cell (by unfold iH;rw[Array.getElem?_append_left (by simp)];rfl)
     have C2:=aD (show ∀j v,(aH .u8 64 (aT y.2))[j]? =some v→(U9.drewN 1).cell? ((⟨wr.heap.size,1,none⟩:Addr).add j)=some v from fun j v hj=>by
      rw[Addr.add_mid];refine hb9.cell (i:=1+j) ?_;unfold iH;rw[Array.getElem?_append_right (by simp)]
      simpa using hj)
     have hr:=DK3.out.ok.room;have HV1:=aD hv1;obtain⟨M,hM⟩:∃M,M=(Dsk.stepped D).sec.length:=⟨_,rfl⟩;rw[←hM] at d0 hy1 hr;obtain⟨y1,hyy⟩:∃y1,y1=y.1:=⟨_,rfl⟩;rw[←hyy] at c0 hy1;have HY:=aD (aQ hyy hM);clear hyy hM hv1 k9 hb9 hws hTl;have hyz:(y1:Int).toNat=y1:=by omega
     go_still_tail 9,(by kernel_rfl)
     repeat (first|(refine aY rfl _ _ rfl ⟨wr.heap.size,1,none⟩ rfl _ _ C2.out rfl rfl (by rw[aA];rfl) ?_)|still_step)
     try refine wpStill_nil ?_
     all_goals first|omega|skip
     change wpList _ _ _ _ _ (U9.drewN 1);have hvs:({ b with cm:=cm}:Dsk.B).vs.ownBlock=some g1:=by rw[HV1.out];rfl
     have hth:(U9.drewN 1).there g1 (y1*64) (aH .u8 64 (aT y.2)).size:=by
      rw[aA];obtain⟨sc,hsc⟩:∃sc,(Dsk.syncN (Dsk.stepped D) k).sec[y1]? =some sc:=⟨_,List.getElem?_eq_getElem (by rw[Dsk.syncN_len,←HY.out.2];exact hy1)⟩;exact K9.out.sec.there (g:=g1) hvs (i:=y1) (x:=dX sc) (by rw[List.getElem?_map,hsc];rfl)
     refine wpList_store_mid rfl 191 (.tmp 48) (.tmp 47) rfl g1 (y1*64) (aH .u8 64 (aT y.2)) rfl rfl hth (by rw[aA];rfl) (aL _ _ _) ?_;obtain⟨dkN,stN⟩:=K9.out.setSec hvs (x:=y1) (s:=y.2) (by rw[Dsk.syncN_len,←HY.out.2];exact hy1) HYY.out.2.2;have eN:{ Dsk.syncN (Dsk.stepped D) k with sec:=(Dsk.syncN (Dsk.stepped D) k).sec.set y1 y.2}=Dsk.syncN (Dsk.stepped D) (k+1):=by rw[Dsk.syncN_succ _ _ HYY.out.1,HY.out.1]
     rw[eN] at dkN;have DN:=aD dkN;have SN:=aD (S9.out.trans stN);clear dkN stN eN hth hvs K9 S9 C2 c0 d0;change wpList _ _ _ _ _ ((U9.drewN 1).setCells g1 (y1*64) (dX y.2));generalize (U9.drewN 1).setCells g1 (y1*64) (dX y.2)=U12 at*;go_wp2_with fail
     all_goals first|omega|skip
     go_roundw
     case rel=>exact⟨k+1,by omega,by go_num,DN.out,SN.out⟩
     case measure=>simp[intOf];omega
    ·obtain rfl:k=L:=by omega
     have hcl:=oB d _ _ wr K1.out;rw[HVO.out.2,Dsk.syncN_all] at hcl;go_wp2_with (go_at_call 74;refine hcl.mono ?_;rintro e w7 ⟨rfl,b7,dk7,st7⟩)
     all_goals first|omega|skip
     go_ret;exact⟨rfl,b7,dk7,S1.out.trans st7⟩
  ·have hw:Dsk.sync D=(Dsk.stepped D,11):=by unfold Dsk.sync;rw[hdn,hf];rfl
   rw[hw];go_enter Tryz.func131,Tryz.ntmps131;go_upto_region 9 with (go_at_call 193;refine hst.mono ?_;rintro e w3 ⟨v,rfl,hcut,cm,dk3,st3⟩;rw[hf]);go_wp2_with fail;go_ret;exact⟨rfl,_,dk3,st3⟩
  ·have hw:Dsk.sync D=(Dsk.crashed (Dsk.stepped D) (Dsk.cuts D),12):=by unfold Dsk.sync;rw[hdn,hf];rfl
   rw[hw];go_enter Tryz.func131,Tryz.ntmps131;go_upto_region 6 with (go_at_call 193;refine hst.mono ?_;rintro e w3 ⟨v,rfl,hcut,cm,dk3,st3⟩;rw[hf]);have hcr:=nA d _ _ v (Dsk.cuts D) _ w3 dk3 (hcut hf) (by show D.n+1<_;omega);clear hst;go_wp2_with (go_at_call 41;refine hcr.mono ?_;rintro e w6 ⟨rfl,b6,dk6,st6⟩);go_ret;exact⟨rfl,b6,dk6,st3.trans st6⟩
 ·rw[hdn] at c3
  have hw:Dsk.sync D=(D,12):=by unfold Dsk.sync;rw[hdn];rfl
  rw[hw];go_enter Tryz.func131,Tryz.ntmps131;go_wp2_with fail;go_ret;exact⟨rfl,b,HD.out,Stp.refl _ _⟩
end Go.Proofs.YtcoolgnlhheaiaaGreatDoor
namespace Go.Proofs.YtcoolgnlhheaiaaGreatDoor
open Go.RowKit Go.Deep
set_option linter.all false
set_option maxRecDepth 100000
set_option maxHeartbeats 1000000
theorem Frm.header_ok {g:Nat}:Frm.okS (Frm.header g):=Frm.mk_ok (by decide) (nH (by decide))
theorem Dsk.write_n (D:Dsk.D) (x:Nat) (s:List Nat):(Dsk.write D x s).1.n≤D.n+2:=by
 unfold Dsk.write;split
 ·exact Nat.le_add_right _ _
 ·split
  ·exact Nat.le_refl _
  ·split
   ·exact Nat.le_succ _
   ·exact Nat.le_refl _
def Slt.commit (D:Dsk.D) (f g:Nat):Dsk.D×Nat:=if (Dsk.write D f (Frm.header g)).2=0 then Dsk.sync (Dsk.write D f (Frm.header g)).1 else Dsk.write D f (Frm.header g)
theorem wA (d:Nat) (b:Dsk.B) (D:Dsk.D) (f n g:Nat) (w:World) (h:Dk w d b D) (hf:f<D.sec.length) (hg:g<4294967296) (hN:D.n<1000000):Calls Tryz.prog 135 #[.pointer (some ⟨d,0,none⟩),.agg (eD f n),.int .u32 (g:Int)] w (iM (iF (Slt.commit D f g).2) d b (Slt.commit D f g).1 w):=by
 have hb:=Hb.new w (eD f n) 239;have gr:=aG (aE w none) (.cells (eD f n) 239);have HD:=aD (h.below (aB gr));have GR:=aD (Stp.of_only gr (b.F d));have h00:=fun i (hi:w.heap.size≤i)=>h.fresh hi
 clear h gr;go_enter Tryz.func135,Tryz.ntmps135;go_upto_region 1 with fail;generalize w.alloc (.cells (eD f n) 239)=W at*;have hb1:Hb (W.drewN 1) w.heap.size (eD f n) 239:=hb;have D1:=aD (HD.out.below (aU (Below.refl W.heap.size W) 1));have S1:=aD (GR.out.trans (Stp.drew _ W 1));refine bO Tryz.f135 1 7 (fun w'=>Hb w' w.heap.size (eD f n) 239) (by kernel_rfl) (by kernel_rfl) (by kernel_rfl) hb1 (fun K hK h0=>?_);refine aW (listed':=#[false,false,false,false,false,false,false]) (by kernel_rfl) rfl ?_;have HF:=aD hK;clear hK;have hfr:=fun i (hi:w.heap.size≤i)=>h00 i hi
 generalize W.drewN 1=U at*;refine aX 0 8 (Value.pointer (some ⟨d,0,none⟩)) (fun _ _=>by kernel_rfl) h0 ?_;simp only[Act.put,aJ,aK,aI];refine aX 1 9 (Value.pointer (some ⟨w.heap.size,0,none⟩)) (fun _ _=>by kernel_rfl) h0 ?_;simp only[Act.put,aJ,aK,aI];refine bD 2 10 (by kernel_rfl) 3 (.tmp 9) (by kernel_rfl) ⟨w.heap.size,0,none⟩ (by kernel_rfl) (.int .i64 (f:Int)) _ (fun w' hw'=>hw'.cell rfl) Tryz.underlying3 rfl h0 ?_;simp only[Act.put,aJ,aK,aI];refine aX 3 11 (Value.int .u32 (g:Int)) (fun _ _=>by kernel_rfl) h0 ?_;simp only[Act.put,aJ,aK,aI];refine bE 4 12 198 #[.int .u32 (g:Int)] (by kernel_rfl) (by kernel_rfl) ?_;refine(wR g U hg).mono ?_;rintro e w2 ⟨rfl,g2⟩;have h2:=h0.only g2;refine⟨_,rfl,h2,?_⟩;simp only[Act.put,aJ,aK,aI];refine bE 5 13 197 #[Value.pointer (some ⟨d,0,none⟩),.int .i64 (f:Int),sv (Frm.header g)] (by kernel_rfl) (by kernel_rfl) ?_;refine(nZ d b D f (Frm.header g) w2 (D1.out.below (aB g2)) hf Frm.header_ok (by omega)).mono ?_;rintro e w3 ⟨rfl,b3,dk3,st3⟩;have h3:Hb w3 w.heap.size (eD f n) 239:=(st3.keep _ h2.lt (hfr _ (Nat.le_refl _))).trans h2;refine⟨_,rfl,h3,?_⟩;simp only[Act.put,aJ,aK,aI];refine aX 6 7 (iF (Dsk.write D f (Frm.header g)).2) (fun _ _=>by kernel_rfl) h3 ?_;simp only[Act.put,aJ,aK,aI];refine aZ (by kernel_rfl) (HF.out _ _ ?_);have hwn:=Dsk.write_n D f (Frm.header g);have HS:=aD (aQ dk3 (S1.out.trans ((Stp.of_only g2 (b.F d)).trans st3)));have hsy:=lA d b3 _ w3 dk3 (by omega);clear dk3 st3 h3 h2 g2 HF h0 hb hb1 D1 S1 HD GR hfr h00
 by_cases hc:(Dsk.write D f (Frm.header g)).2=0
 ·have hcm:=aD (show Slt.commit D f g=Dsk.sync (Dsk.write D f (Frm.header g)).1 by unfold Slt.commit;rw[if_pos hc])
  rw[hc,kU];clear hc;go_wp2_with (go_at_call 131;refine hsy.mono ?_;rintro e w4 ⟨rfl,b4,dk4,st4⟩);go_ret;unfold iM;rw[hcm.out];exact⟨rfl,b4,dk4,HS.out.2.trans st4⟩
 ·have hcm:=aD (show Slt.commit D f g=Dsk.write D f (Frm.header g) by unfold Slt.commit;rw[if_neg hc])
  rw[eV _ hc];clear hsy;go_wp2_with fail;go_ret;unfold iM;rw[hcm.out];exact⟨(congrArg Ending.returned (eV _ hc)).symm,b3,HS.out.1,HS.out.2⟩
set_option linter.all false
namespace Slt
def wrsy (D:Dsk.D) (x:Nat) (s:List Nat):Dsk.D×Nat:=if (Dsk.write D x s).2=0 then Dsk.sync (Dsk.write D x s).1 else Dsk.write D x s
theorem commit_eq (D:Dsk.D) (f g:Nat):commit D f g=wrsy D f (Frm.header g):=rfl
def secs (D:Dsk.D) (f m:Nat):List (List Nat):=(List.range m).map fun i=>Dsk.read D (f+i)
theorem secs_get (D:Dsk.D) (f:Nat) {m k:Nat} (h:k<m):(secs D f m)[k]? =some (Dsk.read D (f+k)):=by
 unfold secs;rw[List.getElem?_map,List.getElem?_range h];rfl
theorem secs_len (D:Dsk.D) (f m:Nat):(secs D f m).length=m:=by unfold secs;simp
def ents (g:Nat):List (List Nat)→List bC
 |[]=>[]
 |s::r=>match Frm.parseE s with
  |some (h,e)=>if h=g then e::ents g r else []
  |none=>[]
def scan:List (List Nat)→Option (Nat×List bC)
 |[]=>none
 |s::r=>(Frm.parseH s).map fun g=>(g,ents g r)
theorem ents_cons (g:Nat) (s:List Nat) (r:List (List Nat)):ents g (s::r)=match Frm.parseE s with
 |some (h,e)=>if h=g then e::ents g r else []
 |none=>[]:=rfl
theorem ents_yes {g:Nat} {s:List Nat} {e:bC} (r:List (List Nat)) (h:Frm.parseE s=some (g,e)):ents g (s::r)=e::ents g r:=by
 rw[ents_cons,h];exact if_pos rfl
theorem ents_no {g:Nat} {s:List Nat} (r:List (List Nat)) (h:∀e,Frm.parseE s≠some (g,e)):ents g (s::r)=[]:=by
 rw[ents_cons]
 cases hp:Frm.parseE s with
 |none=>rfl
 |some x=>
  obtain⟨h',e⟩:=x;exact if_neg fun hh=>h e (by rw[hp,hh])
theorem ents_full {g:Nat} (r t:List (List Nat)) (h:(ents g r).length=r.length):ents g (r++t)=ents g r++ents g t:=by
 induction r with
 |nil=>rfl
 |cons s r ih=>
  by_cases hy:∃e,Frm.parseE s=some (g,e)
  ·obtain⟨e,he⟩:=hy
   rw[ents_yes _ he,List.length_cons,List.length_cons] at h;rw[List.cons_append,ents_yes _ he,ents_yes _ he,ih (by omega),List.cons_append]
  ·rw[ents_no _ (fun e he=>hy ⟨e,he⟩)] at h
   simp at h
theorem scan_cons (s:List Nat) (r:List (List Nat)):scan (s::r)=(Frm.parseH s).map fun g=>(g,ents g r):=rfl
def Pre (l:List (List Nat)) (st:Option (Nat×List bC)):Prop:=(l=[]∧st=none)∨∃s r g,l=s::r∧Frm.parseH s=some g∧(ents g r).length=r.length∧st=some (g,ents g r)
theorem pre_all {l:List (List Nat)} {st:Option (Nat×List bC)} (h:Pre l st):scan l=st:=by
 rcases h with ⟨rfl,rfl⟩|⟨s,r,g,rfl,hp,_,rfl⟩
 ·rfl
 ·rw[scan_cons,hp];rfl
theorem pre_head {x:List Nat} {g:Nat} (h:Frm.parseH x=some g):Pre ([]++[x]) (some (g,[])):=.inr ⟨x,[],g,rfl,h,rfl,rfl⟩
theorem pre_bad {x:List Nat} (h:Frm.parseH x=none) (t:List (List Nat)):scan (([]++[x])++t)=none:=by
 simp only[List.nil_append,List.singleton_append];rw[scan_cons,h];rfl
theorem pre_next {l:List (List Nat)} {x:List Nat} {g:Nat} {es:List bC} {e:bC} (h:Pre l (some (g,es))) (hx:Frm.parseE x=some (g,e)):Pre (l++[x]) (some (g,es++[e])):=by
 rcases h with ⟨_,h⟩|⟨s,r,g',rfl,hp,hl,he⟩
 ·cases h
 ·cases he
  have e1:ents g (r++[x])=ents g r++[e]:=by rw[ents_full _ _ hl,ents_yes _ hx];rfl
  exact .inr ⟨s,r++[x],g,rfl,hp,by rw[e1,List.length_append,List.length_append,hl,List.length_singleton,List.length_singleton],by rw[e1]⟩
theorem pre_stop {l:List (List Nat)} {x:List Nat} {g:Nat} {es:List bC} (h:Pre l (some (g,es))) (hx:∀e,Frm.parseE x≠some (g,e)) (t:List (List Nat)):scan ((l++[x])++t)=some (g,es):=by
 rcases h with ⟨_,h⟩|⟨s,r,g',rfl,hp,hl,he⟩
 ·cases h
 ·cases he
  rw[List.append_assoc,List.cons_append];rw[scan_cons,hp,Option.map_some,ents_full _ _ hl,List.singleton_append,ents_no _ hx,List.append_nil]
theorem pre_len {l:List (List Nat)} {st:Option (Nat×List bC)} (h:Pre l st):∀x,st=some x→x.2.length+1=l.length:=by
 rcases h with ⟨rfl,rfl⟩|⟨s,r,g,rfl,hp,hl,rfl⟩
 ·intro x h;cases h
 ·intro x h;cases h;rw[hl];rfl
def wr (D:Dsk.D) (f g:Nat):List bC→Dsk.D×Nat
 |[]=>(D,0)
 |e::r=>if (Dsk.write D f (Frm.entry g e)).2=0 then wr (Dsk.write D f (Frm.entry g e)).1 (f+1) g r else Dsk.write D f (Frm.entry g e)
def fill (D:Dsk.D) (f n g:Nat) (l:List bC):Dsk.D×Nat:=
 if n - 1<l.length then (D,13) else if (wr D (f+1) g l).2=0 then Dsk.sync (wr D (f+1) g l).1 else wr D (f+1) g l
end Slt
structure Lg.L where
 half:Nat
 side:Nat
 last:Nat
 gen:Nat
 count:Nat
 broken:Bool
namespace Lg
def room (l:Lg.L):Nat:=l.half - 1
def tagN (D:Dsk.D) (n:Nat):Nat:=(List.range n).foldl (fun m i=>max m (Frm.tag (Dsk.read D i))) 0
def last (D:Dsk.D):Nat:=tagN D D.sec.length
def scanS (D:Dsk.D) (s:Nat):Option (Nat×List bC):=Slt.scan (Slt.secs D (s*(D.sec.length / 2)) (D.sec.length / 2))
def find (D:Dsk.D):Option (Nat×Nat×List bC):=match scanS D 0,scanS D 1 with
 |none,none=>none
 |some x,none=>some (0,x.1,x.2)
 |none,some y=>some (1,y.1,y.2)
 |some x,some y=>if y.1≤x.1 then some (0,x.1,x.2) else some (1,y.1,y.2)
def open1 (D:Dsk.D):Dsk.D×(Nat ⊕ (Lg.L×List bC)):=match find D with
 |some (s,g,es)=>(D,.inr (⟨D.sec.length / 2,s,last D,g,es.length,false⟩,es))
 |none=>if last D=4294967295 then (D,.inl 13) else
  if (Slt.commit D 0 (last D+1)).2=0 then ((Slt.commit D 0 (last D+1)).1,.inr (⟨D.sec.length / 2,0,last D,last D+1,0,false⟩,[])) else ((Slt.commit D 0 (last D+1)).1,.inl (Slt.commit D 0 (last D+1)).2)
def opn (D:Dsk.D):Dsk.D×(Nat ⊕ (Lg.L×List bC)):=
 if D.sec.length<2 then (D,.inl 15) else if (Dsk.sync D).2=0 then open1 (Dsk.sync D).1 else ((Dsk.sync D).1,.inl (Dsk.sync D).2)
def note (l:Lg.L) (c:Nat):Lg.L:={ l with broken:=l.broken||(c==11||c==12)}
def append (D:Dsk.D) (l:Lg.L) (e:bC):Dsk.D×Lg.L×Nat:=
 if l.broken then (D,l,11) else
 if (Slt.wrsy D (l.side*l.half+(l.count+1)) (Frm.entry l.gen e)).2=0 then ((Slt.wrsy D (l.side*l.half+(l.count+1)) (Frm.entry l.gen e)).1,{ l with count:=l.count+1},0) else
 ((Slt.wrsy D (l.side*l.half+(l.count+1)) (Frm.entry l.gen e)).1,note l (Slt.wrsy D (l.side*l.half+(l.count+1)) (Frm.entry l.gen e)).2,(Slt.wrsy D (l.side*l.half+(l.count+1)) (Frm.entry l.gen e)).2)
def rewrite2 (D:Dsk.D) (l:Lg.L) (es:List bC) (g:Nat):Dsk.D×Lg.L×Nat:=
 if (Slt.fill D ((1 - l.side)*l.half) l.half g es).2≠0 then ((Slt.fill D ((1 - l.side)*l.half) l.half g es).1,note l (Slt.fill D ((1 - l.side)*l.half) l.half g es).2,(Slt.fill D ((1 - l.side)*l.half) l.half g es).2) else
 if (Slt.commit (Slt.fill D ((1 - l.side)*l.half) l.half g es).1 ((1 - l.side)*l.half) g).2≠0 then
  ((Slt.commit (Slt.fill D ((1 - l.side)*l.half) l.half g es).1 ((1 - l.side)*l.half) g).1,note l (Slt.commit (Slt.fill D ((1 - l.side)*l.half) l.half g es).1 ((1 - l.side)*l.half) g).2,(Slt.commit (Slt.fill D ((1 - l.side)*l.half) l.half g es).1 ((1 - l.side)*l.half) g).2) else
 ((Slt.commit (Slt.fill D ((1 - l.side)*l.half) l.half g es).1 ((1 - l.side)*l.half) g).1,{ l with side:=1 - l.side,gen:=g,count:=es.length},0)
def rewrite (D:Dsk.D) (l:Lg.L) (es:List bC):Dsk.D×Lg.L×Nat:=
 if l.broken then (D,l,11) else if max l.last l.gen=4294967295 then (D,l,13) else rewrite2 D l es (max l.last l.gen+1)
end Lg
structure Ca.C where
 log:Lg.L
 idx:List bC
 till:Int
namespace Ca
def opn (D:Dsk.D) (skew now:Int):Dsk.D×(Nat ⊕ Ca.C):=((Lg.opn D).1,match (Lg.opn D).2 with
 | .inl c=>.inl c
 | .inr x=>.inr ⟨x.1,Idx.live (Idx.of x.2) now,now+skew⟩)
def compact (D:Dsk.D) (c:Ca.C) (now:Int):Dsk.D×Ca.C×Nat:=
 ((Lg.rewrite D c.log (Idx.live c.idx now)).1,⟨(Lg.rewrite D c.log (Idx.live c.idx now)).2.1,if (Lg.rewrite D c.log (Idx.live c.idx now)).2.2=0 then Idx.live c.idx now else c.idx,c.till⟩,(Lg.rewrite D c.log (Idx.live c.idx now)).2.2)
def answer (c:Nat):Nat:=if c=12 then 0 else 9
def insert2 (D:Dsk.D) (c:Ca.C) (e:bC):Dsk.D×Ca.C×Nat:=
 if Lg.room c.log≤c.log.count then (D,c,9) else
 ((Lg.append D c.log e).1,⟨(Lg.append D c.log e).2.1,if (Lg.append D c.log e).2.2=0 then Idx.put c.idx e else c.idx,c.till⟩,if (Lg.append D c.log e).2.2=0 then 10 else answer (Lg.append D c.log e).2.2)
def insert (D:Dsk.D) (c:Ca.C) (e:bC) (now:Int):Dsk.D×Ca.C×Nat:=
 if Idx.has c.idx e.dig now then (D,c,8) else
 if c.log.broken|| !Frm.right e then (D,c,9) else
 if Lg.room c.log≤c.log.count then
  (if (compact D c now).2.2=0 then insert2 (compact D c now).1 (compact D c now).2.1 e else ((compact D c now).1,(compact D c now).2.1,answer (compact D c now).2.2))
 else insert2 D c e
end Ca
end Go.Proofs.YtcoolgnlhheaiaaGreatDoor
