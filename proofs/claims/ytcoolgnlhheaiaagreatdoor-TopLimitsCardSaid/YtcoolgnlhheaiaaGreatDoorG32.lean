import Derived.Test.YtcoolgnlhheaiaaGreatDoorG20
import Derived.Test.YtcoolgnlhheaiaaGreatDoorG27
namespace Go.Proofs.YtcoolgnlhheaiaaGreatDoor
open Go.RowKit Go.Deep Go.Maps Go.ChangeMaps Go.MapKept Go.WideShapes
set_option linter.all false
set_option maxRecDepth 100000
set_option maxHeartbeats 4000000
theorem aD5 (i bx:Nat) (v:Value) (cs:List Int) (S:Nat→Prop) (w:World) (hb:Hb w bx #[v] 40) (hv:Iv w v cs S) (hi:i<1000000000):
 Calls Tryz.prog 108 #[.int .i64 (i:Int),.pointer (some ⟨bx,0,none⟩)] w fun e w'=>e= .returned (.int .i64 (cs.getD i 0))∧w=w':=by
 have c0:=hb.cell (i:=0) rfl;obtain⟨hl,a,c,rfl,hh⟩:=hv;clear hb
 by_cases hlt:i<cs.length
 ·rcases hh with rfl|⟨g,o,rfl,_,_,hc⟩
  ·simp at hlt
  have c1:=hc i cs[i] (List.getElem?_eq_getElem hlt);have hR:=aD (show cs.getD i 0=cs[i] by simp[List.getD,hlt]);rw[hR.out];clear hc hR;generalize cs[i]=z at*;generalize cs.length=L at*;go_enter Tryz.func108,Tryz.ntmps108;go_wp2
  all_goals first|omega|skip
  go_ret;exact⟨rfl,rfl⟩
 ·have hR:=aD (show cs.getD i 0=0 by simp[List.getD,List.getElem?_eq_none (Nat.le_of_not_lt hlt)])
  rw[hR.out];clear hR hh;generalize cs.length=L at*;go_enter Tryz.func108,Tryz.ntmps108;go_wp2
  all_goals first|omega|skip
  go_ret;exact⟨rfl,rfl⟩
def Dsk.tornN (sec:List (List Nat)) (l:List (Nat×List Nat)) (cuts:List Int) (n:Nat):List (List Nat):=
 (List.range n).foldl (fun sec i=>let x:=l[i]?.getD (0,[]);sec.set x.1 ((List.range 64).map (Dsk.tear (fun j=>(sec.getD x.1 []).getD j 0) (fun j=>x.2.getD j 0) (Dsk.cutN (cuts.getD i 0))))) sec
theorem Dsk.tornN_all (sec:List (List Nat)) (l:List (Nat×List Nat)) (cuts:List Int):Dsk.tornN sec l cuts l.length=Dsk.tornS sec l cuts:=rfl
theorem Dsk.tornN_succ (sec:List (List Nat)) (l:List (Nat×List Nat)) (cuts:List Int) (n:Nat) {y:Nat×List Nat} (hy:l[n]? =some y):Dsk.tornN sec l cuts (n+1)=(Dsk.tornN sec l cuts n).set y.1 ((List.range 64).map (Dsk.tear (aT ((Dsk.tornN sec l cuts n).getD y.1 [])) (aT y.2) (Dsk.cutN (cuts.getD n 0)))):=by
 unfold Dsk.tornN;rw[show List.range (n+1)=List.range n++[n] from List.range_succ,List.foldl_append,List.foldl_cons,List.foldl_nil,hy];rfl
theorem Dsk.tornN_len (sec:List (List Nat)) (l:List (Nat×List Nat)) (cuts:List Int):∀n,(Dsk.tornN sec l cuts n).length=sec.length
 |0=>rfl
 |n+1=>by
  have ih:=Dsk.tornN_len sec l cuts n;unfold Dsk.tornN at ih ⊢;rw[show List.range (n+1)=List.range n++[n] from List.range_succ,List.foldl_append,List.foldl_cons,List.foldl_nil,List.length_set,ih]
theorem aIO (o:Oper) (a:Act) (w:World) (i j:Operand) (g M c x:Nat) (hx:x<M) (ho:o.op= .indexAddr 83 i j) (hi:a.eval i= .slice (some ⟨g,0,none⟩) M c) (hj:a.eval j= .int .i64 (x:Int)):
 (execOp a.eval o).run Tryz.prog w= .ok (.value (.pointer (some ⟨g,x*64,none⟩))) w:=by
 have hs:(sizeOf (Tryz.prog.elem 83)).run Tryz.prog w= .ok 64 w:=by kernel_rfl
 unfold execOp;simp only[ho,hi,hj];have hz:(x:Int).toNat=x:=by omega
 have h1:(x:Int)<(M:Int):=by omega
 go_simp
theorem aEE (vs vo v:Value) (bx:Nat) (sec:List (List Nat)) (ows:List (Nat×List Nat)) (cs:List Int) (S:Nat→Prop) (w:World) (hs:RowOf w 0 191 64 vs (sec.map dX)) (ho:RowOf w 0 275 65 vo (ows.map sG)) (hb:Hb w bx #[v] 40) (hv:Iv w v cs S)
 (hr:sec.length≤4096) (hn:ows.length<1000000000) (hok:∀x∈ows,x.1<sec.length∧Frm.okS x.2):
 Calls Tryz.prog 107 #[vs,vo,.func (.func 108) #[] #[.pointer (some ⟨bx,0,none⟩)]] w fun e w'=>∃v',e= .returned v'∧RowOf w' w.heap.size 191 64 v' ((Dsk.tornS sec ows cs).map dX)∧Below w.heap.size w w':=by
 have hcl:=zE vs (sec.map dX) w hs (by simp;omega);obtain⟨op,ocap,hvo⟩:=ho.form;rw[List.length_map] at hvo;subst hvo;have HO:=aD ho;have HB:=aD (aQ hb hv);have HOK:=aD hok;clear hs ho hb hv hok;generalize hL:ows.length=L at*;go_enter Tryz.func107,Tryz.ntmps107;go_upto_region 3 with (go_at_call 156;refine hcl.mono ?_;rintro e w1 ⟨v1,rfl,r1,b1⟩);have hT0:Dsk.tornN sec ows cs 0=sec:=rfl;have R0:=aD r1;have B0:=aD b1;clear r1 b1 hcl;obtain⟨V,hV⟩:∃V,V=w1:=⟨_,rfl⟩;rw[←hV];have HV:=aD hV;clear hV
 go_loopw [14] (fun x wr=>∃k:Nat,k≤L∧x= .int .i64 k∧RowOf wr w.heap.size 191 64 v1 ((Dsk.tornN sec ows cs k).map dX)∧Below w.heap.size w wr) (fun x _=>L - (intOf x).toNat)
 case atStart=>exact⟨0,by omega,rfl,by rw[HV.out];exact R0.out,by rw[HV.out];exact B0.out⟩
 case round=>
  obtain⟨k,hk,rfl,hrow,hbel⟩:=hrel;have R1:=aD hrow;have B1:=aD hbel;clear hrow hbel
  by_cases hlt:k<L
  ·obtain⟨y,hy⟩:∃y,ows[k]? =some y:=⟨_,List.getElem?_eq_getElem (by omega)⟩
   obtain⟨hy1,hy2⟩:=HOK.out y (List.mem_of_getElem? hy);have ho2:RowOf wr 0 275 65 (.slice op L ocap) (ows.map sG):=HO.out.of_block fun g hg=>B1.out.block g (HO.out.lt hg).2
   obtain⟨og,ocap',hop,_,hogl⟩:=ho2.pos (by simp;omega);obtain⟨rfl,-,rfl⟩:op=some ⟨og,0,none⟩∧L=_∧ocap=ocap':=by simpa using hop
   have hrg:=ho2.range (g:=og) rfl (i:=k) (x:=sG y) (by rw[List.getElem?_map,hy];rfl);have hkz:(k:Int).toNat=k:=by omega
   have hcw:=yA y.1 y.2;have hws:=eP y.1 y.2;have hrg':wr.rangeAt og (k*65) (iH y.1 y.2).toList:=by rw[←hcw];exact hrg
   have hone:(iH y.1 y.2).all (·.oneCell')=true:=by
    rw[←hcw];exact all_oneCell_toArray (rO y)
   have HYY:=aD (aQ hy (aQ hy1 hy2));clear hrg hcw hop ho2 hy hy2;have gr9:=aG (aE wr none) (.cells (iH 0 (List.replicate 64 0)) 275);have hz9:(#[.int .i64 0]++aH .u8 64 (fun _=>0):Array Value).size=65:=by rw[Array.size_append,aA];rfl
   go_upto_region 5 with (first
    |refine wpList_load_mid rfl 275 _ rfl og (k*65) rfl (iH y.1 y.2).toList _ hrg' rfl rfl (by rw[Array.length_toList,eP];rfl) ?_
    |refine wpList_store_rowTo rfl _ _ _ rfl rfl wr.heap.size _ rfl rfl _ _ (Hb.new wr _ _) (by rw[eP];rfl) (by rw[eP];rfl) hone ?_)
   all_goals first|omega|skip
   have z9:=(Hb.new wr Tryz.zeroCells275 275).row (iH y.1 y.2);have g9:=aO (aG (aE wr none) (.cells Tryz.zeroCells275 275)) z9.2 (Nat.le_refl _);have hb9:=z9.1;clear z9 gr9 hrg';generalize (wr.alloc (.cells Tryz.zeroCells275 275)).setRow wr.heap.size (iH y.1 y.2)=U9 at*;have R9:=aD (R1.out.of_block (w':=U9) fun g hg=>g9.block g (R1.out.lt hg).2 (by simp));have B9:=aD (Below.trans B1.out (aB (a:=wr) g9 |>.mono B1.out.size));have hTl:=Dsk.tornN_len sec ows cs k;obtain⟨g1,cap1,hv1,hg1,hg1l⟩:=R9.out.pos (by rw[List.length_map,hTl];omega);rw[List.length_map,hTl] at hv1;subst hv1;obtain⟨M,hM⟩:∃M,M=sec.length:=⟨_,rfl⟩;rw[←hM] at hy1 hr ⊢;have c0:U9.cell? ⟨wr.heap.size,0,none⟩=some (.int .i64 (y.1:Int)):=hb9.cell (by unfold iH;rw[Array.getElem?_append_left (by simp)];rfl);obtain⟨y1,hyy⟩:∃y1,y1=y.1:=⟨_,rfl⟩;rw[←hyy] at c0 hy1;have HY:=aD hyy;clear hyy;have HM:=aD hM;clear hM;have BX:=aD hb9;clear hb9;go_upto_region 6 with fail
   all_goals first|omega|skip
   obtain⟨sc,hsc⟩:∃sc,(Dsk.tornN sec ows cs k)[y1]? =some sc:=⟨_,List.getElem?_eq_getElem (by rw[hTl,←HM.out];exact hy1)⟩;have hr36:=R9.out.range (g:=g1) rfl (i:=y1) (x:=dX sc) (by rw[List.getElem?_map,hsc];rfl);have C1:=aD (show ∀j v,(aH .u8 64 (aT sc))[j]? =some v→(U9.drewN 1).cell? ((⟨g1,y1*64,none⟩:Addr).add j)=some v from fun j v hj=>by rw[Addr.add_mid];exact hr36 j v (by unfold dX;rw[Array.getElem?_toList];exact hj))
   have C2:=aD (show ∀j v,(aH .u8 64 (aT y.2))[j]? =some v→(U9.drewN 1).cell? ((⟨wr.heap.size,1,none⟩:Addr).add j)=some v from fun j v hj=>by
    rw[Addr.add_mid];refine BX.out.cell (i:=1+j) ?_;unfold iH;rw[Array.getElem?_append_right (by simp)]
    simpa using hj)
   have HSC:=aD hsc;clear hr36 hsc;have hyz:(y1:Int).toNat=y1:=by omega
   have cw:∀w':World,Hb w' wr.heap.size (iH y.1 y.2) 275→w'.cell? ⟨wr.heap.size,0,none⟩=some (.int .i64 (y1:Int)):=fun w' h=>by
    rw[HY.out];exact h.cell (by unfold iH;rw[Array.getElem?_append_left (by simp)];rfl)
   have cd:∀w':World,Hb w' wr.heap.size (iH y.1 y.2) 275→∀j v,(aH .u8 64 (aT y.2))[j]? =some v→w'.cell? ((⟨wr.heap.size,1,none⟩:Addr).add j)=some v:=fun w' h j v hj=>by
    rw[Addr.add_mid];refine h.cell (i:=1+j) ?_;unfold iH;rw[Array.getElem?_append_right (by simp)]
    simpa using hj
   have hbU:Hb (U9.drewN 1) wr.heap.size (iH y.1 y.2) 275:=BX.out;have R10:Hid (RowOf (U9.drewN 1) w.heap.size 191 64 (.slice (some ⟨g1,0,none⟩) sec.length cap1) ((Dsk.tornN sec ows cs k).map dX)):=aD (R9.out.of_block fun _ _=>rfl);have B10:Hid (Below w.heap.size w (U9.drewN 1)):=aD (aU B9.out 1);clear C2 BX R9 B9 c0;refine bO Tryz.f107 6 16 (fun w'=>Hb w' wr.heap.size (iH y.1 y.2) 275) (by kernel_rfl) (by kernel_rfl) (by kernel_rfl) hbU (fun K hK h0=>?_);refine aW (listed':=#[false,false,false,false,false,false,false,false,false,false,false,false,false,false,false,false]) (by kernel_rfl) rfl ?_;have HF:=aD hK;clear hK;generalize U9.drewN 1=U at*;refine aX 0 29 (Value.slice (some ⟨g1,0,none⟩) M cap1) (fun _ _=>by kernel_rfl) h0 ?_;simp only[Act.put,aJ,aK,aI];refine aX 1 30 (Value.pointer (some ⟨wr.heap.size,0,none⟩)) (fun _ _=>by kernel_rfl) h0 ?_;simp only[Act.put,aJ,aK,aI];refine bD 2 31 (by kernel_rfl) 3 (.tmp 30) (by kernel_rfl) ⟨wr.heap.size,0,none⟩ (by kernel_rfl) (.int .i64 (y1:Int)) _ (fun w' hw'=>cw w' hw') Tryz.underlying3 rfl h0 ?_;simp only[Act.put,aJ,aK,aI];refine aX 3 32 (Value.slice (some ⟨g1,0,none⟩) M cap1) (fun _ _=>by kernel_rfl) h0 ?_;simp only[Act.put,aJ,aK,aI];refine aX 4 33 (Value.pointer (some ⟨wr.heap.size,0,none⟩)) (fun _ _=>by kernel_rfl) h0 ?_;simp only[Act.put,aJ,aK,aI];refine bD 5 34 (by kernel_rfl) 3 (.tmp 33) (by kernel_rfl) ⟨wr.heap.size,0,none⟩ (by kernel_rfl) (.int .i64 (y1:Int)) _ (fun w' hw'=>cw w' hw') Tryz.underlying3 rfl h0 ?_;simp only[Act.put,aJ,aK,aI];refine aX 6 35 (Value.pointer (some ⟨g1,y1*64,none⟩)) (fun w' _=>aIO _ _ w' (.tmp 32) (.tmp 34) g1 M cap1 y1 hy1 (by kernel_rfl) (by kernel_rfl) (by kernel_rfl)) h0 ?_;simp only[Act.put,aJ,aK,aI];refine aX 8 37 (Value.pointer (some ⟨wr.heap.size,1,none⟩)) (fun _ _=>by kernel_rfl) h0 ?_;simp only[Act.put,aJ,aK,aI];refine bG 9 38 (by kernel_rfl) 191 (.tmp 37) (by kernel_rfl) ⟨wr.heap.size,1,none⟩ (by kernel_rfl) (aH .u8 64 (aT y.2)) _ (fun w' hw'=>cd w' hw') Tryz.underlying191 rfl (by rw[aA];rfl) h0 ?_;simp only[Act.put,aJ,aK,aI];refine aX 10 39 (Value.func (.func 108) #[] #[.pointer (some ⟨bx,0,none⟩)]) (fun _ _=>by kernel_rfl) h0 ?_;simp only[Act.put,aJ,aK,aI];refine aX 11 40 (Value.int .i64 (k:Int)) (fun _ _=>by kernel_rfl) h0 ?_;simp only[Act.put,aJ,aK,aI];have hcl:=aD5 k bx v cs S U ((B10.out.block bx (Hb.lt HB.out.1)).trans HB.out.1) (HB.out.2.keep B10.out.size fun g hg _=>B10.out.block g hg) (by omega);refine fA (α:=Unit) 3 #[true,true,true,true,true,true,true,true,true,true,true,true,true,false,false,false] (fun a _=>(a.put (some 36) (.agg (aH .u8 64 (aT sc)))).put (some 41) (.int .i64 (cs.getD k 0))) (fun _ w'=>w'=U) (fun _ w' hc=>?_) (fun CUT=>?_)
   ·obtain rfl:=hc
    simp only[Act.put,aJ,aK,aI];refine bE 13 42 157 #[.agg (aH .u8 64 (aT sc)),.agg (aH .u8 64 (aT y.2)),.int .i64 (cs.getD k 0)] (by kernel_rfl) (by kernel_rfl) ?_;refine(aEV (aT sc) (aT y.2) (cs.getD k 0) w' (aJ9 HYY.out.2.2.2)).mono ?_;rintro e w5 ⟨rfl,g5⟩;have h5:=h0.only g5;refine⟨_,rfl,h5,?_⟩;simp only[Act.put,aJ,aK,aI];refine aX 14 43 (Value.pointer (some ⟨g1,y1*64,none⟩)) (fun w' _=>aIO _ _ w' (.tmp 29) (.tmp 31) g1 M cap1 y1 hy1 (by kernel_rfl) (by kernel_rfl) (by kernel_rfl)) h5 ?_;simp only[Act.put,aJ,aK,aI];have r5:=R10.out.of_block (w':=w5) fun g hg=>g5.block g (R10.out.lt hg).2 (by simp)
    have hth:w5.there g1 (y1*64) 64:=by
     have:=r5.there (g:=g1) rfl (i:=y1) (x:=dX sc) (by rw[List.getElem?_map,HSC.out];rfl);exact this
    have hdd:(opn (iJ Tryz.f107 6) 15).dst=none:=by kernel_rfl
    have hset:=r5.set (g:=g1) rfl (i:=y1) (by rw[List.length_map,hTl,←HM.out];exact hy1) (x:=(aH .u8 64 (Dsk.tear (aT sc) (aT y.2) (Dsk.cutN (cs.getD k 0)))).toList) (by rw[Array.length_toList,aA]) (fun u hu=>Array.all_eq_true_iff_forall_mem.1 (aL .u8 64 _) u (by simpa using hu));have gset:=dZ (aH .u8 64 (Dsk.tear (aT sc) (aT y.2) (Dsk.cutN (cs.getD k 0)))).toList w5 g1 (y1*64);have hne1:wr.heap.size≠g1:=by
     rintro e;obtain⟨c',hc'⟩:=r5.type (g:=g1) rfl;have e2:=(e▸h5:Hb w5 g1 _ _).symm.trans hc';simp only[Option.some.injEq,Obj.cells.injEq] at e2;exact absurd e2.2.1 (by decide)
    have h6:Hb (w5.setCells g1 (y1*64) (aH .u8 64 (Dsk.tear (aT sc) (aT y.2) (Dsk.cutN (cs.getD k 0)))).toList) wr.heap.size (iH y.1 y.2) 275:=h5.keep gset (by simpa using hne1);refine aR 15 (by kernel_rfl) (by kernel_rfl) (HStep.of_law #[] (by kernel_rfl) fun K' hK'=>?_);refine wpList_store_mid rfl 191 (.tmp 43) (.tmp 42) (by kernel_rfl) g1 (y1*64) (aH .u8 64 (Dsk.tear (aT sc) (aT y.2) (Dsk.cutN (cs.getD k 0)))) (by kernel_rfl) (by kernel_rfl) (by rw[aA];exact hth) (by rw[aA];rfl) (aL _ _ _) ?_;rw[hdd];refine bH (hK' _ _ h6 ?_);simp only[Act.put,aJ,aK,aI];refine aZ (by kernel_rfl) (HF.out _ _ ?_);have hfin:(((Dsk.tornN sec ows cs k).map dX).set y1 (aH .u8 64 (Dsk.tear (aT sc) (aT y.2) (Dsk.cutN (cs.getD k 0)))).toList)=(Dsk.tornN sec ows cs (k+1)).map dX:=by
     have e:=Dsk.tornN_succ sec ows cs k HYY.out.1;rw[e,←HY.out,List.map_set];congr 1;unfold dX;congr 1;refine dS _ _ _ _ fun i hi=>?_
     unfold aT;rw[List.getD_eq_getElem?_getD (l:=List.map _ _),List.getElem?_map,List.getElem?_range hi];simp only[Option.map_some,Option.getD_some];rw[show(Dsk.tornN sec ows cs k).getD y1 []=sc by simp[List.getD,HSC.out]]
    rw[hfin] at hset;have B11:=aD (aP (aP B10.out (Nat.le_refl _) g5 (by simp)) (Nat.le_refl _) gset (fun g hg=>by cases hg;exact hg1));have HST:=aD hset;clear hset gset hth r5 R10 B10 h6 h5 hfin cw cd hcl HF;generalize w5.setCells g1 (y1*64) (aH .u8 64 (Dsk.tear (aT sc) (aT y.2) (Dsk.cutN (cs.getD k 0)))).toList=U12 at*;obtain rfl:=HM.out;go_wp2_with fail
    all_goals first|omega|skip
    go_roundw
    case rel=>exact⟨k+1,by omega,by go_num,HST.out,B11.out⟩
    case measure=>simp[intOf];omega
   ·simp only[Act.put,aJ,aK,aI] at CUT
    refine cU 7 12 (by kernel_rfl) (by kernel_rfl) ?_ ?_
    ·refine HStep.value (some 36) (by kernel_rfl) (by kernel_rfl) (.agg (aH .u8 64 (aT sc))) U ?_ h0 ?_
     ·have e:(opn (iJ Tryz.f107 6) 7).op= .load 191 (.tmp 35):=by kernel_rfl
      unfold execOp;simp only[e,Act.eval,Array.getD_eq_getD_getElem?,List.getElem?_toArray,List.getElem?_cons_succ,List.getElem?_cons_zero,Option.getD_some,Instr.loadAt,Instr.sureAddr,Sem.run_bind,Sem.run_pure,Result.andThen_ok,cS U ⟨g1,y1*64,none⟩ 191 (aH .u8 64 (aT sc)) _ C1.out Tryz.underlying191 rfl (by rw[aA];rfl)]
     simp only[Act.put,aJ,aK,aI];refine bE 12 41 108 #[.int .i64 (k:Int),.pointer (some ⟨bx,0,none⟩)] (by kernel_rfl) (by kernel_rfl) ?_;refine hcl.mono ?_;rintro e w5 ⟨rfl,rfl⟩;refine⟨_,rfl,h0,?_⟩;simp only[Act.put,aJ,aK,aI];exact CUT () _ rfl
    ·refine HStep.call (some 41) (by kernel_rfl) (by kernel_rfl) 108 #[.int .i64 (k:Int),.pointer (some ⟨bx,0,none⟩)] (by kernel_rfl) ?_
     refine hcl.mono ?_;rintro e w5 ⟨rfl,rfl⟩;refine⟨_,rfl,h0,?_⟩;simp only[Act.put,aJ,aK,aI];refine aR 7 (by kernel_rfl) (by kernel_rfl) (HStep.value (some 36) (by kernel_rfl) (by kernel_rfl) (.agg (aH .u8 64 (aT sc))) U ?_ h0 ?_)
     ·have e:(opn (iJ Tryz.f107 6) 7).op= .load 191 (.tmp 35):=by kernel_rfl
      unfold execOp;simp only[e,Act.eval,Array.getD_eq_getD_getElem?,List.getElem?_toArray,List.getElem?_cons_succ,List.getElem?_cons_zero,Option.getD_some,Instr.loadAt,Instr.sureAddr,Sem.run_bind,Sem.run_pure,Result.andThen_ok,cS U ⟨g1,y1*64,none⟩ 191 (aH .u8 64 (aT sc)) _ C1.out Tryz.underlying191 rfl (by rw[aA];rfl)]
     simp only[Act.put,aJ,aK,aI];exact CUT () _ rfl
  ·obtain rfl:k=L:=by omega
   go_wp2_with fail
   all_goals first|omega|skip
   go_ret;exact⟨_,rfl,by rw[←Dsk.tornN_all,hL];exact R1.out,B1.out⟩
set_option linter.all false
theorem wV (vs vo v:Value) (sec:List (List Nat)) (ows:List (Nat×List Nat)) (cs:List Int) (S:Nat→Prop) (w:World) (hs:RowOf w 0 191 64 vs (sec.map dX)) (ho:RowOf w 0 275 65 vo (ows.map sG)) (hv:Iv w v cs S)
 (hr:sec.length≤4096) (hn:ows.length<1000000000) (hok:∀x∈ows,x.1<sec.length∧Frm.okS x.2):
 Calls Tryz.prog 73 #[vs,vo,v] w fun e w'=>∃v',e= .returned v'∧RowOf w' w.heap.size 191 64 v' ((Dsk.tornS sec ows cs).map dX)∧Below w.heap.size w w':=by
 have b0:=Hb.new w #[v] 40;have g0:=aG (aE w none) (.cells #[v] 40);have hs1:=hs.of_block (w':=w.alloc (.cells #[v] 40)) fun g hg=>g0.block g (hs.lt hg).2 (by simp)
 have ho1:=ho.of_block (w':=w.alloc (.cells #[v] 40)) fun g hg=>g0.block g (ho.lt hg).2 (by simp)
 have hv1:=hv.keep g0.size fun g hg _=>g0.block g hg (by simp)
 have hT:=aEE vs vo v w.heap.size sec ows cs S _ hs1 ho1 b0 hv1 hr hn hok;obtain⟨_,a,c,rfl,_⟩:=hv;clear hs ho hs1 ho1 hv1 hr hn hok b0;have hw1:(w.alloc (.cells #[.slice a cs.length c] 40)).heap.size=w.heap.size+1:=World.size_alloc _ _;go_enter Tryz.func73,Tryz.ntmps73;go_wp2_with (go_at_call 107;refine hT.mono ?_;rintro e w1 ⟨v1,rfl,r1,b1⟩);go_ret;exact⟨_,rfl,r1.mono (by omega),(aB g0).trans (b1.mono (by omega))⟩
theorem sW (sec:List (List Nat)) (l:List (Nat×List Nat)) (cuts:List Int) (hs:∀s∈sec,Frm.okS s) (hl:∀x∈l,x.1<sec.length∧Frm.okS x.2):∀n,n≤l.length→∀s∈Dsk.tornN sec l cuts n,Frm.okS s
 |0,_,s,h=>hs s h
 |n+1,hn,s,h=>by
  have ih:=sW sec l cuts hs hl n (by omega);rw[Dsk.tornN_succ sec l cuts n (List.getElem?_eq_getElem (by omega))] at h;rcases List.mem_or_eq_of_mem_set h with h'|rfl
  ·exact ih s h'
  ·refine⟨by simp,fun x hx=>?_⟩
   obtain⟨j,hj,rfl⟩:=List.mem_map.1 hx;have hy:=(hl l[n] (List.getElem_mem _)).2.2;have hlen:l[n].1<(Dsk.tornN sec l cuts n).length:=by rw[Dsk.tornN_len];exact(hl l[n] (List.getElem_mem _)).1
   have ho:=(ih _ (List.getElem_mem hlen)).2;unfold Dsk.tear;split
   ·exact hy.get j
   ·unfold aT
    rw[show(Dsk.tornN sec l cuts n).getD l[n].1 []=(Dsk.tornN sec l cuts n)[l[n].1] by simp[List.getD,hlen]];exact ho.get j
theorem Dsk.crashed_ok {D:Dsk.D} (h:Dsk.ok D) (cs:List Int):Dsk.ok (Dsk.crashed D cs):=by
 refine⟨fun s hs=>?_,by simp[Dsk.crashed],by simp[Dsk.crashed],h.steps,?_⟩
 ·exact sW D.sec D.opn cs h.sec h.opn D.opn.length (Nat.le_refl _) s hs
 ·show(Dsk.tornN D.sec D.opn cs D.opn.length).length≤_
  rw[Dsk.tornN_len];exact h.room
theorem nA (d:Nat) (b:Dsk.B) (D:Dsk.D) (v:Value) (cs:List Int) (S:Nat→Prop) (w:World) (h:Dk w d b D) (hv:Iv w v cs S) (hN:D.n<100000000):Calls Tryz.prog 41 #[.pointer (some ⟨d,0,none⟩),v] w (iM (.tuple #[]) d b (Dsk.crashed D cs) w):=by
 have hlen:=h.ok.len;have hC:=fun w' (hb:Below w.heap.size w w')=>wV b.vs b.vo v D.sec D.opn cs S w' ((h.below hb).sec) ((h.below hb).opn) (hv.keep hb.size fun g hg _=>hb.block g hg) h.ok.room (by omega) h.ok.opn
 obtain⟨_,a,c,rfl,_⟩:=hv;obtain⟨⟨c0,c1,_⟩,⟨f0,_⟩⟩:=cW h.blk;obtain⟨vo1,vo2,hvo⟩:=h.opn.form;obtain⟨vs1,vs2,hvs⟩:=h.sec.form;have H:=aD h;have HC:=aD hC;clear h hC;obtain⟨v,hv⟩:∃v,v=Value.slice a cs.length c:=⟨_,rfl⟩;rw[←hv] at HC ⊢;go_enter Tryz.func41,Tryz.ntmps41;go_upto_region 1 with fail;have c1':(w.drewN 1).cell? ⟨d,1,none⟩=some b.vo:=c1;have c0':(w.drewN 1).cell? ⟨d,0,none⟩=some b.vs:=c0;have f0':(w.drewN 1).frozen? ⟨d,0,none⟩=false:=f0;have BW:=aD (aU (Below.refl w.heap.size w) 1);refine bO Tryz.f41 1 14 (fun w'=>w'.cell? ⟨d,1,none⟩=some b.vo) (by kernel_rfl) (by kernel_rfl) (by kernel_rfl) c1' (fun K hK h0=>?_);refine aW (listed':=#[false,false,false,false,false,false,false,false,false,false,false,false,false,false]) (by kernel_rfl) rfl ?_;have HF:=aD hK;clear hK;clear c0 c1 f0;generalize w.drewN 1=U at*;refine aX 0 6 (Value.pointer (some ⟨d,0,none⟩)) (fun _ _=>by kernel_rfl) h0 ?_;simp only[Act.put,aJ,aK,aI];refine aX 1 7 (Value.pointer (some ⟨d,0,none⟩)) (fun _ _=>by kernel_rfl) h0 ?_;simp only[Act.put,aJ,aK,aI];refine aX 2 8 (Value.pointer (some ⟨d,0,none⟩)) (fun _ _=>by kernel_rfl) h0 ?_;simp only[Act.put,aJ,aK,aI];refine aX 3 9 (Value.pointer (some ⟨d,0,none⟩)) (fun _ _=>by kernel_rfl) h0 ?_;simp only[Act.put,aJ,aK,aI];refine aX 5 11 (Value.pointer (some ⟨d,0,none⟩)) (fun _ _=>by kernel_rfl) h0 ?_;simp only[Act.put,aJ,aK,aI];refine aX 6 12 (Value.pointer (some ⟨d,0,none⟩)) (fun _ _=>by kernel_rfl) h0 ?_;simp only[Act.put,aJ,aK,aI];refine aX 7 13 (Value.pointer (some ⟨d,1,none⟩)) (fun _ _=>by kernel_rfl) h0 ?_;simp only[Act.put,aJ,aK,aI];refine bD 8 14 (by kernel_rfl) 115 (.tmp 13) (by kernel_rfl) ⟨d,1,none⟩ (by kernel_rfl) b.vo _ (fun w' hw'=>hw') Tryz.underlying115 rfl h0 ?_;simp only[Act.put,aJ,aK,aI];refine aX 9 15 (v) (fun _ _=>by kernel_rfl) h0 ?_;simp only[Act.put,aJ,aK,aI];refine aR 4 (by kernel_rfl) (by kernel_rfl) (HStep.value (some 10) (by kernel_rfl) (by kernel_rfl) b.vs U ?_ h0 ?_)
 ·have e:(opn (iJ Tryz.f41 1) 4).op= .load 83 (.tmp 9):=by kernel_rfl
  unfold execOp;simp only[e,Act.eval,Array.getD_eq_getD_getElem?,List.getElem?_toArray,List.getElem?_cons_succ,List.getElem?_cons_zero,Option.getD_some];rw[Sem.run_bind,fB Tryz.underlying83 rfl c0'];rfl
 simp only[Act.put,aJ,aK,aI];refine bE 10 16 73 #[b.vs,b.vo,v] (by kernel_rfl) (by kernel_rfl) ?_;refine(HC.out U BW.out).mono ?_;rintro e w5 ⟨v5,rfl,r5,b5⟩;have dk5:=(H.out.below BW.out).below b5;obtain⟨⟨e0,e1,_⟩,⟨k0,_⟩⟩:=cW dk5.blk;refine⟨_,rfl,e1,?_⟩;simp only[Act.put,aJ,aK,aI];refine aX 11 17 (Value.pointer (some ⟨d,0,none⟩)) (fun _ _=>by kernel_rfl) e1 ?_;simp only[Act.put,aJ,aK,aI];refine aX 12 18 (Value.pointer (some ⟨d,0,none⟩)) (fun _ _=>by kernel_rfl) e1 ?_;simp only[Act.put,aJ,aK,aI];obtain⟨p5,q5,hv5⟩:=r5.form;have hd13:(opn (iJ Tryz.f41 1) 13).dst=none:=by kernel_rfl
 have e1':(w5.setCell ⟨d,0,none⟩ v5).cell? ⟨d,1,none⟩=some b.vo:=by rw[World.cell?_setCell_other _ _ _ _ (by simp)];exact e1
 refine aR 13 (by kernel_rfl) (by kernel_rfl) (HStep.of_law #[] (by kernel_rfl) fun K' hK'=>?_);refine pP rfl 83 (.tmp 18) (.tmp 16) (by kernel_rfl) d 0 (by kernel_rfl) v5 (by kernel_rfl) e0 k0 (by rw[hv5];rfl) (by kernel_rfl) ?_;rw[hd13];refine bH (hK' _ _ e1' ?_);simp only[Act.put,aJ,aK,aI];refine aZ (by kernel_rfl) (HF.out _ _ ?_);have ap:=H.out.apart;have hUz:=BW.out.size;have hk6:∀g,g<w.heap.size→g≠d→(w5.setCell ⟨d,0,none⟩ v5).heap[g]? =w.heap[g]? :=fun g h1 h2=>(heap_setCell_other w5 _ g v5 h2).trans ((b5.block g (by omega)).trans (BW.out.block g h1))
 have hz6:w.heap.size≤(w5.setCell ⟨d,0,none⟩ v5).heap.size:=by have:=b5.size;simp[World.setCell];omega
 have hn5:∀g,v5.ownBlock=some g→w.heap.size≤g:=fun g hg=>Nat.le_trans hUz (r5.lt hg).1
 have hd:=H.out.lt;have hFs:∀i,Dsk.B.F { b with vs:=v5} d i→b.F d i∨w.heap.size≤i:=fun i hi=>by
  rcases hi with h1|h1|h1
  ·exact .inl (.inl h1)
  ·exact .inr (hn5 i h1)
  ·exact .inl (.inr (.inr h1))
 have hck:=Dsk.crashed_ok H.out.ok cs;have dk6:Dk (w5.setCell ⟨d,0,none⟩ v5) d { b with vs:=v5} { D with sec:=Dsk.tornS D.sec D.opn cs}:=by
  have h:=H.out
  refine⟨⟨hck.sec,fun x hx=>⟨?_,(h.ok.opn x hx).2⟩,h.ok.len,h.ok.steps,hck.room⟩,heap_setCell_same w5 d 0 _ _ v5 dk5.blk,(r5.mono (Nat.zero_le _)).of_block fun g hg=>heap_setCell_other w5 _ g v5 (fun e=>by have:=hn5 g hg;have e':g=d:=e;omega),
   h.opn.of_block fun g hg=>hk6 g (h.opn.lt hg).2 (ap.2.1 g hg).1,h.last.of_block (hk6 _ h.last.lt (Ne.symm ap.2.2.1)),h.fails.of_block (hk6 _ h.fails.lt (Ne.symm ap.2.2.2.1)),h.crashes.of_block (hk6 _ h.crashes.lt (Ne.symm ap.2.2.2.2)),h.ne,fun k=>?_⟩
  ·show x.1<(Dsk.tornN D.sec D.opn cs D.opn.length).length
   rw[Dsk.tornN_len];exact(h.ok.opn x hx).1
  ·rcases h.cuts k with hx|⟨l,u,h1,h2,h3⟩
   ·exact .inl hx
   ·exact .inr ⟨l,u,h1,h2,((h3.mono (T:=fun g'=>¬b.F d g'∧¬Dsk.B.F { b with vs:=v5} d g') fun g' hg' hS=>⟨hS,fun hc=>(hFs g' hc).elim hS (by omega)⟩).keep hz6 fun g' hg' hS=>hk6 g' hg' fun e=>hS.1 (.inl e)).mono fun g' _ hS=>hS.2⟩
 have st6:Stp (b.F d) (Dsk.B.F { b with vs:=v5} d) w (w5.setCell ⟨d,0,none⟩ v5):=
  ⟨b5.os.trans BW.out.os,b5.tape.trans BW.out.tape,b5.output.trans BW.out.output,hz6,fun i hi hf=>hk6 i hi fun e=>hf (.inl e),hFs⟩
 have DK6:=aD dk6;have ST6:=aD st6;have hcl:=oB d _ _ _ dk6;clear dk6 st6 hk6 hz6 hn5 hFs hck dk5 b5 r5 e0 e1 k0 e1' HC HF h0 c0' f0' BW hUz ap;generalize w5.setCell ⟨d,0,none⟩ v5=W6 at*;go_upto_region 3 with (go_at_call 74;refine hcl.mono ?_;rintro e w7 ⟨rfl,b7,dk7,st7⟩);clear hcl;obtain⟨⟨_,_,_,c3,_⟩,⟨_,_,_,f3,_⟩⟩:=cW dk7.blk;have H7:=aD dk7;have S7:=aD st7;clear dk7 st7;go_wp2_with fail
 all_goals
  go_end0;have h:=H7.out;have ap:=h.apart;refine⟨rfl,b7,h.cell b7 3 (.bool true) rfl (fun g hg=>hg) ⟨h.ok.sec,h.ok.opn,h.ok.len,h.ok.steps,h.ok.room⟩ rfl rfl rfl rfl rfl ⟨rfl,rfl,rfl⟩ ?_ ?_,ST6.out.trans (S7.out.trans (Stp.cell w7 3 _ (.inl rfl)))⟩
  ·exact h.sec.of_block fun g hg=>heap_setCell_other w7 _ g _ (ap.1 g hg).1
  ·exact h.opn.of_block fun g hg=>heap_setCell_other w7 _ g _ (ap.2.1 g hg).1
set_option linter.all false
namespace Dsk
def write (D:Dsk.D) (x:Nat) (s:List Nat):Dsk.D×Nat:=
 if D.down then (D,12) else if fate D=2 then (crashed (added (stepped D) x s) (cuts D),12) else if fate D=1 then (stepped D,11) else (added (stepped D) x s,0)
def sync (D:Dsk.D):Dsk.D×Nat:=
 if D.down then (D,12) else if fate D=2 then (crashed (stepped D) (cuts D),12) else if fate D=1 then (stepped D,11) else (synced (stepped D),0)
theorem fate_le (D:Dsk.D):fate D=0∨fate D=1∨fate D=2:=by
 unfold fate
 by_cases h1:(D.crashes (D.steps+1:Nat)).isSome=true
 ·rw[if_pos h1];exact .inr (.inr rfl)
 ·rw[if_neg h1]
  by_cases h2:D.fails (D.steps+1:Nat)=true
  ·rw[if_pos h2];exact .inr (.inl rfl)
  ·rw[if_neg h2];exact .inl rfl
end Dsk
theorem Dk.fresh {w:World} {d:Nat} {b:Dsk.B} {D:Dsk.D} (h:Dk w d b D) {i:Nat} (hi:w.heap.size≤i):¬b.F d i:=fun hf=>by
 rcases hf with h1|h1|h1|h1|h1|h1
 ·have:=h.lt;omega
 ·have:=(h.sec.lt h1).2;omega
 ·have:=(h.opn.lt h1).2;omega
 ·have:=h.last.lt;omega
 ·have:=h.fails.lt;omega
 ·have:=h.crashes.lt;omega
theorem nZ (d:Nat) (b:Dsk.B) (D:Dsk.D) (x:Nat) (s:List Nat) (w:World) (h:Dk w d b D) (hx:x<D.sec.length) (hs:Frm.okS s) (hN:D.n<10000000):Calls Tryz.prog 197 #[.pointer (some ⟨d,0,none⟩),.int .i64 (x:Int),sv s] w (iM (iF (Dsk.write D x s).2) d b (Dsk.write D x s).1 w):=by
 have bx:=aN w 191 .u8 64 (aT s);have gx:=aG (aE w none) (.cells (aH .u8 64 (aT s)) 191);have hfr:=fun i (hi:w.heap.size≤i)=>h.fresh hi
 have hd:=h.below (aB gx);obtain⟨⟨_,_,_,c3,_⟩,_⟩:=cW hd.blk;have HD:=aD hd;have GX:=aD (Stp.of_only gx (b.F d));have hz:=aA .u8 64 (aT s);clear h hd gx
 cases hdn:D.down
 ·rw[hdn] at c3
  have hst:=fun W (hW:Dk W d b D)=>qM d b D W hW (by omega)
  unfold sv;rcases Dsk.fate_le D with hf|hf|hf
  ·have hw:Dsk.write D x s=(Dsk.added (Dsk.stepped D) x s,0):=by unfold Dsk.write;rw[hdn,hf];rfl
   rw[hw];go_enter Tryz.func197,Tryz.ntmps197;go_upto_region 3 with fail;generalize w.alloc (.cells (aH .u8 64 (aT s)) 191)=W at*;go_upto_region 11 with (go_at_call 193;refine(hst W HD.out).mono ?_;rintro e w3 ⟨v,rfl,hcut,cm,dk3,st3⟩;rw[hf]);have bx3:isArr w3 w.heap.size 191 .u8 64 (aT s):=(st3.keep _ (Hb.lt bx) (hfr _ (Nat.le_refl _))).trans bx;have hadd:=vK d { b with cm:=cm} (Dsk.stepped D) x s w3 dk3 hx hs (by show D.n+1<_;omega)
   go_wp2_with (first
    |refine wpList_load_row rfl _ _ rfl w.heap.size rfl _ _ (0,0) _ bx3 rfl rfl (by rw[aA];rfl) ?_
    |(go_at_call 244;refine hadd.mono ?_;rintro e w5 ⟨rfl,b5,dk5,st5⟩))
   go_ret;exact⟨rfl,b5,dk5,GX.out.trans (st3.trans st5)⟩
  ·have hw:Dsk.write D x s=(Dsk.stepped D,11):=by unfold Dsk.write;rw[hdn,hf];rfl
   rw[hw];go_enter Tryz.func197,Tryz.ntmps197;go_upto_region 3 with fail;generalize w.alloc (.cells (aH .u8 64 (aT s)) 191)=W at*;go_upto_region 10 with (go_at_call 193;refine(hst W HD.out).mono ?_;rintro e w3 ⟨v,rfl,hcut,cm,dk3,st3⟩;rw[hf]);go_wp2_with fail;go_ret;exact⟨rfl,_,dk3,GX.out.trans st3⟩
  ·have hw:Dsk.write D x s=(Dsk.crashed (Dsk.added (Dsk.stepped D) x s) (Dsk.cuts D),12):=by unfold Dsk.write;rw[hdn,hf];rfl
   rw[hw];go_enter Tryz.func197,Tryz.ntmps197;go_upto_region 3 with fail;generalize w.alloc (.cells (aH .u8 64 (aT s)) 191)=W at*;go_upto_region 6 with (go_at_call 193;refine(hst W HD.out).mono ?_;rintro e w3 ⟨v,rfl,hcut,cm,dk3,st3⟩;rw[hf]);have hiv:=hcut hf;have bx3:isArr w3 w.heap.size 191 .u8 64 (aT s):=(st3.keep _ (Hb.lt bx) (hfr _ (Nat.le_refl _))).trans bx;have hadd:=vK d { b with cm:=cm} (Dsk.stepped D) x s w3 dk3 hx hs (by show D.n+1<_;omega)
   go_upto_region 7 with (first
    |refine wpList_load_row rfl _ _ rfl w.heap.size rfl _ _ (0,0) _ bx3 rfl rfl (by rw[aA];rfl) ?_
    |(go_at_call 244;refine hadd.mono ?_;rintro e w5 ⟨rfl,b5,dk5,st5⟩))
   have hcr:=nA d b5 _ v (Dsk.cuts D) _ w5 dk5 (hiv.keep st5.size fun g hg hS=>st5.keep g hg hS) (by show D.n+1+1<_;omega);clear hadd bx3 hst;go_wp2_with (go_at_call 41;refine hcr.mono ?_;rintro e w6 ⟨rfl,b6,dk6,st6⟩);go_ret;exact⟨rfl,b6,dk6,GX.out.trans (st3.trans (st5.trans st6))⟩
 ·rw[hdn] at c3
  have hw:Dsk.write D x s=(D,12):=by unfold Dsk.write;rw[hdn];rfl
  rw[hw];unfold sv;go_enter Tryz.func197,Tryz.ntmps197;go_upto_region 2 with fail;generalize w.alloc (.cells (aH .u8 64 (aT s)) 191)=W at*;go_wp2_with fail;go_ret;exact⟨rfl,b,HD.out,GX.out⟩
end Go.Proofs.YtcoolgnlhheaiaaGreatDoor
