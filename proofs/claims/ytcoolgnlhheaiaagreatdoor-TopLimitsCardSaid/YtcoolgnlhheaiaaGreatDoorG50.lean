import Derived.Test.YtcoolgnlhheaiaaGreatDoorG49
namespace Go.Proofs.YtcoolgnlhheaiaaGreatDoor
open Go.RowKit Go.Deep Go.Maps Go.ChangeMaps Go.MapKept Go.WideShapes
set_option linter.all false
set_option maxRecDepth 100000
set_option maxHeartbeats 1000000
theorem Consts.lt {w:World} {K:Nat→Nat} (h:Consts w K):(0:Nat)<w.heap.size:=by
 have h1:=h 0 (by decide);rcases Nat.lt_or_ge 0 w.heap.size with h2|h2
 ·exact h2
 ·have h3:w.heap[(0:Nat)]? =none:=Array.getElem?_eq_none h2
  simp[World.cell?,h3] at h1
def aAW (os:List RunO) (S:Nat→RunS) (w:World) (e:Ending) (w':World):Prop:=
 ∃rv es,e= .returned (.tuple #[rv,.nilIface])∧RowOf w' w.heap.size 38 36 rv es∧es.length=os.length∧zB os S es∧Below w.heap.size w w'
theorem aDR (key:Nat→Nat) (os:List RunO) (lv:Value) (S:Nat→RunS) (w:World) (h:∀W,w.grownBy W none→Calls Tryz.prog 37 #[.agg (mP key 5 8),lv] W (sH os S W)):
 Calls Tryz.prog 10 #[.agg (mP key 5 8),lv] w (aAW os S w):=by
 have hb:=Hb.new w (mP key 5 8) 33;have gr:=aG (aE w none) (.cells (mP key 5 8) 33);have hcz:=d8 key 5 8;have hr:=h _ gr;unfold sH at hr;go_enter Tryz.func10,Tryz.ntmps10
 go_wp2_with (first
  |refine aS (by kernel_rfl) _ _ rfl w.heap.size rfl _ _ (0,0) _ hb rfl rfl (by rw[d8];kernel_rfl) ?_
  |(go_at_call 37;refine hr.mono ?_;clear hr;rintro e w2 ⟨rv,d,es,rfl,r2,h2,h3,b2⟩))
 go_ret2;exact⟨rv,es,rfl,r2.mono gr.size,h2,h3,(aB gr).trans (b2.mono gr.size)⟩
def mU:Kd:=⟨0,0,0,100,10,0,false,0⟩
def sE (dv:Value):List RunO:=[⟨2,0,.slice none 0 0,.slice none 0 0,64,0⟩,⟨1,10,.slice none 0 0,.slice none 0 0,63,0⟩,⟨3,0,dv,.slice none 0 0,65,10⟩,⟨3,0,dv,.slice none 0 0,65,8⟩]
def wkE:bC:=⟨Vf.dig mU.aut,mU.aut.time+5⟩
def wkS (D1 D2:Dsk.D):Nat→RunS
 |0=>⟨0,Dsk.fresh 8,⟨5,0,none⟩⟩
 |1=>⟨4096,D1,⟨5,0,some ⟨Lg.l0 0,[],0+5⟩⟩⟩
 |2=>⟨4096,D1,⟨5,10,some ⟨Lg.l0 0,[],0+5⟩⟩⟩
 |3=>⟨4097,D2,⟨5,10,some ⟨Lg.l0 1,[wkE],0+5⟩⟩⟩
 |_=>⟨4098,D2,⟨5,10,some ⟨Lg.l0 1,[wkE],0+5⟩⟩⟩
theorem aF2 (o:Option Ca.C):Vf.pol (mU.tic,mU.aut,0) ⟨5,10,o⟩=0:=by
 unfold Vf.pol Pol.check;rw[Kd.same rfl];rfl
def WkF (D1 D2:Dsk.D):Prop:=Vf.boot (Dsk.fresh 8) ⟨5,0,none⟩=(D1,⟨5,0,some ⟨Lg.l0 0,[],0+5⟩⟩,0)∧
 Vf.verify (mU.tic,mU.aut,0) D1 ⟨5,10,some ⟨Lg.l0 0,[],0+5⟩⟩=(D2,⟨5,10,some ⟨Lg.l0 1,[wkE],0+5⟩⟩,10)∧Vf.verify (mU.tic,mU.aut,0) D2 ⟨5,10,some ⟨Lg.l0 1,[wkE],0+5⟩⟩=(D2,⟨5,10,some ⟨Lg.l0 1,[wkE],0+5⟩⟩,8)∧
 Vf.ins D1 ⟨Lg.l0 0,[],0+5⟩ mU.aut 5 10=(D2,⟨Lg.l0 1,[wkE],0+5⟩,10)∧Vf.ins D2 ⟨Lg.l0 1,[wkE],0+5⟩ mU.aut 5 10=(D2,⟨Lg.l0 1,[wkE],0+5⟩,8)∧
 (D1.down=false∧D1.sec.length=8∧D1.n<100)∧D2.down=false∧D2.sec.length=8∧D2.n<200
theorem aFX:∃D1 D2,WkF D1 D2:=by
 have hv:Aut.valid mU.aut=true:=Kd.aut_valid (by decide);obtain⟨D1,h1,c1,l1,n1⟩:=Vf.boot_fresh 5 0;obtain⟨D2,h2,c2,l2,n2⟩:=Vf.ins_new c1 l1 n1 hv (sk:=5) (now:=10) (till:=0+5) (by show(0:Int)≤10+5;decide) (by show(10:Int)+5≤4611686018427387904;decide);have h3:Vf.ins D2 ⟨Lg.l0 1,[wkE],0+5⟩ mU.aut 5 10=(D2,⟨Lg.l0 1,[wkE],0+5⟩,8):=Vf.ins_again hv (by show(10:Int)≤10+5;decide);refine⟨D1,D2,h1,?_,?_,h2,h3,⟨c1.up,l1,n1⟩,c2.up,l2,n2⟩
 ·rw[Vf.verify_in c1.up (aF2 _) (by show(0:Int)+5<10;decide),h2]
  dsimp only;rw[Vf.look_up c2.up];rfl
 ·rw[Vf.verify_in c2.up (aF2 _) (by show(0:Int)+5<10;decide),h3]
  dsimp only;rw[Vf.look_up c2.up];rfl
theorem aFG:mU.req.length≤3000∧Req.opn cQ mU.req=(mU.tic,mU.aut,0):=Kd.req_facts (by decide) (by decide)
theorem aBA {D1 D2:Dsk.D} (hF:WkF D1 D2) (dv:Value) (lv:Value) (base:Nat) (w:World) (hK:Consts w Sha.tab) (hd:Rs w dv mU.req) (hos:RowOf w base 42 4 lv ((sE dv).map fun o=>o.a.toList)):
 Calls Tryz.prog 37 #[.agg (mP cQ 5 8),lv] w (sH (sE dv) (wkS D1 D2) w):=by
 obtain⟨h1,h2,h3,i2,i3,⟨u1,l1,n1⟩,u2,l2,n2⟩:=hF;obtain⟨da,dc,rfl⟩:=hd.form;have hq:=aFG;refine aHQ cQ _ lv base (wkS D1 D2) w hos (by show 4≤1000;omega) rfl (fun i=>?_) (fun i=>?_) (fun o ho=>?_) (fun o ho=>?_) (fun o ho=>?_) (fun i o ho m v d b q W hb hF hm hx=>?_)
 ·unfold wkS;split<;>(dsimp only;omega)
 ·unfold wkS;split
  ·rfl
  ·exact u1
  ·exact u1
  ·exact u2
  ·exact u2
 ·simp only[sE,List.mem_cons,List.not_mem_nil,or_false] at ho
  rcases ho with rfl|rfl|rfl|rfl
  all_goals exact⟨by dsimp only;omega,rfl⟩
 ·simp only[sE,List.mem_cons,List.not_mem_nil,or_false] at ho
  rcases ho with rfl|rfl|rfl|rfl
  all_goals exact⟨rfl,rfl⟩
 ·simp only[sE,List.mem_cons,List.not_mem_nil,or_false] at ho
  intro W;rcases ho with rfl|rfl|rfl|rfl
  ·exact tK W
  ·exact vO W
  ·exact jW da _ dc (by omega) W
  ·exact jW da _ dc (by omega) W
 ·have hR:∀F' w',Stp (VF v d b q) F' W w'→Rs w' (.slice da mU.req.length dc) mU.req:=fun F' w' st=>hd.below (hb.trans (st.below hb.size hF))
  have hKW:=hK.below hb;have hKF:¬VF v d b q 0:=fun h=>by have:=hF _ h;have:=hK.lt;omega
  have n10:bS 10:=by unfold bS;omega
  have n5:bS 5:=by unfold bS;omega
  have n0:bS 0:=by unfold bS;omega
  match i,ho with
  |0,ho=>
   cases ho
   have:=aA9 m v d cQ b q 0 (Dsk.fresh 8) ⟨5,0,none⟩ 0 (.slice none 0 0) (.slice none 0 0) W hm hx (by decide) (by decide) n5 n0;rw[h1] at this;exact this
  |1,ho=>
   cases ho
   have:=aDA m v d cQ b q 4096 D1 ⟨5,0,some ⟨Lg.l0 0,[],0+5⟩⟩ 10 (.slice none 0 0) (.slice none 0 0) W hm hx (by decide) (by decide);unfold Vf.tick at this;rw[Vf.look_up u1] at this;exact this
  |2,ho=>
   cases ho
   have:=lV m v d cQ b q 4096 D1 ⟨5,10,some ⟨Lg.l0 0,[],0+5⟩⟩ 0 _ (.slice none 0 0) mU.req W hm hx iP hR (by omega) hKW hKF n10 n5 (by omega) (by omega) (fun C hC h=>by cases hC;exact absurd h (by decide))
    (fun C hC _=>by cases hC;rw[hq.2,i2];exact Lg.l0_fit l2 1)
   rw[hq.2,h2] at this;exact this
  |3,ho=>
   cases ho
   have:=lV m v d cQ b q 4097 D2 ⟨5,10,some ⟨Lg.l0 1,[wkE],0+5⟩⟩ 0 _ (.slice none 0 0) mU.req W hm hx iP hR (by omega) hKW hKF n10 n5 (by omega) (by omega) (fun C hC h=>by cases hC;exact absurd h (by decide))
    (fun C hC _=>by cases hC;rw[hq.2,i3];exact Lg.l0_fit l2 1)
   rw[hq.2,h3] at this;exact this
  |n+4,ho=>cases ho
set_option linter.all false
set_option maxHeartbeats 4000000
theorem aFY (key:Nat→Nat):Tryz.prog.built 33 [(0,.agg (aH .u8 16 key)),(1,.int .i64 5),(2,.int .i64 8)]=some (mP key 5 8):=by kernel_rfl
theorem aHG (o:Oper) (a:Act) (w:World) (i:Operand) (key:Nat→Nat) (ho:o.op= .build 33 #[(0,i),(1,.const (.int .i64 5)),(2,.const (.int .i64 8))]) (hi:a.eval i= .agg (aH .u8 16 key)):
 (execOp a.eval o).run Tryz.prog w= .ok (.value (.agg (mP key 5 8))) w:=by
 unfold execOp;simp only[ho];rw[show(#[(0,i),(1,.const (.int .i64 5)),(2,.const (.int .i64 8))]:Array (Nat×Operand)).map (fun(i,x)=>(i,a.eval x))=#[(0,.agg (aH .u8 16 key)),(1,.int .i64 5),(2,.int .i64 8)] by simp[hi];exact⟨rfl,rfl⟩];rw[Sem.run_bind,run_build w 33 _ _ (aFY key)];rfl
theorem aD4 (k:Nat) (c now:Int) (n:Nat) (f:Nat→Nat):(fI k c now n f).toList[1]? =some (.int .i64 c):=by unfold fI;simp
theorem aI1 (k:Nat) (c now:Int) (n:Nat) (f:Nat→Nat):(fI k c now n f).toList[3]? =some (.int .i64 (n:Int)):=by unfold fI;simp
theorem p8 (w:World) (hK:Consts w Sha.tab):Calls Tryz.prog 8 #[] w (kY true w):=by
 have hky:=fun W=>rE W
 have hmk:∀W,Calls Tryz.prog 18 #[.agg #[.int .i64 0,.int .i64 0,.int .i64 0,.int .i64 100,.int .i64 10,.int .u32 0,.bool false,.int .u16 0]] W (cG mU.req W):=fun W=>lM mU W rfl rfl (by decide) (by decide)
 unfold cG at hmk;have hql:=aFG.1;have HK:=aD hK;have hcz:=d8 cQ 5 8;clear hK;go_enter Tryz.func8,Tryz.ntmps8
 go_upto_region 2 with (first
  |(go_at_call 24;refine(hky _).mono ?_;clear hky;rintro e w1 ⟨rfl,g1⟩)
  |refine cZ rfl _ (aHG _ _ _ _ cQ rfl rfl) ?_
  |(refine wpList_store_rowTo rfl _ _ _ rfl rfl w1.heap.size _ rfl rfl _ _ (heap_alloc_new _ _) (by rw[d8];kernel_rfl) (by rw[d8];rfl) (by kernel_rfl) ?_;generalize hV:World.setRow _ w1.heap.size _=W1))
 obtain⟨hC,gV⟩:=cK w1 _ (mP cQ 5 8) 33;rw[hV] at hC gV;obtain⟨bc,hbc⟩:∃x,x=w1.heap.size:=⟨_,rfl⟩;rw[←hbc] at hC;simp only[←hbc];have G1:=aD (aF g1 gV);clear hV gV hbc g1;obtain⟨rq,hrq⟩:∃x,x=mU.req:=⟨_,rfl⟩;rw[←hrq] at hmk hql;have HRQ:=aD hrq;clear hrq
 go_upto_region 3 with (first
  |(go_at_call 18;refine(hmk _).mono ?_;clear hmk;rintro e w2 ⟨dv,rfl,ov2,b2⟩;obtain⟨da,dc,hdv⟩:=ov2.form;subst hdv)
  |(refine wpList_store_rowTo rfl _ _ _ rfl rfl w2.heap.size _ rfl rfl _ _ (heap_alloc_new _ _) (by kernel_rfl) (by rfl) (by rfl) ?_;generalize hV:World.setRow _ w2.heap.size _=W2))
 have hB:=Hb.new w2 #[.int .i64 3,.int .i64 0,.slice da rq.length dc,.slice none 0 0] 42;have gB:=aG (aE w2 none) (.cells #[.int .i64 3,.int .i64 0,.slice da rq.length dc,.slice none 0 0] 42);generalize w2.alloc (.cells #[.int .i64 3,.int .i64 0,.slice da rq.length dc,.slice none 0 0] 42)=W2 at*;obtain⟨bo,hbo⟩:∃x,x=w2.heap.size:=⟨_,rfl⟩;rw[←hbo] at hB;simp only[←hbo];have b3:=bK b2 gB;have hC3:Hb W2 bc (mP cQ 5 8) 33:=(b3.block bc hC.lt).trans hC;have hK3:=(HK.out.below (aB G1.out)).below b3;have ov3:=ov2.below (aB gB);have GW:=aD ((aB G1.out).trans (b3.mono G1.out.size));obtain⟨D1,D2,hF⟩:=aFX;obtain⟨W3,hW3⟩:∃W3,W3=W2.alloc (.cells #[.int .i64 2,.int .i64 0,.slice none 0 0,.slice none 0 0,.int .i64 1,.int .i64 10,.slice none 0 0,.slice none 0 0,.int .i64 3,.int .i64 0,.slice da rq.length dc,.slice none 0 0,.int .i64 3,.int .i64 0,.slice da rq.length dc,.slice none 0 0] 42):=⟨_,rfl⟩;have g3:=aG (aE W2 none) (.cells #[.int .i64 2,.int .i64 0,.slice none 0 0,.slice none 0 0,.int .i64 1,.int .i64 10,.slice none 0 0,.slice none 0 0,.int .i64 3,.int .i64 0,.slice da rq.length dc,.slice none 0 0,.int .i64 3,.int .i64 0,.slice da rq.length dc,.slice none 0 0] 42);rw[←hW3] at g3;have hlist:RowOf W3 W2.heap.size 42 4 (.slice (some ⟨W2.heap.size,0,none⟩) 4 4) ((sE (.slice da rq.length dc)).map fun o=>o.a.toList):=by
  rw[hW3];refine⟨fun x hx=>?_,fun x hx=>?_,World.ownsRow_lit W2 _ 4 (Nat.le_refl _) (by unfold maxLen;omega) rfl⟩
  ·simp only[sE,List.map_cons,List.map_nil,List.mem_cons,List.not_mem_nil,or_false] at hx
   rcases hx with rfl|rfl|rfl|rfl<;>rfl
  ·simp only[sE,List.map_cons,List.map_nil,List.mem_cons,List.not_mem_nil,or_false] at hx
   rcases hx with rfl|rfl|rfl|rfl<;>(intro u hu;simp[RunO.a,mS] at hu;rcases hu with rfl|rfl|rfl|rfl<;>rfl)
 have hrun:=aDR cQ (sE (.slice da rq.length dc)) (.slice (some ⟨W2.heap.size,0,none⟩) 4 4) (wkS D1 D2) W3 fun W gW=>aBA hF _ _ W2.heap.size W (((hK3.below (aB g3))).below (aB gW)) (by rw[←HRQ.out];exact((ov3.below (aB g3)).below (aB gW)).bs.rs) (hlist.of_block fun g hg=>gW.block g (hlist.lt hg).2 (by simp))
 unfold aAW at hrun;rw[hW3] at hrun;have HR:=aD (aQ hrun g3);clear g3 hlist hW3 hK3 ov3 b3 b2 ov2 gB hbo hC hrun
 go_upto_region 4 with (first
  |refine aS (by kernel_rfl) _ _ rfl bc rfl _ _ (0,0) _ hC3 rfl rfl (by rw[d8];kernel_rfl) ?_
  |refine aS (by kernel_rfl) _ _ rfl bo rfl _ _ (0,0) _ hB rfl rfl (by kernel_rfl) ?_
  |(go_at_call 10;refine HR.out.1.mono ?_;rintro e w5 ⟨rv,es,rfl,r5,hl5,hok5,b5⟩))
 have hl4:es.length=4:=hl5;obtain⟨g,cap,hrv,_,_⟩:=r5.pos (by omega);rw[hl4] at hrv;subst hrv;obtain⟨x2,hx2⟩:∃x,es[2]? =some x:=⟨_,List.getElem?_eq_getElem (by omega)⟩;obtain⟨x3,hx3⟩:∃x,es[3]? =some x:=⟨_,List.getElem?_eq_getElem (by omega)⟩;have k2:=r5.range (g:=g) rfl hx2;have k3:=r5.range (g:=g) rfl hx3;obtain⟨o2,f2,ho2,rfl⟩:=hok5 2 x2 hx2;obtain⟨o3,f3,ho3,rfl⟩:=hok5 3 x3 hx3;have ho2:=Option.some.inj ho2;have ho3:=Option.some.inj ho3;subst ho2;subst ho3;have hlv:(wkS D1 D2 4).live=1:=by
  show(Vf.live D2 ⟨5,10,some ⟨Lg.l0 1,[wkE],0+5⟩⟩).length=1;unfold Vf.live;rw[Vf.look_up hF.2.2.2.2.2.2.1];rfl
 have c73:w5.cell? ⟨g,73,none⟩=some (.int .i64 10):=k2 1 _ (aD4 _ _ _ _ _);have c109:w5.cell? ⟨g,109,none⟩=some (.int .i64 8):=k3 1 _ (aD4 _ _ _ _ _);have c111:w5.cell? ⟨g,111,none⟩=some (.int .i64 1):=by
  have:=k3 3 _ (aI1 _ _ _ _ _);rw[hlv] at this;exact this
 have HE:=aD (aQ HR.out.2 b5);clear hl5 hok5 b5 r5 hx2 hx3 k2 k3 hlv hF HR hC3 hB hl4 hql;go_wp2_with fail;go_ret;exact⟨rfl,(bK GW.out (aG (aE W2 none) _)).trans (HE.out.2.mono (bK GW.out (aG (aE W2 none) _)).size)⟩
set_option linter.all false
set_option maxHeartbeats 8000000
theorem j3 (a:Int) (J:Kd) (c:Int) (w:World) (hK:Consts w Sha.tab) (h:J.right=false∨(J.right=true∧decide (a<1)=true)∨(J.right=true∧decide (a<1)=false∧decide (1073741824<a)=true)):
 Calls Tryz.prog 7 #[.int .i64 a,.agg (iI J),.int .u8 c] w (kY true w):=by
 have hwk:=fun W (hW:Below w.heap.size w W)=>p8 W (hK.below hW)
 have hkr:=fun W=>oD J W
 have hb:=Hb.new w (iI J) 47;have gr:=aG (aE w none) (.cells (iI J) 47);have hkz:(iI J).size=8:=rfl;clear hK;generalize J.right=R at*;rcases h with rfl|⟨rfl,h1⟩|⟨rfl,h1,h2⟩
 all_goals
  go_enter Tryz.func7,Tryz.ntmps7;go_upto_region 1 with fail;generalize w.alloc (.cells (iI J) 47)=W at*;obtain⟨bk,hbk⟩:∃x,x=w.heap.size:=⟨_,rfl⟩;rw[←hbk] at hb;simp only[←hbk];have hw1:=hwk W (aB gr);have HW:=aD (aQ hwk gr);clear hwk gr hbk
  go_upto_region 2 with (first
   |(go_at_call 8;refine hw1.mono ?_;clear hw1;rintro e w1 ⟨rfl,b1⟩;have hb1:Hb w1 bk (iI J) 47:=(b1.block bk hb.lt).trans hb)
   |refine aS (by kernel_rfl) _ _ rfl bk rfl _ _ (0,0) _ hb1 rfl rfl (by kernel_rfl) ?_
   |(go_at_call 12;refine(hkr _).mono ?_;clear hkr;rintro e w2 ⟨rfl,g2⟩))
  have hB2:Below w.heap.size w w2:=((aB HW.out.2).trans (b1.mono HW.out.2.size)).trans ((aB g2).mono (Nat.le_trans HW.out.2.size b1.size));have hw2:=HW.out.1 w2 hB2;have H2:=aD hB2;clear hb hb1 b1 g2 hB2;go_wp2_with (go_at_call 8;refine hw2.mono ?_;clear hw2;rintro e w3 ⟨rfl,b3⟩);go_ret;exact⟨rfl,H2.out.trans (b3.mono H2.out.size)⟩
theorem aAS {v d N:Nat} {key:Nat→Nat} {b:Dsk.B} {q:Vf.Q} {D:Dsk.D} {V:Vf.V} {n m:Int} {W:World} (hu:D.down=false) (h:Vx W v d key b q N D V) (h0:0≤V.now) (h1:V.now≤1099511627776) (hm:Vf.clock V n=m):
 Calls Tryz.prog 26 #[.pointer (some ⟨v,0,none⟩),.int .i64 n] W fun e w'=>e= .returned (.int .i64 m)∧Vx w' v d key b q N D { V with now:=m}∧W.grownBy w' (some v):=by
 have:=sP v d key b q N D V n W h h0 h1;unfold Vf.tick at this;rw[Vf.look_up hu,show bQ D q=q by unfold bQ;rw[hu];rfl,hm] at this;exact this
theorem aGO {v d N:Nat} {key:Nat→Nat} {b:Dsk.B} {q:Vf.Q} {D:Dsk.D} {V:Vf.V} {C:Ca.C} {t:Int} {W:World} (hu:D.down=false) (hC:V.cache=some C) (ht:C.till=t) (h:Vx W v d key b q N D V):
 Calls Tryz.prog 33 #[.pointer (some ⟨v,0,none⟩)] W fun e w'=>e= .returned (.int .i64 t)∧Vx w' v d key b q N D V∧W.grownBy w' (some v):=by
 have:=aAX v d key b q N D V W h;unfold Vf.till at this;rw[Vf.look_up hu,show bQ D q=q by unfold bQ;rw[hu];rfl,hC,show Vf.tillO (some C)=C.till from rfl,ht] at this;exact this
structure LimI (w W:World) (bk v d:Nat) (b:Dsk.B) (q:Vf.Q) (N:Nat) (D:Dsk.D) (V:Vf.V) (J:Kd):Prop where
 bel:Below w.heap.size w W
 kd:Hb W bk (iI J) 47
 vx:Vx W v d cQ b q N D V
 vf:∀i,VF v d b q i→w.heap.size≤i
 low:w.heap.size≤bk
section
variable {w W W':World} {bk v d:Nat} {b b':Dsk.B} {q q':Vf.Q} {N N':Nat} {D D':Dsk.D} {V V':Vf.V} {J:Kd}
theorem LimI.step (h:LimI w W bk v d b q N D V J) (st:Stp (VF v d b q) (VF v d b' q') W W') (vx':Vx W' v d cQ b' q' N' D' V'):LimI w W' bk v d b' q' N' D' V' J:=
 ⟨h.bel.trans (st.below h.bel.size h.vf),st.hb h.kd (h.vx.alien h.kd (by decide) (by decide) (by decide) (by decide) (by decide) (by decide) (by decide) (by decide)),vx',fun i hi=>(st.sub i hi).elim (h.vf i) fun k=>Nat.le_trans h.bel.size k,h.low⟩
theorem LimI.own (h:LimI w W bk v d b q N D V J) (g:W.grownBy W' (some v)) (vx':Vx W' v d cQ b q N D V'):LimI w W' bk v d b q N D V' J:=h.step (Stp.vx_own g q (.inr rfl)) vx'
theorem LimI.row (h:LimI w W bk v d b q N D V J) (i:Nat) (x:Value) {J':Kd} (hJ:(iI J).setIfInBounds i x=iI J'):LimI w (W.setCell ⟨bk,i,none⟩ x) bk v d b q N D V J':=by
 have g:=bA (aE W (some bk)) i x;have k:=Hb.set h.kd i x;rw[hJ] at k;exact⟨aP h.bel (Nat.le_refl _) g fun y e=>by cases e;exact h.low,k,h.vx.other g (h.vx.alien h.kd (by decide) (by decide) (by decide) (by decide) (by decide) (by decide) (by decide) (by decide)) (h.vx.dk.alien h.kd (by decide) (by decide) (by decide) (by decide)).2,h.vf,h.low⟩
end
theorem aBC (a:Int) (J:Kd) (c:Int) (w:World) (hK:Consts w Sha.tab) (hr:J.right=true) (hz:J.seq<4294967296) (h1:1≤a) (h2:a≤1073741824) (h3:0≤c) (h4:c<256):
 Calls Tryz.prog 7 #[.int .i64 a,.agg (iI J),.int .u8 c] w (kY true w):=by
 have hwk:=fun W (hW:Below w.heap.size w W)=>p8 W (hK.below hW)
 have hkr:=fun W=>oD J W
 have hb:=Hb.new w (iI J) 47;have gr:=aG (aE w none) (.cells (iI J) 47);have hkz:(iI J).size=8:=rfl;rw[hr] at hkr;have d1:decide (a<1)=false:=by simp;omega
 have d2:decide (1073741824<a)=false:=by simp;omega
 have HH:=aD (aQ hK (aQ hr (aQ hz (aQ (aQ h1 h2) (aQ h3 h4)))));clear hK hr hz h1 h2 h3 h4;go_enter Tryz.func7,Tryz.ntmps7;go_upto_region 1 with fail;generalize w.alloc (.cells (iI J) 47)=W at*;obtain⟨bk,hbk⟩:∃x,x=w.heap.size:=⟨_,rfl⟩;rw[←hbk] at hb;simp only[←hbk];have hw1:=hwk W (aB gr);have HW:=aD (aQ gr hbk);clear hwk gr hbk
 go_upto_region 3 with (first
  |(go_at_call 8;refine hw1.mono ?_;clear hw1;rintro e w1 ⟨rfl,b1⟩;have hb1:Hb w1 bk (iI J) 47:=(b1.block bk hb.lt).trans hb)
  |refine aS (by kernel_rfl) _ _ rfl bk rfl _ _ (0,0) _ hb1 rfl rfl (by kernel_rfl) ?_
  |(go_at_call 12;refine(hkr _).mono ?_;clear hkr;rintro e w2 ⟨rfl,g2⟩))
 have hB2:Below w.heap.size w w2:=((aB HW.out.1).trans (b1.mono HW.out.1.size)).trans ((aB g2).mono (Nat.le_trans HW.out.1.size b1.size));have hb2:=hb1.only g2;have hky:=fun W=>rE W
 have hdn:∀W,Calls Tryz.prog 32 #[.int .i64 8] W (xW 8 W):=fun W=>tA 8 W (by omega)
 have H2:=aD (aQ hB2 hb2);clear hb hb1 b1 g2 hB2 hb2
 go_upto_region 6 with (first
  |(go_at_call 24;refine(hky _).mono ?_;clear hky;rintro e w3 ⟨rfl,g3⟩)
  |(go_at_call 32;refine(hdn _).mono ?_;clear hdn;rintro e w4 ⟨d,bd,rfl,dk4,g4,hn4⟩;have hvn:=uX cQ d bd (Dsk.fresh 8) a w4 dk4 HH.out.2.2.2.1.1 HH.out.2.2.2.1.2)
  |(go_at_call 31;refine hvn.mono ?_;clear hvn;rintro e w5 ⟨v,rfl,hv5,vx5,g5⟩))
 have L5:LimI w w5 bk v d bd none 0 (Dsk.fresh 8) ⟨a,0,none⟩ J:=by
  have z2:=H2.out.1.size;have z3:=g3.size;have z4:=g4.size;have g25:=aF (aF g3 g4) g5;refine⟨bK H2.out.1 g25,H2.out.2.only g25,vx5,?_,by rw[HW.out.2];exact Nat.le_refl _⟩;rintro i (rfl|h|⟨x,hx,_⟩)
  ·omega
  ·have:=hn4 i h;omega
  ·cases hx
 obtain⟨⟨h1,h2⟩,h3,h4⟩:=HH.out.2.2.2;have e1:IntKind.i64.wrap (1099511627776 - a)=1099511627776 - a:=by simp only[IntKind.wrap_i64];omega
 have e2:IntKind.i64.wrap (1099511627776 - a - 1)=1099511627776 - a - 1:=by simp only[IntKind.wrap_i64];omega
 have e3:IntKind.i64.wrap c=c:=by simp only[IntKind.wrap_i64];omega
 have e4:IntKind.i64.wrap (1099511627776 - a - 1 - c)=1099511627776 - a - 1 - c:=by simp only[IntKind.wrap_i64];omega
 have htk:=aAS (n:=1099511627776 - a - 1 - c) (m:=1099511627776 - a - 1 - c) rfl L5.vx (by show(0:Int)≤0;omega) (by show(0:Int)≤1099511627776;omega) (by
  unfold Vf.clock;dsimp only;rw[if_neg (by omega),if_pos (by omega)]
  omega)
 have HL5:=aD L5;clear L5 vx5 hv5 g5 hn4 dk4 g4 g3 h1 h2 h3 h4;go_upto_region 7 with (go_at_call 26;refine htk.mono ?_;clear htk;rintro e w6 ⟨rfl,vx6,g6⟩);have L6:=HL5.out.own g6 vx6;obtain⟨n,hn⟩:∃n,n=1099511627776 - a - 1 - c:=⟨_,rfl⟩;rw[←hn] at L6 vx6;simp only[←hn];obtain⟨⟨h1,h2⟩,h3,h4⟩:=HH.out.2.2.2;have hn0:0<n∧n<1099511627776∧n+a<1099511627776:=by omega
 obtain⟨D1,hbe,hc1,hl1,hd1⟩:=Vf.boot_fresh a n;have hbt:=wL v d cQ bd none 0 (Dsk.fresh 8) ⟨a,n,none⟩ w6 vx6 (by decide) (by decide) (by unfold bS;dsimp only;omega) (by unfold bS;dsimp only;omega);unfold rI at hbt;rw[hbe,kU] at hbt;dsimp only at hbt;have htk2:=fun(W:World) (b:Dsk.B) (q:Vf.Q) (hx:Vx W v d cQ b q 4096 D1 ⟨a,n,some ⟨Lg.l0 0,[],n+a⟩⟩)=>aAS (n:=4611686018427387904) (m:=1099511627776) hc1.up hx (by dsimp only;omega) (by dsimp only;omega) (by unfold Vf.clock;dsimp only;exact if_pos (by omega))
 have htl:=fun(W:World) (b:Dsk.B) (q:Vf.Q) (hx:Vx W v d cQ b q 4096 D1 ⟨a,1099511627776,some ⟨Lg.l0 0,[],n+a⟩⟩)=>aGO (t:=n+a) hc1.up rfl rfl hx
 have d3:decide (1099511627776≤n+a)=false:=by simp;omega
 have H6:=aD (aQ L6 (aQ hc1 (aQ hl1 (aQ hd1 hn0))));clear L6 vx6 hn h1 h2 h3 h4 hbe hc1 hl1 hd1 hn0 e1 e2 e3 e4 g6
 go_upto_region 9 with (first
  |(go_at_call 19;refine hbt.mono ?_;clear hbt;rintro e w7 ⟨rfl,b7,q7,vx7,st7⟩)
  |(go_at_call 26;refine(htk2 _ _ _ vx7).mono ?_;clear htk2;rintro e w8 ⟨rfl,vx8,g8⟩)
  |(go_at_call 33;refine(htl _ _ _ vx8).mono ?_;clear htl;rintro e w9 ⟨rfl,vx9,g9⟩))
 have L9:=((H6.out.1.step st7 vx7).own g8 vx8).own g9 vx9;have H9:=aD H6.out.2;clear vx7 st7 vx8 g8 vx9 g9 H6 d3;have c6:w9.cell? ⟨bk,6,none⟩=some (.bool J.foreign):=L9.kd.cell rfl;have f6:=L9.kd.frozen 6;have HL9:=aD L9;clear L9;go_upto_region 10 with fail;have L10:=HL9.out.row 6 (.bool false) (J':={ J with foreign:=false}) rfl;clear c6 f6;generalize w9.setCell ⟨bk,6,none⟩ (.bool false)=w10 at*;have c7:w10.cell? ⟨bk,7,none⟩=some (.int .u16 (J.spoil:Int)):=L10.kd.cell rfl;have f7:=L10.kd.frozen 7;have HL10:=aD L10;clear L10;go_upto_region 11 with fail;have L11:=HL10.out.row 7 (.int .u16 0) (J':={ J with foreign:=false,spoil:=0}) rfl;clear c7 f7;generalize w10.setCell ⟨bk,7,none⟩ (.int .u16 0)=w11 at*;have c0:w11.cell? ⟨bk,0,none⟩=some (.int .i64 J.client):=L11.kd.cell rfl;have c1:w11.cell? ⟨bk,1,none⟩=some (.int .i64 J.other):=L11.kd.cell rfl;have f1:=L11.kd.frozen 1;have HL11:=aD L11;clear L11;go_upto_region 12 with fail;have L12:=HL11.out.row 1 (.int .i64 J.client) (J':={ J with foreign:=false,spoil:=0,other:=J.client}) rfl;clear c0 c1 f1;generalize w11.setCell ⟨bk,1,none⟩ (.int .i64 J.client)=w12 at*;clear HL9 HL10 HL11 HL5;obtain⟨hK,hr,hz,⟨h1,h2⟩,-⟩:=HH.out;obtain⟨hc1,hl1,hd1,n0,n1,n2⟩:=H9.out;obtain⟨r1,r2,r3,r4,r5⟩:=Kd.right_iff hr;obtain⟨K,hKq⟩:∃K:Kd,K={ J with foreign:=false,spoil:=0,other:=J.client}:=⟨_,rfl⟩;have hKr:K.right=true:=by rw[hKq];exact hr
 have hKo:K.other=K.client:=by rw[hKq]
 have hKz:K.seq<4294967296:=by rw[hKq];exact hz
 have hKt:K.time=J.time:=by rw[hKq]
 have hka:K.aut.time=J.time:=hKt;have hKtop:K.top a=if 1099511627776<J.start - a then 3 else if J.stop+a<1099511627776 then 4 else if a<1099511627776 - J.time then 6 else 0:=by rw[hKq];rfl
 have hq:=Kd.req_facts hKr hKz;rw[←hKq] at L12;have hmk:=lM K w12 (by rw[hKq]) (by rw[hKq]) hKr hKz;unfold cG at hmk;obtain⟨D2,hi2,hc2,hl2,hd2⟩:=Vf.ins_new hc1 hl1 hd1 (Kd.aut_valid hKr) (sk:=a) (now:=1099511627776) (till:=n+a) (by rw[hka];omega) (by rw[hka];omega);have hpol:=Kd.pol_top hKr hKo a (some ⟨Lg.l0 0,[],n+a⟩);have nb:bS 1099511627776:=by unfold bS;omega
 have na:bS a:=by unfold bS;omega
 have hve:=fun(W:World) (dv:Value) (L:LimI w W bk v d b7 q7 4096 D1 ⟨a,1099511627776,some ⟨Lg.l0 0,[],n+a⟩⟩ K) (hR:Rs W dv K.req)=>j1 v d cQ b7 q7 4096 D1 ⟨a,1099511627776,some ⟨Lg.l0 0,[],n+a⟩⟩ dv K.req W L.vx iP hR (by omega) (hK.below L.bel) (fun h=>by have:=L.vf _ h;have:=hK.lt;omega) nb na (by omega) (by omega) (fun C hC h=>by cases hC;exact absurd h (show ¬((3:Nat)≤0) by omega)) (fun C hC _=>by cases hC;rw[hq.2,hi2];exact Lg.l0_fit hl2 1)
 unfold p7 at hve;rw[hq.2] at hve;have hkz2:(iI K).size=8:=rfl;have e5:IntKind.i64.wrap (1099511627776 - J.time)=1099511627776 - J.time:=by simp only[IntKind.wrap_i64];omega
 have e6:IntKind.i64.wrap (J.start - a)=J.start - a:=by simp only[IntKind.wrap_i64];omega
 have e7:IntKind.i64.wrap (J.stop+a)=J.stop+a:=by simp only[IntKind.wrap_i64];omega
 have hcs:(decide (1099511627776<J.start - a)=true∧K.top a=3)∨(decide (1099511627776<J.start - a)=false∧decide (J.stop+a<1099511627776)=true∧K.top a=4)∨(decide (1099511627776<J.start - a)=false∧decide (J.stop+a<1099511627776)=false∧decide (a<1099511627776 - J.time)=true∧K.top a=6)∨
  (decide (1099511627776<J.start - a)=false∧decide (J.stop+a<1099511627776)=false∧decide (a<1099511627776 - J.time)=false∧K.top a=0):=by
  rw[hKtop]
  by_cases p1:1099511627776<J.start - a
  ·exact .inl ⟨decide_eq_true p1,if_pos p1⟩
  ·by_cases p2:J.stop+a<1099511627776
   ·exact .inr (.inl ⟨decide_eq_false p1,decide_eq_true p2,by rw[if_neg p1,if_pos p2]⟩)
   ·by_cases p3:a<1099511627776 - J.time
    ·exact .inr (.inr (.inl ⟨decide_eq_false p1,decide_eq_false p2,decide_eq_true p3,by rw[if_neg p1,if_neg p2,if_pos p3]⟩))
    ·exact .inr (.inr (.inr ⟨decide_eq_false p1,decide_eq_false p2,decide_eq_false p3,by rw[if_neg p1,if_neg p2,if_neg p3]⟩))
 have hcl:∀(W:World) (b':Dsk.B) (q':Vf.Q) (N':Nat) (D':Dsk.D) (V':Vf.V),LimI w W bk v d b' q' N' D' V' K→W.cell? ⟨bk,2,none⟩=some (.int .i64 J.start)∧W.cell? ⟨bk,3,none⟩=some (.int .i64 J.stop)∧W.cell? ⟨bk,4,none⟩=some (.int .i64 J.time):=fun _ _ _ _ _ _ L=>by
  have k:=L.kd;rw[hKq] at k;exact⟨k.cell rfl,k.cell rfl,k.cell rfl⟩
 have hb12:=L12.kd;have HKF:=aD (aQ hK (aQ hKr (aQ hKo (aQ hKz (aQ hq (aQ hka hc1))))));have HI2:=aD (aQ hi2 (aQ hc2 (aQ hl2 hd2)));have HN:=aD (aQ nb (aQ na (aQ n2 (aQ r4 r5))));have HL12:=aD L12;have HCL:=aD hcl;have HKQ:=aD hKq;clear hK hr hz h1 h2 hc1 hl1 hd1 n0 n1 n2 r1 r2 r3 r4 r5 hKq hKr hKo hKz hKt hka hKtop hq hi2 hc2 hl2 hd2 nb na L12 hcl;rcases hcs with ⟨p1,ht⟩|⟨p1,p2,ht⟩|⟨p1,p2,p3,ht⟩|⟨p1,p2,p3,ht⟩
 rotate_left 3
 ·obtain⟨hK,hKr,hKo,hKz,hq,hka,hc1⟩:=HKF.out
  obtain⟨hi2,hc2,hl2,hd2⟩:=HI2.out;obtain⟨nb,na,n2,r4,r5⟩:=HN.out;have hv:=Vf.verify_in hc1.up (C:=⟨Lg.l0 0,[],n+a⟩) (by rw[hpol,ht]) n2;rw[hi2] at hv;dsimp only at hv;rw[Vf.look_up hc2.up] at hv;rw[hv] at hve;simp only[Int.cast_ofNat_Int] at hve;have hi3:Vf.ins D2 ⟨Lg.l0 1,[⟨Vf.dig K.aut,K.aut.time+a⟩],n+a⟩ K.aut a 1099511627776=(D2,⟨Lg.l0 1,[⟨Vf.dig K.aut,K.aut.time+a⟩],n+a⟩,8):=Vf.ins_again (Kd.aut_valid hKr) (by rw[hka];simp at p3;omega);have hpol2:=Kd.pol_top hKr hKo a (some ⟨Lg.l0 1,[⟨Vf.dig K.aut,K.aut.time+a⟩],n+a⟩);have hv2:=Vf.verify_in hc2.up (C:=⟨Lg.l0 1,[⟨Vf.dig K.aut,K.aut.time+a⟩],n+a⟩) (by rw[hpol2,ht]) n2;rw[hi3] at hv2;dsimp only at hv2;rw[Vf.look_up hc2.up] at hv2;have hve2:=fun(W:World) (dv:Value) (b:Dsk.B) (q:Vf.Q) (L:LimI w W bk v d b q 4097 D2 ⟨a,1099511627776,some ⟨Lg.l0 1,[⟨Vf.dig K.aut,K.aut.time+a⟩],n+a⟩⟩ K) (hR:Rs W dv K.req)=>j1 v d cQ b q 4097 D2 ⟨a,1099511627776,some ⟨Lg.l0 1,[⟨Vf.dig K.aut,K.aut.time+a⟩],n+a⟩⟩ dv K.req W L.vx iP hR (by omega) (hK.below L.bel) (fun h=>by have:=L.vf _ h;have:=hK.lt;omega) nb na (by omega) (by omega) (fun C hC h=>by cases hC;exact absurd h (show ¬((3:Nat)≤1) by omega)) (fun C hC _=>by cases hC;rw[hq.2,hi3];exact Lg.l0_fit hl2 1)
  unfold p7 at hve2;rw[hq.2,hv2] at hve2;simp only[Int.cast_ofNat_Int] at hve2;have hmk2:=fun(W:World)=>lM K W (by rw[HKQ.out]) (by rw[HKQ.out]) hKr hKz
  unfold cG at hmk2;clear hv hv2 hi3 hpol hpol2 hi2 hc2 hl2 hd2 nb na n2 r4 r5 hK hKr hKo hKz hq hka hc1;generalize (⟨Vf.dig K.aut,K.aut.time+a⟩:bC)=E at*
  go_upto_region 13 with (first
   |refine aS (by kernel_rfl) _ _ rfl bk rfl _ _ (0,0) _ hb12 rfl rfl (by kernel_rfl) ?_
   |(go_at_call 18;refine hmk.mono ?_;clear hmk;rintro e w13 ⟨dv,rfl,ov13,b13⟩;obtain⟨da,dc,hdv⟩:=ov13.form;subst hdv;have L13:=HL12.out.step (Stp.of_below b13 _) (HL12.out.vx.below b13);have hv13:=hve w13 _ L13 ov13.bs.rs)
   |(go_at_call 17;refine hv13.mono ?_;clear hv13;rintro e w14 ⟨rfl,b14,q14,vx14,st14⟩))
  have L14:=L13.step st14 vx14;obtain⟨c2,c3,c4⟩:=HCL.out _ _ _ _ _ _ L14;have hb14:=L14.kd;have HL14:=aD L14;clear L14 L13 st14 vx14 ov13 b13 hve hb12;go_upto_region 20 with fail;have hmk:=hmk2 w14;clear c2 c3 c4 hmk2
  go_wp2_with (first
   |refine aS (by kernel_rfl) _ _ rfl bk rfl _ _ (0,0) _ hb14 rfl rfl (by kernel_rfl) ?_
   |(go_at_call 18;refine hmk.mono ?_;clear hmk;rintro e w15 ⟨dv2,rfl,ov15,b15⟩;obtain⟨da2,dc2,hdv2⟩:=ov15.form;subst hdv2;have L15:=HL14.out.step (Stp.of_below b15 _) (HL14.out.vx.below b15);have hv15:=hve2 w15 _ _ _ L15 ov15.bs.rs)
   |(go_at_call 17;refine hv15.mono ?_;clear hv15;rintro e w16 ⟨rfl,b16,q16,vx16,st16⟩))
  go_ret;exact⟨rfl,(L15.step st16 vx16).bel⟩
 all_goals
  have hv:=Vf.verify_pol HKF.out.2.2.2.2.2.2.up (by rw[hpol,ht];decide);rw[hpol,ht] at hv;rw[hv] at hve;simp only[Int.cast_ofNat_Int] at hve;clear hv hpol
  go_upto_region 13 with (first
   |refine aS (by kernel_rfl) _ _ rfl bk rfl _ _ (0,0) _ hb12 rfl rfl (by kernel_rfl) ?_
   |(go_at_call 18;refine hmk.mono ?_;clear hmk;rintro e w13 ⟨dv,rfl,ov13,b13⟩;obtain⟨da,dc,hdv⟩:=ov13.form;subst hdv;have L13:=HL12.out.step (Stp.of_below b13 _) (HL12.out.vx.below b13);have hv13:=hve w13 _ L13 ov13.bs.rs)
   |(go_at_call 17;refine hv13.mono ?_;clear hv13;rintro e w14 ⟨rfl,b14,q14,vx14,st14⟩))
  have L14:=L13.step st14 vx14;obtain⟨c2,c3,c4⟩:=HCL.out _ _ _ _ _ _ L14;have HL14:=aD L14;clear L14 L13 st14 vx14 ov13 b13 hve hb12;go_wp2_with fail;go_ret;exact⟨rfl,HL14.out.bel⟩
end Go.Proofs.YtcoolgnlhheaiaaGreatDoor
