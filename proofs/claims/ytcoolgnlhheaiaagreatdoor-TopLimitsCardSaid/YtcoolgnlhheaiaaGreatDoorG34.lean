import Derived.Test.YtcoolgnlhheaiaaGreatDoorG22
namespace Go.Proofs.YtcoolgnlhheaiaaGreatDoor
open Go.RowKit Go.Deep
set_option linter.all false
set_option maxRecDepth 100000
set_option maxHeartbeats 2000000
theorem dM {P:Program} {fn:Func} {p q u:Tmp} {tz:TypeId} (h:fn.results=#[.tmp p,.cell q tz,.tmp u]) (tmps:Array Value) (w:World) (k:Nat) (t':TypeId) (ds:Array Value) (fs:Nat×Nat) (d':TypeDesc)
 (hq:tmps.getD q undef= .pointer (some ⟨k,0,none⟩)) (hk:w.heap[k]? =some (.cells ds t' fs))
 (hu':P.underlying tz=some d') (hd':(match d' with| .struct _| .array _ _=>true|_=>false)=true) (hi':(P.info? tz).map (·.size)=some ds.size):
 (results fn tmps).run P w= .ok (.tuple #[tmps.getD p undef,.agg ds,tmps.getD u undef]) w:=by
 have hq':tmps[q]?.getD undef= .pointer (some ⟨k,0,none⟩):=by simpa using hq
 simp[results,h,hq',asAddr,run_loadVar_row w k t' tz ds fs d' hk hu' hd' hi']
theorem Frm.parse_len {s:List Nat} {g:Nat} {p:List Nat} (h:Frm.parse s=some (g,p)):p.length≤54:=by
 unfold Frm.parse at h;split at h;·cases h
 rename_i h1;split at h;·cases h
 split at h;·cases h
 simp only[Option.some.injEq,Prod.mk.injEq] at h;rw[←h.2,List.length_take];omega
theorem Rd.keepT {w w':World} {p b:Nat} {r:Wir.R} {cs:Array Value} {t:TypeId} {fr:Nat×Nat} (h:Rd w p r) (k:w.grownBy w' (some b)) (hb:w.heap[b]? =some (.cells cs t fr)) (ht:t≠5) (hp:b≠p):Rd w' p r:=by
 have hlt:=h.lt;obtain⟨v,hv,hbs,hn⟩:=h;have hne:∀g,v.ownBlock=some g→g≠b:=fun g hg e=>by
  obtain⟨_,cs',fr',h'⟩:=hn g hg;rw[e,hb] at h';simp only[Option.some.injEq,Obj.cells.injEq] at h';exact ht h'.2.1
 refine⟨v,(k.block p hlt (by simpa using fun e=>hp e.symm)).trans hv,hbs.only k ?_,fun g hg=>⟨(hn g hg).1,(hn g hg).2.of_block (k.block g (Nat.lt_trans (hn g hg).1 hlt) (by simpa using hne g hg))⟩⟩
 cases ho:v.ownBlock with
 |none=>exact .inl rfl
 |some g=>exact .inr (by simpa using hne g ho)
theorem Frm.redx_lt {p:List Nat} (h:AllB p):Frm.redx p<18446744073709551616:=by
 have hd:AllB (p.drop 32):=h.drop 32;unfold Frm.redx;rw[show((32:Int))=((32:Nat):Int) by rfl,show((8:Int))=((8:Nat):Int) by rfl]
 by_cases h32:p.length<32
 ·have e1:(Wir.take ⟨p,false⟩ (32:Nat)).1=Wir.failed:=by
   unfold Wir.take Wir.next;rw[if_neg (by omega)];dsimp only;rw[if_pos (by simp;omega)]
  have e2:(Wir.num Wir.failed (8:Nat)).2=0:=by
   unfold Wir.num Wir.number Wir.next;rw[if_neg (by omega)];dsimp only;rw[if_pos (by simp[Wir.failed])];rfl
  rw[e1,e2];omega
 ·rw[take_take p 32 (by omega)]
  dsimp only
  by_cases h40:p.length<40
  ·rw[wE _ 8 (by omega) (by rw[List.length_drop];omega)];dsimp only;omega
  ·rw[fF _ 8 (by omega) (by rw[List.length_drop];omega)]
   have:=Wir.be_lt (p.drop 32) hd 8 (by rw[List.length_drop];omega);dsimp only;omega
theorem aIU (l:List Nat) (e x:Int):(ev ⟨l,e⟩).setIfInBounds 32 (.int .i64 x)=ev ⟨l,x⟩:=by
 apply Array.ext_getElem?;intro i
 by_cases h:i=32
 ·subst h
  rw[Array.getElem?_setIfInBounds_self_of_lt (by rw[bP];omega),d9]
 ·rw[Array.getElem?_setIfInBounds_ne (by omega)]
  by_cases h2:i<32
  ·rw[lD _ h2,lD _ h2]
  ·rw[Array.getElem?_eq_none (by rw[bP];omega),Array.getElem?_eq_none (by rw[bP];omega)]
def aJ1 (o:Option (Nat×bC)) (w:World) (e:Ending) (w':World):Prop:=
 e= .returned (.tuple #[.int .u32 ((o.getD (0,eJ)).1:Nat),.agg (ev (o.getD (0,eJ)).2),.bool o.isSome])∧Below w.heap.size w w'
theorem vW (s:List Nat) (w:World) (ho:Frm.okS s):Calls Tryz.prog 243 #[sv s] w (aJ1 (Frm.parseE s) w):=by
 have b0:=(aN w 191 .u8 64 (aT s)).alloc (.cells (ev eJ) 73);have r0:=Hb.new (w.alloc (.cells (aH .u8 64 (aT s)) 191)) (ev eJ) 73;rw[World.size_alloc] at r0;have g0:=aG (aG (aE w none) (.cells (aH .u8 64 (aT s)) 191)) (.cells (ev eJ) 73);have hz:=aA .u8 64 (aT s);generalize hR:Frm.parseE s=R;have HR:=aD hR;clear hR;unfold sv;go_enter Tryz.func243,Tryz.ntmps243;go_upto_region 1 with fail;rw[←ev0];generalize (w.alloc (.cells (aH .u8 64 (aT s)) 191)).alloc (.cells (ev eJ) 73)=V at*;obtain⟨br,hbr⟩:∃n,n=w.heap.size+1:=⟨_,rfl⟩;rw[←hbr] at r0 ⊢;have hbr0:w.heap.size≤br:=by omega
 clear hbr;go_wp2_with (refine wpList_load_row rfl _ _ rfl w.heap.size rfl _ _ (0,0) _ b0 rfl rfl (by rw[aA];rfl) ?_);refine(nL s V ho).mono ?_;rintro e w1 ⟨hb,v,g,p,rfl,o1,hp⟩;have g1:=aF g0 (aC hb none);have r1:=r0.only (aC hb none);have hp8:=fun(x:Nat×List Nat) (h:Frm.parse s=some x)=>Frm.parse_all ho.2 (g:=x.1) (p:=x.2) h
 obtain⟨va,vc,rfl⟩:=o1.form;have O1:=aD o1.bs.rs;clear o1 hb b0 g0 r0;have hes:=bP eJ
 cases hps:Frm.parse s with
 |none=>
  have E:=aD (show R=none by rw[←HR.out];unfold Frm.parseE;rw[hps]);rw[hps] at hp;clear HR hps hp8;go_wp2_with (first|refine wpList_buildTo rfl 73 _ rfl _ rfl (ev eJ) (by kernel_rfl) ?_|refine wpList_store_rowTo rfl _ _ _ rfl rfl br _ rfl rfl _ _ r1 (cI _) (by rw[bP]) (gP _) ?_)
  try simp only[Exit.inBlock,Exit.then,Exit.noGoto_ret]
  refine bodyPost_ret (dM rfl _ _ br _ _ (0,0) _ rfl (r1.row _).1 rfl rfl (cI _)) rfl ?_;exact⟨by rw[E.out];rfl,aB (aO g1 (r1.row _).2 hbr0)⟩
 |some x=>
  rw[hps] at hp;obtain rfl:(g,p)=x:=hp;have hpa:=hp8 _ hps;have E:=aD (show R=if p.length≠40∨4611686018427387904<Wir.be (p.drop 32) then none else some (g,⟨p.take 32,Wir.be (p.drop 32)⟩) by rw[←HR.out];unfold Frm.parseE;rw[hps]);have hps0:=hps;clear HR hps hp8;have hpl:=O1.out.len;have hrl:=r1.lt;have HPS:=aD hps0;clear hps0;have hk:=Hb.new w1 (ev eJ) 73;have gk:=aG (aE w1 none) (.cells (ev eJ) 73);go_upto_region 5 with fail;rw[←ev0];have r2:=r1.only gk;have g2:=aF g1 gk;have O2:=aD (O1.out.below (aB gk));clear r1 g1 gk O1;generalize w1.alloc (.cells (ev eJ) 73)=w2 at*;generalize w1.heap.size=bk at*;have hkw:=hk.lt;have hpn:=Frm.parse_len HPS.out;clear HPS;go_upto_region 6 with (go_at_call 162;refine(jO _ p _ O2.out (by omega)).mono ?_;rintro e w3 ⟨pr,rfl,hpr,hr3,hb3⟩);have k3:=hk.only (aC hb3 none);have r3:=r2.only (aC hb3 none);have g3:=aF g2 (aC hb3 none);have hbk:bk<pr:=by omega
  clear hk r2 g2 hb3 O2;have hr3':Rd (w3.drewN 1) pr ⟨p,false⟩:=hr3;have k3':Hb (w3.drewN 1) bk (ev eJ) 73:=k3;have r3':Hb (w3.drewN 1) br (ev eJ) 73:=r3;have g3':=aM g3 1;refine bO Tryz.f243 6 5 (fun _=>True) (by kernel_rfl) (by kernel_rfl) (by kernel_rfl) trivial (fun K hK _=>?_);refine aW (listed':=#[false,false,false,false,false]) (by kernel_rfl) rfl ?_;have HF:=aD hK;clear hK;clear hr3 k3 r3 g3;generalize w3.drewN 1=U at*;refine aX 0 22 (.pointer (some ⟨bk,0,none⟩)) (fun _ _=>by kernel_rfl) trivial ?_;simp only[Act.put,aJ,aK,aI];refine aX 1 23 (.slice (some ⟨bk,0,none⟩) 32 32) (fun _ _=>by kernel_rfl) trivial ?_;simp only[Act.put,aJ,aK,aI];refine aX 2 24 (.pointer (some ⟨pr,0,none⟩)) (fun _ _=>by kernel_rfl) trivial ?_;simp only[Act.put,aJ,aK,aI];refine bE 3 25 231 #[.pointer (some ⟨pr,0,none⟩),.int .i64 32] (by kernel_rfl) (by kernel_rfl) ?_;refine(jI pr ⟨p,false⟩ 32 U hr3' (by omega) (by show p.length≤_;omega)).mono ?_;rintro e w4 ⟨v4,rfl,o4,hr4,hg4⟩;refine⟨_,rfl,trivial,?_⟩;simp only[Act.put,aJ,aK,aI];have k4:=Hb.keep k3' hg4 (by simp;omega);have r4:=Hb.keep r3' hg4 (by simp;omega);have g4:=aO g3' hg4 (by omega);have hp4:=hr4.lt;have hd4:(opn (iJ Tryz.f243 6) 4).dst=some 26:=by kernel_rfl
  refine aR 4 (by kernel_rfl) (by kernel_rfl) (HStep.of_law #[] (by kernel_rfl) fun K' hK'=>?_);refine aEN rfl (.tmp 23) (.tmp 25) (by kernel_rfl) bk 32 (by kernel_rfl) k4 v4 (Frm.redl p) (by kernel_rfl) o4.bs.rs (Frm.redl_len p) ?_;intro w5 cs k5 hcs hc5 hg5;rw[hd4];refine bH (hK' _ _ trivial ?_);simp only[Act.put,aJ,aK,aI];refine aZ (by kernel_rfl) (HF.out _ _ ?_);have hr5:Rd w5 pr (Wir.take ⟨p,false⟩ 32).1:=Rd.keepT hr4 hg5 k4 (by decide) (by omega);have r5:=Hb.keep r4 hg5 (by simp;omega);have g5:=aO g4 hg5 (by omega);clear HF hr3' k3' r3' g3' o4 hr4 hg4 k4 r4 g4 hg5 hd4;have hx64:Frm.redx p<18446744073709551616:=Frm.redx_lt hpa;have hlz:=Frm.redl_len p;have hgq:= @Frm.red40 p;have hgn:= @Frm.red_not p;have HC:=aD (aQ hc5 (aQ hgq hgn));clear hc5 hgq hgn hpa;go_upto_region 8 with (go_at_call 164;refine(cH pr _ 8 _ hr5).mono ?_;rintro e w6 ⟨rfl,hr6,hg6⟩);have hr6':Rd w6 pr (Frm.red p):=hr6;rw[show(Wir.num (Wir.take ⟨p,false⟩ 32).1 8).2=Frm.redx p by rfl];have k6:=Hb.keep k5 hg6 (by simp;omega);have r6:=Hb.keep r5 hg6 (by simp;omega);have g6:=aO g5 hg6 (by omega);clear hr5 hr6 hg6 k5 r5 g5;generalize hX:Frm.redx p=X at*;have HX:=aD hX;clear hX;generalize hQ:(!(Frm.red p).bad&&(Frm.red p).l.length==0)=qd;have HQ:=aD hQ;clear hQ;have hcase:(qd=false∧R=none)∨(qd=true∧4611686018427387904<X∧R=none)∨(qd=true∧¬4611686018427387904<X∧R=some (g,⟨Frm.redl p,X⟩)∧cs=ev ⟨Frm.redl p,0⟩):=by
   by_cases h40:p.length=40
   ·obtain⟨q1,q2,q3⟩:=HC.out.2.1 h40
    have hq:qd=true:=HQ.out.symm.trans q1
    by_cases hX:4611686018427387904<X
    ·exact .inr (.inl ⟨hq,hX,by rw[E.out,if_pos (.inr (by rw[←q2];exact hX))]⟩)
    ·exact .inr (.inr ⟨hq,hX,by rw[E.out,if_neg (by rw[←q2];omega),←q2,←q3],HC.out.1 (by rw[q3,List.length_take];omega)⟩)
   ·exact .inl ⟨HQ.out.symm.trans (HC.out.2.2 h40),by rw[E.out,if_pos (.inl h40)]⟩
  have hdone:=dO pr (Frm.red p) w6 hr6';rw[HQ.out] at hdone;clear E HC HX HQ hr6';rcases hcase with ⟨rfl,hR⟩|⟨rfl,hX,hR⟩|⟨rfl,hX,hR,rfl⟩
  rotate_left 2
  ·have ER:=aD hR;clear hR
   have c32:=k6.cell (d9 ⟨Frm.redl p,0⟩);have f32:=k6.frozen 32;have KK:=aD (k6.set 32 (.int .i64 (X:Int)));rw[aIU] at KK;have RR:=aD (r6.far (p:=⟨bk,32,none⟩) (by simp;omega) (.int .i64 (X:Int)));have GG:=aD (aO g6 (bA (aE w6 (some bk)) 32 (.int .i64 (X:Int))) (by omega));clear k6 r6 g6;go_upto_region 11 with (go_at_call 166;refine hdone.mono ?_;rintro e w7 ⟨rfl,rfl⟩)
   all_goals first|omega|skip
   have KK2:Hb ((w6.setCell ⟨bk,32,none⟩ (.int .i64 (X:Int))).drewN 1) bk (ev ⟨Frm.redl p,X⟩) 73:=KK.out;have RR2:Hb ((w6.setCell ⟨bk,32,none⟩ (.int .i64 (X:Int))).drewN 1) br (ev eJ) 73:=RR.out;have GG2:=aM GG.out 1;refine bO Tryz.f243 11 5 (fun w'=>Hb w' bk (ev ⟨Frm.redl p,X⟩) 73) (by kernel_rfl) (by kernel_rfl) (by kernel_rfl) KK2 (fun K hK h0=>?_);refine aW (listed':=#[false,false,false,false,false]) (by kernel_rfl) rfl ?_;have HF:=aD hK;clear hK;clear KK RR GG c32 f32;generalize (w6.setCell ⟨bk,32,none⟩ (.int .i64 (X:Int))).drewN 1=U7 at*;refine aX 0 40 (.int .u32 (g:Int)) (fun _ _=>by kernel_rfl) h0 ?_;simp only[Act.put,aJ,aK,aI];refine bG 1 41 (by kernel_rfl) 73 (.tmp 8) (by kernel_rfl) ⟨bk,0,none⟩ (by kernel_rfl) (ev ⟨Frm.redl p,X⟩) _ (fun w' hw' j v hj=>by rw[Addr.add_lit,Nat.zero_add];exact hw'.cell hj) Tryz.underlying73 rfl (cI _) h0 ?_;simp only[Act.put,aJ,aK,aI];refine aX 2 2 (.int .u32 (g:Int)) (fun _ _=>by kernel_rfl) h0 ?_;simp only[Act.put,aJ,aK,aI];have z:=RR2.row (ev ⟨Frm.redl p,X⟩);have h1:Hb (U7.setRow br (ev ⟨Frm.redl p,X⟩)) bk (ev ⟨Frm.redl p,X⟩) 73:=KK2.keep z.2 (by simp;omega);refine kK 3 (by kernel_rfl) (by kernel_rfl) (by kernel_rfl) 73 (.tmp 3) (.tmp 41) (by kernel_rfl) (by kernel_rfl) br _ _ (by kernel_rfl) (by kernel_rfl) _ RR2 (cI _) (by simp only[bP]) (gP _) h1 ?_;simp only[aJ,aK,aI];refine aX 4 4 (.bool true) (fun _ _=>by kernel_rfl) h1 ?_;simp only[Act.put,aJ,aK,aI];refine aZ (by kernel_rfl) (HF.out _ _ ?_);clear HF h0 h1;go_wp2_with fail
   try simp only[Exit.inBlock,Exit.then,Exit.noGoto_ret]
   refine bodyPost_ret (dM rfl _ _ br _ _ (0,0) _ rfl z.1 rfl rfl (cI _)) rfl ?_;exact⟨by rw[ER.out];rfl,aB (aO GG2 z.2 hbr0)⟩
  all_goals
   have ER:=aD hR;clear hR;go_wp2_with (first|(go_at_call 166;refine hdone.mono ?_;rintro e w7 ⟨rfl,rfl⟩)|refine wpList_buildTo rfl 73 _ rfl _ rfl (ev eJ) (by kernel_rfl) ?_|refine wpList_store_rowTo rfl _ _ _ rfl rfl br _ rfl rfl _ _ r6 (cI _) (by rw[bP]) (gP _) ?_)
   all_goals first|omega|skip
   try simp only[Exit.inBlock,Exit.then,Exit.noGoto_ret]
   refine bodyPost_ret (dM rfl _ _ br _ _ (0,0) _ rfl (r6.row _).1 rfl rfl (cI _)) rfl ?_;exact⟨by rw[ER.out];rfl,aB (aO g6 (r6.row _).2 hbr0)⟩
end Go.Proofs.YtcoolgnlhheaiaaGreatDoor
