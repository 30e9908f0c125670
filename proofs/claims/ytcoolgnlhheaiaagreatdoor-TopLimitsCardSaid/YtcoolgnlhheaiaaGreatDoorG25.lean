import Derived.Test.YtcoolgnlhheaiaaGreatDoorG21
namespace Go.Proofs.YtcoolgnlhheaiaaGreatDoor
open Go.RowKit Go.Deep
set_option linter.all false
set_option maxRecDepth 100000
set_option maxHeartbeats 4000000
theorem aJD {w:World} {ops:Array Oper} {rest:List Oper} {o:Oper} {a:Act} {Q:Exit→Act→World→Prop} (hgd:o.guard=none) (x y:Operand) (ho:o.op= .buildSlice 197 2 #[(0,x),(1,y)]) (u v:Value) (l m:List Nat)
 (hx:a.eval x=u) (hy:a.eval y=v) (hu:Rs w u l) (hv:Rs w v m)
 (h:∀g w',Bss w' (.slice (some ⟨g,0,none⟩) 2 2) [l,m]→w.grownBy w' none→wpList Tryz.prog ops Q rest (a.put o.dst (.slice (some ⟨g,0,none⟩) 2 2)) w'):wpList Tryz.prog ops Q (o::rest) a w:=by
 obtain⟨p,k,rfl⟩:=hu.form;obtain⟨q,j,rfl⟩:=hv.form;refine wpList_plain hgd fun K' hK'=>?_
 have hrun:=q8 o a w x y p q _ k _ j ho hx hy;unfold Oper.wp;rw[hrun];exact hK' _ _ (h _ _ (jA hu hv) (aG (aE w none) _))
theorem zG (g n:Nat) (h0:0<n) (hn:n<64) (w:World):(Instr.sliceAt 191 (.pointer (some ⟨g,0,none⟩)) (some (.int .i64 (n:Int))) none none).run Tryz.prog w= .ok (.slice (some ⟨g,n,none⟩) (64 - n) (64 - n)) w:=by
 have hl:Tryz.prog.arrayLen 191=64:=by kernel_rfl
 have hs:(sizeOf (Tryz.prog.elem 191)).run Tryz.prog w= .ok 1 w:=by kernel_rfl
 rw[run_sliceAt_array_l (P:=Tryz.prog) w 191 ⟨g,0,none⟩ (by kernel_rfl) .i64 (n:Int) (by omega) (by rw[hl];omega),hs,hl];simp[Result.andThen,slicedAt,Addr.add,show ¬64=n by omega,show ¬n=0 by omega]
theorem zS {a b:List Nat} {off:Nat} (ha:a.length=off) (c:List Nat) (hbc:c.length=b.length) (r:List Nat):∀i,Dsk.lay (aT (a++(c++r))) off b.length b i=aT (a++(b++r)) i:=by
 subst ha;intro i;unfold Dsk.lay aT;simp only[List.getD_eq_getElem?_getD]
 by_cases h1:i<a.length
 ·rw[if_neg (by omega),List.getElem?_append_left (by omega),List.getElem?_append_left (by omega)]
 ·have e1:(a++(c++r))[i]? =(c++r)[i - a.length]? :=List.getElem?_append_right (by omega)
  have e2:(a++(b++r))[i]? =(b++r)[i - a.length]? :=List.getElem?_append_right (by omega);rw[e1,e2]
  by_cases h2:i<a.length+b.length
  ·rw[if_pos (by omega),List.getElem?_append_left (by omega)]
  ·rw[if_neg (by omega),List.getElem?_append_right (by omega),List.getElem?_append_right (by omega),hbc]
theorem qN (l:List Nat) (n:Nat):aT (l++List.replicate n 0)=aT l:=by
 funext i;unfold aT;simp only[List.getD_eq_getElem?_getD]
 by_cases h:i<l.length
 ·rw[List.getElem?_append_left h]
 ·rw[List.getElem?_append_right (by omega),List.getElem?_eq_none (l:=l) (by omega),List.getElem?_replicate]
  split<;>rfl
def zZ (s:List Nat) (w:World) (e:Ending) (w':World):Prop:=e= .returned (.tuple #[sv s,.bool true])∧w.grownBy w' none
theorem pL (g:Nat) (v:Value) (p:List Nat) (w:World) (hg:g<4294967296) (hv:Rs w v p) (hp:p.length≤54):Calls Tryz.prog 245 #[.int .u32 (g:Int),v] w (zZ (Frm.mk g p) w):=by
 obtain⟨va,vc,rfl⟩:=hv.form;have hpa:=hv.all;have HV:=aD hv;clear hv;generalize hm:Frm.mk g p=s;have HM:=aD hm;clear hm;have hjl:(Wir.join [Wir.enc 2 p.length,p]).length≤64:=by simp[Wir.join,Wir.enc_length];omega
 have b4:=aN w 191 .u8 64 (fun _=>0);have g4:=aG (aE w none) (.cells (aH .u8 64 (fun _=>0)) 191);have HW:=aD (HV.out.below (aB g4));have hz:=aA .u8 64 (fun _=>0);clear HV;go_enter Tryz.func245,Tryz.ntmps245;go_upto_region 3 with fail
 all_goals first|omega|skip
 rw[z64];generalize w.alloc (.cells (aH .u8 64 (fun _=>0)) 191)=W at*
 go_upto_region 4 with (first
  |(go_at_call 255;refine(fQ 2 p.length _ (by omega) (by omega) (by omega)).mono ?_;rintro e w2 ⟨v2,rfl,o2,hb2⟩;have r2:=o2.bs.rs;have hp2:=HW.out.below hb2)
  |(refine aJD rfl _ _ rfl _ _ (Wir.enc 2 p.length) p rfl rfl r2 hp2 ?_;intro g3 w3 bs3 hg3)
  |(go_at_call 179;refine(iW _ _ _ bs3 (by omega)).mono ?_;rintro e w4 ⟨v4,rfl,o4,hb4⟩;have r4:=o4.bs.rs)
  |(go_at_call 276;refine(aBJ _ _ _ r4 hjl).mono ?_;rintro e w5 ⟨rfl,hg5⟩)
  |refine wpList_store_rowTo rfl _ _ _ rfl rfl w5.heap.size _ rfl rfl _ _ (Hb.new w5 _ _) (by rw[aA];rfl) (by rw[aA];rfl) (aL _ _ _) ?_)
 all_goals first|omega|skip
 rw[z64];have b6:=(Hb.new w5 (aH .u8 64 (fun _=>0)) 191).row (aH .u8 64 (aT (Wir.join [Wir.enc 2 p.length,p])));have b4':Hb ((w5.alloc (.cells (aH .u8 64 (fun _=>0)) 191)).setRow w5.heap.size (aH .u8 64 (aT (Wir.join [Wir.enc 2 p.length,p])))) w.heap.size (aH .u8 64 (fun _=>0)) 191:=by
  have h0:=b4.lt;have h1:=hb2.size;have h2:=hg3.size;have h3:=hb4.size;have h4:=hg5.size;have k2:Hb w2 w.heap.size _ _:=Hb.only b4 (aC hb2 none);exact Hb.keep (((k2.only hg3).only (aC hb4 none)).only hg5 |>.alloc _) b6.2 (by simp;omega)
 have g6:w.grownBy ((w5.alloc (.cells (aH .u8 64 (fun _=>0)) 191)).setRow w5.heap.size (aH .u8 64 (aT (Wir.join [Wir.enc 2 p.length,p])))) none:=
  aO (aG (aF (aF (aF (aF g4 (aC hb2 none)) hg3) (aC hb4 none)) hg5) _) b6.2 (by have:=b4.lt;have h1:=hb2.size;have h2:=hg3.size;have h3:=hb4.size;have h4:=hg5.size;omega)
 have hw5:w.heap.size<w5.heap.size:=by have:=b4.lt;have h1:=hb2.size;have h2:=hg3.size;have h3:=hb4.size;have h4:=hg5.size;omega
 have e0:aT (Wir.join [Wir.enc 2 p.length,p])=aT (Frm.body p++(List.replicate 4 0++List.replicate 4 0)):=by
  rw[show List.replicate 4 0++List.replicate 4 0=List.replicate 8 0 by rfl,qN];unfold Frm.body;rw[←List.append_assoc,qN];simp[Wir.join]
 rw[e0] at b6 b4' g6 ⊢;have HB6:=aD b6.1;have HB4:=aD b4';have HG6:=aD g6;clear b6 b4' g6 e0 b4 g4 HW hb2 r2 hp2 o2 bs3 hg3 o4 hb4 r4 hg5;generalize (w5.alloc (.cells (aH .u8 64 (fun _=>0)) 191)).setRow w5.heap.size (aH .u8 64 (aT (Frm.body p++(List.replicate 4 0++List.replicate 4 0))))=w6 at*;generalize w5.heap.size=b at*;go_upto_region 5 with (go_at_call 255;refine(fQ 4 g _ (by omega) (by omega) (by omega)).mono ?_;rintro e w7 ⟨v7,rfl,o7,hb7⟩);have k7a:=Hb.only HB6.out (aC hb7 none);have q7a:=Hb.only HB4.out (aC hb7 none);have k7:isArr (w7.drewN 1) b 191 .u8 64 (aT (Frm.body p++(List.replicate 4 0++List.replicate 4 0))):=k7a;have q7:Hb (w7.drewN 1) w.heap.size (aH .u8 64 (fun _=>0)) 191:=q7a;clear k7a q7a;have g7:w.grownBy (w7.drewN 1) none:=aM (aF HG6.out (aC hb7 none)) 1;have r7:Rs (w7.drewN 1) v7 (Wir.enc 4 g):=o7.bs.rs;have hvb:∀x,v7.ownBlock=some x→b<x:=fun x hx=>by have:=(o7.lt x hx).1;have:=Hb.lt HB6.out;omega
 have o7':Own (w7.drewN 1) w6.heap.size v7 (Wir.enc 4 g):=o7;have hbl:=Frm.body_len hp;have hba:=Frm.body_all hpa;have hok:Frm.okS (Frm.body p++(List.replicate 4 0++List.replicate 4 0)):=⟨by simp[hbl],AllB.append hba (AllB.append (AllB.replicate _ _ (by omega)) (AllB.replicate _ _ (by omega)))⟩;have s7:=eO k7 hok 0 56 64 (by omega) (by omega) (by omega);rw[List.drop_zero,List.take_left' hbl] at s7;refine bO Tryz.f245 5 8 (fun _=>True) (by kernel_rfl) (by kernel_rfl) (by kernel_rfl) trivial (fun K hK _=>?_);refine aW (listed':=#[false,false,false,false,false,false,false,false]) (by kernel_rfl) rfl ?_;have HF:=aD hK;clear hK;clear HB6 HB4 HG6 hb7 o7;generalize w7.drewN 1=U at*;refine aX 0 27 (.slice (some ⟨b,56,none⟩) 8 8) (fun _ _=>by kernel_rfl) trivial ?_;simp only[Act.put,aJ,aK,aI];refine aX 1 28 (.slice (some ⟨b,0,none⟩) 56 64) (fun _ _=>by kernel_rfl) trivial ?_;simp only[Act.put,aJ,aK,aI];refine aX 2 29 v7 (fun _ _=>by kernel_rfl) trivial ?_;simp only[Act.put,aJ,aK,aI];refine aR 3 (by kernel_rfl) (by kernel_rfl) (HStep.l2 (some 30) (by kernel_rfl) (by kernel_rfl) (.tmp 28) (.tmp 29) (.slice (some ⟨b,0,none⟩) 56 64) v7 (Frm.body p) (Wir.enc 4 g) (by kernel_rfl) (by kernel_rfl) (by kernel_rfl) s7 r7 (fun _ _=>trivial) (fun w8 v8 hb8 hbs8=>?_));simp only[Act.put,aJ,aK,aI];refine bE 4 31 277 #[v8] (by kernel_rfl) (by kernel_rfl) ?_;have hparts:∀l∈[Frm.body p,Wir.enc 4 g],l.length<64∧AllB l:=fun l hl'=>by
  simp only[List.mem_cons,List.not_mem_nil,or_false] at hl';rcases hl' with rfl|rfl
  ·exact⟨by omega,hba⟩
  ·exact⟨by rw[Wir.enc_length];omega,Frm.enc_all _ _⟩
 refine(uC v8 _ w8 hbs8 (fun l hl'=>(hparts l hl').1) (fun l hl'=>(hparts l hl').2)).mono ?_;rintro e w9 ⟨rfl,hg9⟩;refine⟨_,rfl,trivial,?_⟩;have hC:=Crc.sum_lt [Frm.body p,Wir.enc 4 g];have HS:=aD (show s=Frm.body p++(Wir.enc 4 (Crc.sum [Frm.body p,Wir.enc 4 g])++Wir.enc 4 g) from HM.out.symm);clear HM hparts;generalize Crc.sum [Frm.body p,Wir.enc 4 g]=C at*;simp only[Act.put,aJ,aK,aI];refine aX 5 32 (.int .u64 (C:Int)) (fun w' _=>?_) trivial ?_
 ·have e:(opn (iJ Tryz.f245 5) 5).op= .convert 44 194 (.tmp 31):=by kernel_rfl
  unfold execOp;rw[e];simp only[Act.eval,Array.getD_eq_getD_getElem?,List.getElem?_toArray,List.getElem?_cons_succ,List.getElem?_cons_zero,Option.getD_some];rw[Sem.run_bind,aEK C hC];rfl
 simp only[Act.put,aJ,aK,aI];refine bE 6 33 255 #[.int .i64 4,.int .u64 (C:Int)] (by kernel_rfl) (by kernel_rfl) ?_;refine(fQ 4 C w9 (by omega) (by omega) (by omega)).mono ?_;rintro e w10 ⟨v10,rfl,o10,hb10⟩;refine⟨_,rfl,trivial,?_⟩;simp only[Act.put,aJ,aK,aI];have hB10:U.grownBy w10 none:=aF (aF (aC hb8 none) hg9) (aC hb10 none);have k10:isArr w10 b 191 .u8 64 (aT (Frm.body p++(List.replicate 4 0++List.replicate 4 0))):=Hb.only k7 hB10;have q10:=q7.only hB10;have o77:=o7'.below (aB hB10);have g10:=aF g7 hB10;have r10:=o10.bs.rs;have hd7:(opn (iJ Tryz.f245 5) 7).dst=some 34:=by kernel_rfl
 clear k7 q7 g7 o7' hB10 hb10 hg9 hb8 hbs8 s7 r7 o10;refine aR 7 (by kernel_rfl) (by kernel_rfl) (HStep.of_law #[] (by kernel_rfl) fun K' hK'=>?_);refine kT rfl (.tmp 27) (.tmp 33) (by kernel_rfl) b 56 8 8 64 _ _ (by kernel_rfl) k10 (by omega) v10 (Wir.enc 4 C) (by kernel_rfl) r10 ?_;intro w11 b11 g11;rw[hd7];refine bH (hK' _ _ trivial ?_);simp only[Act.put,aJ,aK,aI];refine aZ (by kernel_rfl) (HF.out _ _ ?_);clear HF;have e11:aH .u8 64 (Dsk.lay (aT (Frm.body p++(List.replicate 4 0++List.replicate 4 0))) 56 (Nat.min (Wir.enc 4 C).length 8) (Wir.enc 4 C))=aH .u8 64 (aT ((Frm.body p++Wir.enc 4 C)++(List.replicate 4 0++[]))):=by
  refine dS _ _ _ _ fun i _=>?_
  rw[show Nat.min (Wir.enc 4 C).length 8=(Wir.enc 4 C).length from Nat.min_eq_left (by rw[Wir.enc_length];omega),zS hbl _ (by rw[Wir.enc_length];simp)];simp
 have b12:isArr w11 b 191 .u8 64 (aT ((Frm.body p++Wir.enc 4 C)++(List.replicate 4 0++[]))):=by
  unfold isArr at b11 ⊢;rw[←e11];exact b11
 have q11:=q10.keep g11 (by simp;omega)
 have r11:=aD (o77.only g11 (by
  cases hv:v7.ownBlock with
  |none=>exact .inl rfl
  |some x=>exact .inr (fun e=>by have:=hvb x hv;cases e;omega))).bs.rs
 have G11:=aD (aO g10 g11 (by omega));clear b11 e11 q10 o77 g10 g11 r10 k10;have hsl:=zG b 60 (by omega) (by omega);have hle:(Wir.enc 4 C).length=4:=Wir.enc_length _ _;have hlg:(Wir.enc 4 g).length=4:=Wir.enc_length _ _;go_upto_region 7 with (refine kT rfl _ _ rfl b 60 4 4 64 _ _ rfl b12 (by omega) v7 (Wir.enc 4 g) rfl r11.out ?_;intro w12 b13 g12);have e13:aH .u8 64 (Dsk.lay (aT (Frm.body p++Wir.enc 4 C++(List.replicate 4 0++[]))) 60 (Nat.min (Wir.enc 4 g).length 4) (Wir.enc 4 g))=aH .u8 64 (aT s):=by
  refine dS _ _ _ _ fun i _=>?_
  rw[show Nat.min (Wir.enc 4 g).length 4=(Wir.enc 4 g).length from Nat.min_eq_left (by omega),zS (by simp[hbl,hle]) _ (by rw[hlg];simp),HS.out];simp
 have b14:isArr w12 b 191 .u8 64 (aT s):=by
  unfold isArr at b13 ⊢;rw[←e13];exact b13
 have q12:=q11.keep g12 (by simp;omega);have G12:=aO G11.out g12 (by omega);clear b13 e13 b12 q11 g12 hsl G11 r11;have hss:=aA .u8 64 (aT s);have z:=q12.row (aH .u8 64 (aT s));go_wp2_with (first|refine wpList_load_row rfl _ _ rfl b rfl _ _ (0,0) _ b14 rfl rfl (by rw[aA];rfl) ?_|refine wpList_store_rowTo rfl _ _ _ rfl rfl w.heap.size _ rfl rfl _ _ q12 (by rw[aA];rfl) (by rw[aA,aA]) (aL _ _ _) ?_)
 try simp only[Exit.inBlock,Exit.then,Exit.noGoto_ret]
 refine bodyPost_ret (bF rfl _ _ w.heap.size _ _ (0,0) _ rfl z.1 rfl rfl (by rw[aA];rfl)) rfl ?_;exact⟨rfl,aO G12 z.2 (Nat.le_refl _)⟩
end Go.Proofs.YtcoolgnlhheaiaaGreatDoor
