import Derived.Shelf.Abstract
import Derived.Test.YtcoolgnlhheaiaaGreatDoorG09
namespace Go.Proofs.YtcoolgnlhheaiaaGreatDoor
open Go.RowKit Go.Deep
set_option linter.all false
set_option maxRecDepth 100000
set_option maxHeartbeats 8000000
theorem lU (f:Nat→Nat):((Tryz.prog).info? 127).map (·.size)=some (aH .u8 8 f).size:=by rw[aA];rfl
def Ctr.half (nonce:Nat→Nat) (i m k:Nat):Nat:=if k<8 then nonce k else if 15 - k<m then i / 256 ^ (15 - k) % 256 else 0
theorem Ctr.half_all (nonce:Nat→Nat) (i k:Nat) (hk:k<16):Ctr.half nonce i 8 k=Ctr.blk nonce i k:=by
 unfold Ctr.half Ctr.blk
 by_cases h:k<8
 ·rw[if_pos h,if_pos h]
 ·rw[if_neg h,if_neg h,if_pos (by omega)]
theorem Ctr.half_next (nonce:Nat→Nat) (i m k:Nat) (hm:m<8) (hk:k<16):(if k=15 - m then i / 256 ^ m % 256 else Ctr.half nonce i m k)=Ctr.half nonce i (m+1) k:=by
 unfold Ctr.half
 by_cases h:k=15 - m
 ·rw[if_pos h,if_neg (by omega),if_pos (by omega),show 15 - k=m by omega]
 ·rw[if_neg h]
  by_cases h8:k<8
  ·rw[if_pos h8,if_pos h8]
  ·rw[if_neg h8,if_neg h8]
   by_cases h2:15 - k<m
   ·rw[if_pos h2,if_pos (by omega)]
   ·rw[if_neg h2,if_neg (by omega)]
def CKI (key nonce x:Nat→Nat) (w wr:World):Prop:=
 Below w.heap.size w wr∧isArr wr w.heap.size 22 .u8 16 key∧isArr wr (w.heap.size+1) 127 .u8 8 nonce∧isArr wr (w.heap.size+2) 22 .u8 16 (fun _=>0)∧isArr wr (w.heap.size+3) 22 .u8 16 x
theorem CKI.congr {key nonce x y:Nat→Nat} {w wr:World} (h:CKI key nonce x w wr) (e:∀t,t<16→x t=y t):CKI key nonce y w wr:=⟨h.1,h.2.1,h.2.2.1,h.2.2.2.1,h.2.2.2.2.congr e⟩
theorem CKI.set {key nonce x y:Nat→Nat} {w wr:World} (h:CKI key nonce x w wr) (i v:Nat) (hy:∀t,t<16→(if t=i then v else x t)=y t):CKI key nonce y w (wr.setCell ⟨w.heap.size+3,i,none⟩ (.int .u8 (v:Int))):=
 ⟨bM h.1 (by omega) _ _,h.2.1.setOther (by omega) _ _,h.2.2.1.setOther (by omega) _ _,h.2.2.2.1.setOther (by omega) _ _,(h.2.2.2.2.set i v).congr hy⟩
theorem sB (key nonce:Nat→Nat) (i:Nat) (w:World) (hk:Aes.B8 key) (hn:Aes.B8 nonce) (hi:i<18446744073709551616):
 Calls Tryz.prog 310 #[.agg (aH .u8 16 key),.agg (aH .u8 8 nonce),.int .u64 (i:Int)] w fun e w'=>e= .returned (.agg (aH .u8 16 (Ctr.bk key nonce i)))∧Below w.heap.size w w':=by
 have hsz:=aA .u8 16 key;have hsz2:=aA .u8 8 nonce;have HK:=aD hk;clear hk;have HN:=aD hn;clear hn;go_enter Tryz.func310,Tryz.ntmps310;go_upto_region 2 with fail;generalize hW:(World.alloc _ _:World)=V;have INV:CKI key nonce (fun _=>0) w V:=by
  rw[←hW];have z1:w.heap.size+1=(w.alloc (Obj.cells (aH IntKind.u8 16 key) 22)).heap.size:=by simp
  have z2:w.heap.size+2=((w.alloc (Obj.cells (aH IntKind.u8 16 key) 22)).alloc (Obj.cells (aH IntKind.u8 8 nonce) 127)).heap.size:=by simp
  have z3:∀o:Obj,w.heap.size+3=(((w.alloc (Obj.cells (aH IntKind.u8 16 key) 22)).alloc (Obj.cells (aH IntKind.u8 8 nonce) 127)).alloc o).heap.size:=by simp
  refine⟨((((Below.refl _ _).alloc (Nat.le_refl _) _).alloc (by simp) _).alloc (by simp;omega) _).alloc (by simp;omega) _,?_,?_,?_,?_⟩
  ·exact(((aN w _ _ _ _).alloc _).alloc _).alloc _
  ·rw[z1];exact((aN _ _ _ _ _).alloc _).alloc _
  ·rw[z2];first|exact dY.alloc _|exact zero16r.alloc _
  ·rw[z3];first|exact dY|exact zero16r
 have I0:=aD INV;have h0:Below w.heap.size w V:=INV.1;clear hW INV hsz hsz2;refine bO Tryz.f310 2 4 (fun w'=>Below w.heap.size w w') (by kernel_rfl) (by kernel_rfl) (by kernel_rfl) (aU h0 1) (fun K hK h0=>?_);refine aW (listed':=#[false,false,false,false]) (by kernel_rfl) rfl ?_;have HF:=aD hK;clear hK;refine aX 0 10 (.slice (some ⟨w.heap.size+3,0,none⟩) 16 16) (fun _ _=>by kernel_rfl) h0 ?_;simp only[Act.put,aJ,aK,aI];refine aX 1 11 (.slice (some ⟨w.heap.size+1,0,none⟩) 8 8) (fun _ _=>by kernel_rfl) h0 ?_;simp only[Act.put,aJ,aK,aI];refine aR 2 (by kernel_rfl) (by kernel_rfl) (HStep.of_law #[] (by kernel_rfl) fun K' hK'=>?_);refine yD rfl (.tmp 10) (.tmp 11) (by kernel_rfl) (w.heap.size+3) 16 _ _ (by kernel_rfl) (I0.out.2.2.2.2.drewN 1) _ _ (by kernel_rfl) ((I0.out.2.2.1.drewN 1).bs HN.out (by omega)).rs ?_;intro w7 hA7 hg7;have h7:Below w.heap.size w w7:=aP h0 (Nat.le_refl _) hg7 (fun q hq=>by cases hq;omega);have I7:CKI key nonce (Ctr.half nonce i 0) w w7:=by
  refine⟨h7,(I0.out.2.1.drewN 1).of_block (hg7.block _ I0.out.2.1.lt (by simp)),(I0.out.2.2.1.drewN 1).of_block (hg7.block _ I0.out.2.2.1.lt (by simp)),(I0.out.2.2.2.1.drewN 1).of_block (hg7.block _ I0.out.2.2.2.1.lt (by simp)),hA7.congr fun t ht=>?_⟩;unfold Ctr.half
  by_cases h8:t<8
  ·rw[if_pos (by simpa using h8),if_pos h8];simp[List.getD,h8]
  ·rw[if_neg (by simpa using h8),if_neg h8,if_neg (by omega)]
 refine hK' _ _ h7 ?_;have hd:(opn (iJ Tryz.f310 2) 2).dst=some 12:=by kernel_rfl
 rw[show({ opn (iJ Tryz.f310 2) 2 with guard:=none}:Oper).dst=some 12 from hd];simp only[Act.put,aJ,aK,aI];refine aX 3 8 (.int .i64 8) (fun _ _=>by kernel_rfl) h7 ?_;simp only[Act.put,aJ,aK,aI];refine aZ (by kernel_rfl) (HF.out _ _ ?_);have J7:=aD I7;clear HF h0 h7 hA7 hg7 I0 I7;go_wp2_with fail
 go_loopw [9,2] (fun j y wr=>∃m:Nat,m≤8∧j= .int .i64 (15 - (m:Int))∧y= .int .u64 ((i / 256 ^ m:Nat):Int)∧CKI key nonce (Ctr.half nonce i m) w wr) (fun j _ _=>(intOf j).toNat)
 case atStart=>exact⟨0,by omega,by simp,by simp,J7.out⟩
 case round=>
  clear J7;obtain⟨m,hm,rfl,rfl,hI⟩:=hrel;have HI:=aD hI
  by_cases hlt:m<8
  ·have hge:decide (8≤15 - (m:Int))=true:=by simp;omega
   have hcell:=hI.2.2.2.2.cell (i:=15 - m) (by omega);have hfroz:=hI.2.2.2.2.frozen (15 - m);have e15:15 - (m:Int)=((15 - m:Nat):Int):=by omega
   have hql:i / 256 ^ m<18446744073709551616:=Nat.lt_of_le_of_lt (Nat.div_le_self _ _) hi;have NX:=aD (HI.out.set (15 - m) (i / 256 ^ m % 256) (fun t ht=>Ctr.half_next nonce i m t hlt ht));have HDV:=aD (show i / 256 ^ (m+1)=i / 256 ^ m / 256 by rw[Nat.pow_succ,Nat.div_div_eq_div_mul]);generalize Ctr.half nonce i m (15 - m)=old at hcell;generalize i / 256 ^ m=q at hql NX HDV ⊢;clear hI;obtain⟨p,hp⟩:∃p,p=15 - m:=⟨_,rfl⟩;have ep:15 - (m:Int)=(p:Int):=by omega
   have HP:=aD hp;have HEP:=aD ep;rw[←hp] at hcell hfroz NX;rw[ep] at hge ⊢;have hp16:(p:Int)<16:=by omega
   have hp0:8≤(p:Int):=by omega
   clear e15 hp ep;go_wp2_with fail;go_roundw
   case rel=>exact⟨m+1,by omega,by have:=HP.out;congr 1;omega,by rw[HDV.out];rfl,NX.out⟩
   case measure=>have:=HP.out;simp[intOf];omega
  ·obtain rfl:m=8:=by omega
   have hge:decide (8≤15 - ((8:Nat):Int))=false:=by decide
   have k1:=hI.2.1;have I8:=aD (HI.out.congr (fun t ht=>Ctr.half_all nonce i t ht));have k2:=I8.out.2.2.2.2;clear hI HI;go_wp2_with (first|refine wpList_load_row rfl _ _ rfl w.heap.size rfl _ _ (0,0) _ k1 rfl rfl (a8 _) ?_|refine wpList_load_row rfl _ _ rfl (w.heap.size+3) rfl _ _ (0,0) _ k2 rfl rfl (a8 _) ?_|(go_at_call 313;refine(n8 _ _ _ HK.out (Ctr.blk_b8 HN.out i)).mono ?_;rintro e w9 ⟨rfl,hb9⟩;have k9:=I8.out.2.2.2.1.below hb9 I8.out.2.2.2.1.lt;have B9:=aD (I8.out.1.trans (hb9.mono I8.out.1.size));clear hb9)|(refine wpList_store_row rfl _ _ _ rfl (w.heap.size+2) _ rfl rfl _ _ k9 (a8 _) ((aA _ _ _).trans (aA _ _ _).symm) (aL _ _ _) ?_));exact bodyPost_ret (results_cell_row rfl _ _ (w.heap.size+2) _ _ (0,0) _ rfl (setRow_heap _ (w.heap.size+2) _ _ _ (0,0) k9) rfl rfl (a8 _)) rfl ⟨rfl,below_setRow B9.out (by omega) _⟩
end Go.Proofs.YtcoolgnlhheaiaaGreatDoor
namespace Go.Proofs.YtcoolgnlhheaiaaGreatDoor
open Go.RowKit Go.Deep
set_option linter.all false
set_option maxRecDepth 100000
set_option maxHeartbeats 8000000
attribute [local go_sem] Oper.semAt_some
def iY (key nonce:Nat→Nat) (i:Nat) (w:World):World:=((w.alloc (.cells (aH .u8 16 key) 22)).alloc (.cells (aH .u8 8 nonce) 127)).alloc (.cells #[.int .u64 (i:Int)] 194)
theorem sT (key nonce:Nat→Nat) (i:Nat) (w:World):(iY key nonce i w).heap.size=w.heap.size+3:=by simp[iY]
theorem rH (key nonce:Nat→Nat) (i:Nat) (w:World):Below w.heap.size w (iY key nonce i w):=
 (((Below.refl _ _).alloc (Nat.le_refl _) _).alloc (by simp) _).alloc (by simp;omega) _
theorem aA2 (key nonce:Nat→Nat) (i:Nat) (w:World):isArr (iY key nonce i w) w.heap.size 22 .u8 16 key∧isArr (iY key nonce i w) (w.heap.size+1) 127 .u8 8 nonce∧(iY key nonce i w).heap[w.heap.size+2]? =some (.cells #[.int .u64 (i:Int)] 194 (0,0)):=by
 have z1:w.heap.size+1=(w.alloc (Obj.cells (aH IntKind.u8 16 key) 22)).heap.size:=by simp
 have z2:w.heap.size+2=((w.alloc (Obj.cells (aH IntKind.u8 16 key) 22)).alloc (Obj.cells (aH IntKind.u8 8 nonce) 127)).heap.size:=by simp
 refine⟨((aN w _ _ _ _).alloc _).alloc _,?_,?_⟩
 ·rw[z1];exact(aN _ _ _ _ _).alloc _
 ·rw[z2];exact heap_alloc_new _ _
theorem yU (key nonce:Nat→Nat) (i:Nat) (w:World):
 Calls Tryz.prog 303 #[.agg (aH .u8 16 key),.agg (aH .u8 8 nonce),.int .u64 (i:Int)] w fun e w'=>
  e= .returned (.func (.func 309) #[] #[.pointer (some ⟨w.heap.size,0,none⟩),.pointer (some ⟨w.heap.size+1,0,none⟩),.pointer (some ⟨w.heap.size+2,0,none⟩)])∧iY key nonce i w=w':=by
 have hsz:=aA .u8 16 key;have hsz2:=aA .u8 8 nonce;go_enter Tryz.func303,Tryz.ntmps303;go_wp2_with fail;go_ret;exact⟨rfl,rfl⟩
def nI (w:World) (b:Nat):Nat:=match w.heap[b]? with
 |some (Obj.cells cs _ _)=>(match cs[0]? with|some (Value.int _ x)=>x.toNat|_=>0)
 |_=>0
theorem qU {w:World} {b x:Nat} {t:TypeId} (h:w.heap[b]? =some (.cells #[.int .u64 (x:Int)] t (0,0))):nI w b=x:=by
 unfold nI;rw[h];simp
theorem sX (key nonce:Nat→Nat) (hk:Aes.B8 key) (hn:Aes.B8 nonce) (i0 N:Nat) (hN:i0+N<18446744073709551616) (bk bn bi:Nat) (d1:bk≠bi) (d2:bn≠bi) (n l:Nat) (J:Nat→World→Prop) (Jx:World→Prop) (W0:World)
 (hT:∀j A B,J j A→A.grownBy B (some bi)→J j B) (hJ:∀j A,J j A→j<N)
 (hY:∀j W1,J j W1→YieldAt Fence.wide (n - 1) Tryz.prog l #[.agg (aH .u8 16 (Ctr.bk key nonce (i0+j)))] W1 fun e W'=>(e= .returned (.bool true)∧J (j+1) W'∧SameAt (fun k=>k=bk∨k=bn∨k=bi) W1 W')∨(e= .returned (.bool false)∧Jx W'))
 (h0:J 0 W0) (hbk:isArr W0 bk 22 .u8 16 key) (hbn:isArr W0 bn 127 .u8 8 nonce) (hbi:W0.heap[bi]? =some (.cells #[.int .u64 (i0:Int)] 194 (0,0))):
 CallsIn Fence.wide n Tryz.prog 309 (#[.func (.yield l) #[] #[]]++#[.pointer (some ⟨bk,0,none⟩),.pointer (some ⟨bn,0,none⟩),.pointer (some ⟨bi,0,none⟩)]) W0 fun e W'=>(∃v,e= .returned v)∧Jx W':=by
 have HT:=aD hT;have HJ:=aD hJ;have HY:=aD hY;have HK:=aD hk;have HN:=aD hn;have H0:=aD (aQ h0 (aQ hbk (aQ hbn hbi)));clear hT hJ hY hk hn h0 hbk hbn hbi;refine callsIn_of_wp Tryz.func309 rfl trivial ?_ rfl;simp only[Tryz.ntmps309,List.size_toArray,List.length_cons,List.length_nil,Nat.reduceAdd,Nat.reduceSub,Array.replicate_succ,Array.replicate_zero,List.push_toArray,List.append_toArray,List.nil_append,List.cons_append]
 gi_wp2_with fail
 gi_loopw [5] (fun _ wr=>∃j:Nat,J j wr∧isArr wr bk 22 .u8 16 key∧isArr wr bn 127 .u8 8 nonce∧wr.heap[bi]? =some (.cells #[.int .u64 ((i0+j:Nat):Int)] 194 (0,0))) (fun _ wr=>i0+N - nI wr bi)
 case atStart=>exact⟨0,H0.out⟩
 case round=>
  clear H0;obtain⟨j,hj,hk1,hn1,hi1⟩:=hrel;have hjN:=HJ.out _ _ hj;have J0:=aD hj;have K1:=aD hk1;have N1:=aD hn1;have I1:=aD hi1;have c1:=cell_of_one hi1;obtain⟨q,hq⟩:∃q,q=i0+j:=⟨_,rfl⟩;rw[←hq] at c1 hi1;have hq64:q<18446744073709551616:=by omega
  have HQ:=aD hq;have MI:=aD (qU hi1);clear hj hi1 hq hk1 hn1
  gi_wp2_with (first|refine cD rfl _ _ rfl bk rfl _ _ (0,0) _ K1.out rfl rfl (a8 _) ?_|refine cD rfl _ _ rfl bn rfl _ _ (0,0) _ N1.out rfl rfl (lU _) ?_)
  refine⟨trivial,fun hh=>by simp[Fence.wide] at hh,?_⟩;refine(callsIn_wide.2 (sB _ _ q _ HK.out HN.out hq64)).mono ?_;rintro e w1 ⟨rfl,hb1⟩;have hy0:=HY.out j w1 (HT.out j _ _ J0.out (aC hb1 _));rw[←HQ.out] at hy0;obtain⟨fn,tmps,assign,body,hy,hR⟩:=hy0;have K2:=aD (K1.out.below hb1 K1.out.lt);have N2:=aD (N1.out.below hb1 N1.out.lt);have I2:=aD ((hb1.block bi (Array.getElem?_eq_some_iff.1 I1.out).1).trans I1.out);have RR:=aD hR;clear hb1 c1 K1 N1 I1 J0 hR
  gi_wp2_with fail
  refine⟨fun hh=>by simp[Fence.wide] at hh,RR.out.mono ?_⟩;rintro e w2 (⟨rfl,hj2,hs2⟩|⟨rfl,hx2⟩)
  ·have i2:=(hs2 bi (.inr (.inr rfl))).trans I2.out
   have K3:=aD (K2.out.of_block (hs2 bk (.inl rfl)));have N3:=aD (N2.out.of_block (hs2 bn (.inr (.inl rfl))));rw[←HQ.out] at i2;have c2:=cell_of_one i2;have f2:=free_of_one i2;have ho:=one_setCell (u:=.int .u64 ((q+1:Nat):Int)) i2;have HO:=aD ho;have hwr:IntKind.u64.wrap ((q:Int)+1)=((q+1:Nat):Int):=by simp only[IntKind.wrap_u64];have:=HQ.out;omega
   have J3:=aD (HT.out _ _ (w2.setCell ⟨bi,0,none⟩ (.int .u64 ((q+1:Nat):Int))) hj2 (bA (aE w2 (some bi)) 0 _));have HW:=aD hwr;have hq1:q+1<18446744073709551616:=by have:=HQ.out;omega
   clear hj2 hs2 i2 ho hy RR hwr
   gi_wp2_with fail
   go_roundw
   case rel=>exact⟨j+1,J3.out,K3.out.setOther d1 _ _,N3.out.setOther d2 _ _,by rw[show i0+(j+1)=q+1 by have:=HQ.out;omega];exact HO.out⟩
   case measure=>
    have e1:=qU HO.out;have e2:=MI.out;have e3:=HQ.out
    first|(show i0+N - nI (w2.setCell ⟨bi,0,none⟩ (.int .u64 ((q+1:Nat):Int))) bi<i0+N - nI wr bi;omega)|(rw[e2];erw [e1];omega)
  ·clear hy RR
   gi_wp2_with fail
   go_end0;exact⟨⟨_,rfl⟩,hx2⟩
end Go.Proofs.YtcoolgnlhheaiaaGreatDoor
namespace Go.Proofs.YtcoolgnlhheaiaaGreatDoor
open Go.RowKit Go.Deep
set_option linter.all false
set_option maxRecDepth 100000
set_option maxHeartbeats 8000000
attribute [local go_sem] Oper.semAt_some
theorem aF8 (key nonce:Nat→Nat) (a:Int) (v:Value) (base:Nat) (w:World) (hown:Own w base v []):
 Calls Tryz.prog 287 #[.agg (aH .u8 16 key),.agg (aH .u8 8 nonce),.int .i64 a,v] w fun e w'=>e= .returned (.tuple #[])∧Below w.heap.size w w':=by
 have hsz:=aA .u8 16 key;have hsz2:=aA .u8 8 nonce;obtain⟨va,vc,rfl⟩:=hown.form;clear hown;refine(callsIn_wide (n:=3)).1 (callsIn_of_wp_marks Tryz.func287 rfl trivial ?_ rfl);refine wpIn_wide.2 ?_;simp only[Tryz.ntmps287,List.size_toArray,List.length_cons,List.length_nil,Nat.reduceAdd,Nat.reduceSub,Array.replicate_succ,Array.replicate_zero,List.push_toArray,List.append_toArray,List.nil_append,List.cons_append];go_wp2_with fail;exact⟨_,results_none rfl _ _ _,rfl,(((Below.refl _ _).alloc (Nat.le_refl _) _).alloc (by simp) _).alloc (by simp;omega) _⟩
theorem aJY:Tryz.prog.underlying 39=some (.slice (Tryz.prog.elem 39)):=by kernel_rfl
theorem zA (w:World):(sizeOf (Tryz.prog.elem 39)).run Tryz.prog w= .ok 1 w:=by kernel_rfl
theorem cN {o:Oper} {a:Act} {w:World} {x y:Operand} {b off len cap j:Nat} (ho:o.op= .indexAddr 39 x y) (hx:a.eval x= .slice (some ⟨b,off,none⟩) len cap) (hy:a.eval y= .int .i64 j) (hj:j<len):
 (execOp a.eval o).run Tryz.prog w= .ok (.value (.pointer (some ⟨b,off+j,none⟩))) w:=by
 unfold execOp;have nj:0≤(j:Int):=by omega
 have lj:(j:Int)<(len:Int):=by omega
 simp only[ho,hx,hy,Sem.run_bind,Sem.run_pure,run_indexAt_slice _ _ _ _ _ _ _ aJY];rw[if_pos ⟨nj,lj⟩,zA];simp only[Result.andThen_ok,Int.toNat_natCast,Addr.add_lit,Nat.mul_one]
theorem fG {o:Oper} {a:Act} {w:World} {x y:Operand} {b j:Nat} (ho:o.op= .indexAddr 22 x y) (hx:a.eval x= .pointer (some ⟨b,0,none⟩)) (hy:a.eval y= .int .i64 j) (hj:j<16):
 (execOp a.eval o).run Tryz.prog w= .ok (.value (.pointer (some ⟨b,j,none⟩))) w:=by
 unfold execOp;have nj:0≤(j:Int):=by omega
 have lj:(j:Int)<16:=by omega
 simp only[ho,hx,hy]
 go_simp
theorem gS {o:Oper} {a:Act} {w:World} (x y:Operand) (p q:Nat) (ho:o.op= .binOp .add 3 x y 3) (hx:a.eval x= .int .i64 (p:Int)) (hy:a.eval y= .int .i64 (q:Int)) (hb:p+q<9223372036854775808):
 (execOp a.eval o).run Tryz.prog w= .ok (.value (.int .i64 ((p+q:Nat):Int))) w:=by
 unfold execOp;have hu:=Tryz.underlying3;have hw:IntKind.i64.wrap ((p:Int)+(q:Int))=((p+q:Nat):Int):=by rw[IntWalk.i64_in _ (by omega)];omega
 simp only[ho,hx,hy]
 go_simp
 first|done|simp[hw]|(simp;omega)
theorem eL {o:Oper} {a:Act} {w:World} (x:Operand) (ad:Addr) (v:Int) (ho:o.op= .load 3 x) (hx:a.eval x= .pointer (some ad)) (hc:w.cell? ad=some (.int .i64 v)):
 (execOp a.eval o).run Tryz.prog w= .ok (.value (.int .i64 v)) w:=by
 unfold execOp;simp only[ho,hx];have hz:((Tryz.prog).info? 3).map (·.size)=some 1:=by kernel_rfl
 have hu:=Tryz.underlying3
 go_simp
theorem fZ {o:Oper} {a:Act} {w:World} (x:Operand) (ad:Addr) (p:Option Addr) (m c:Nat) (ho:o.op= .load 39 x) (hx:a.eval x= .pointer (some ad)) (hc:w.cell? ad=some (.slice p m c)):
 (execOp a.eval o).run Tryz.prog w= .ok (.value (.slice p m c)) w:=by
 unfold execOp;simp only[ho,hx];have hz:((Tryz.prog).info? 39).map (·.size)=some 1:=by kernel_rfl
 have hu:=Tryz.underlying39
 go_simp
theorem fW {o:Oper} {a:Act} {w:World} (x y:Operand) (ad:Addr) (v old:Int) (ho:o.op= .store 5 x y) (hx:a.eval x= .pointer (some ad)) (hy:a.eval y= .int .u8 v) (hc:w.cell? ad=some (.int .u8 old)) (hf:w.frozen? ad=false):
 (execOp a.eval o).run Tryz.prog w= .ok .skip (w.setCell ad (.int .u8 v)):=by
 unfold execOp;simp only[ho,hx,hy];have hz:((Tryz.prog).info? 5).map (·.size)=some 1:=by kernel_rfl
 have hu:=Tryz.underlying5
 go_simp
def Ctr.dn (s j:Nat):Nat:=if j=0 then 0 else 16*j - s
def Ctr.sk (s j:Nat):Nat:=if j=0 then s else 0
theorem Ctr.pos {a q s j t:Nat} (hs:s=a % 16) (hq:q=a / 16) (ht:Ctr.sk s j+t<16):(a+(Ctr.dn s j+t)) / 16=q+j∧(a+(Ctr.dn s j+t)) % 16=Ctr.sk s j+t:=by
 unfold Ctr.dn Ctr.sk at*
 by_cases h:j=0
 ·rw[if_pos h] at ht ⊢;rw[if_pos h];omega
 ·rw[if_neg h] at ht ⊢;rw[if_neg h];omega
theorem Ctr.dn_next {s j:Nat} (hs:s<16):Ctr.dn s j+(16 - Ctr.sk s j)=Ctr.dn s (j+1)∧Ctr.sk s (j+1)=0∧Ctr.sk s j<16:=by
 have e1:Ctr.dn s (j+1)=16*(j+1) - s:=by unfold Ctr.dn;rw[if_neg (by omega)]
 have e2:Ctr.sk s (j+1)=0:=by unfold Ctr.sk;rw[if_neg (by omega)]
 rw[e1,e2];unfold Ctr.dn Ctr.sk
 by_cases h:j=0
 ·rw[if_pos h,if_pos h];omega
 ·rw[if_neg h,if_neg h];omega
def CMI (key nonce:Nat→Nat) (a:Nat) (l:List Nat) (base g cap s:Nat) (w:World) (j:Nat) (wr:World):Prop:=
 Ctr.dn s j<l.length∧wr.heap[w.heap.size+2]? =some (.cells #[.slice (some ⟨g,Ctr.dn s j,none⟩) (l.length - Ctr.dn s j) (cap - Ctr.dn s j)] 39 (0,0))∧wr.heap[w.heap.size+3]? =some (.cells #[.int .i64 (Ctr.sk s j:Int)] 3 (0,0))∧
  Own wr base (.slice (some ⟨g,0,none⟩) l.length cap) (Ctr.mask key nonce a l (Ctr.dn s j))∧w.grownBy wr (some g)
def MX (key nonce:Nat→Nat) (a:Nat) (l:List Nat) (base g cap:Nat) (w wr:World):Prop:=Own wr base (.slice (some ⟨g,0,none⟩) l.length cap) (Ctr.crypt key nonce a l)∧w.grownBy wr (some g)
theorem gO {w A B:World} {g:Nat} {r:Option Nat} (h:w.grownBy A (some g)) (k:A.grownBy B r) (hr:∀b,r=some b→w.heap.size≤b):w.grownBy B (some g):=
 ⟨k.os.trans h.os,k.tape.trans h.tape,k.output.trans h.output,Nat.le_trans h.size k.size,fun i hi hne=>(k.block i (Nat.lt_of_lt_of_le hi h.size) (fun e=>by have:=hr i e.symm;omega)).trans (h.block i hi hne)⟩
theorem CMI.turn {key nonce:Nat→Nat} {a:Nat} {l:List Nat} {base g cap s:Nat} {w A B:World} {j:Nat} {r:Option Nat} (h:CMI key nonce a l base g cap s w j A) (k:A.grownBy B r) (hgw:g<w.heap.size) (hr:∀b,r=some b→w.heap.size≤b∧b≠w.heap.size+2∧b≠w.heap.size+3):CMI key nonce a l base g cap s w j B:=
 ⟨h.1,(k.block _ (Array.getElem?_eq_some_iff.1 h.2.1).1 (fun e=>by have:=hr _ e.symm;omega)).trans h.2.1,(k.block _ (Array.getElem?_eq_some_iff.1 h.2.2.1).1 (fun e=>by have:=hr _ e.symm;omega)).trans h.2.2.1,
   h.2.2.2.1.only k (.inr (fun e=>by have:=hr g e.symm;omega)),gO h.2.2.2.2 k (fun b e=>(hr b e).1)⟩
theorem MX.turn {key nonce:Nat→Nat} {a:Nat} {l:List Nat} {base g cap:Nat} {w A B:World} {r:Option Nat} (h:MX key nonce a l base g cap w A) (k:A.grownBy B r) (hgw:g<w.heap.size) (hr:∀b,r=some b→w.heap.size≤b):MX key nonce a l base g cap w B:=
 ⟨h.1.only k (.inr (fun e=>by have:=hr g e.symm;omega)),gO h.2 k hr⟩
theorem Own.isCells {w:World} {base g n cap:Nat} {l:List Nat} (h:Own w base (.slice (some ⟨g,0,none⟩) n cap) l):∃o:Obj,w.heap[g]? =some o∧o.isCells=true:=by
 rcases h.2.2 with ⟨h',_⟩|⟨g',cap',cur,h',_,hg,_⟩
 ·simp at h'
 ·simp only[Value.slice.injEq,Option.some.injEq,Addr.mk.injEq,and_true] at h'
  obtain⟨rfl,-,-⟩:=h';exact⟨_,hg,rfl⟩
theorem cE {B base g n cap:Nat} {w A wr:World} {x7 x8 u7 u8:Value} {t7 t8:TypeId} (hgw:g<w.heap.size) (hB:B=w.heap.size+7) (hAB:w.heap.size+7≤A.heap.size) (hgt:A.grownBy wr (some g)) (hc:∃o:Obj,A.heap[g]? =some o∧o.isCells=true)
 (h7:A.heap[w.heap.size+2]? =some (.cells #[x7] t7 (0,0))) (h8:A.heap[w.heap.size+3]? =some (.cells #[x8] t8 (0,0))) (hwA:w.grownBy A (some g)):
 Keeps2 B A ((wr.setCell ⟨w.heap.size+2,0,none⟩ u7).setCell ⟨w.heap.size+3,0,none⟩ u8)∧SameAt (fun k=>k=w.heap.size+4∨k=w.heap.size+5∨k=w.heap.size+6) A ((wr.setCell ⟨w.heap.size+2,0,none⟩ u7).setCell ⟨w.heap.size+3,0,none⟩ u8)∧
  (∀l,Own wr base (.slice (some ⟨g,0,none⟩) n cap) l→Own ((wr.setCell ⟨w.heap.size+2,0,none⟩ u7).setCell ⟨w.heap.size+3,0,none⟩ u8) base (.slice (some ⟨g,0,none⟩) n cap) l)∧w.grownBy ((wr.setCell ⟨w.heap.size+2,0,none⟩ u7).setCell ⟨w.heap.size+3,0,none⟩ u8) (some g)∧
  ((wr.setCell ⟨w.heap.size+2,0,none⟩ u7).setCell ⟨w.heap.size+3,0,none⟩ u8).heap[w.heap.size+2]? =some (.cells #[u7] t7 (0,0))∧((wr.setCell ⟨w.heap.size+2,0,none⟩ u7).setCell ⟨w.heap.size+3,0,none⟩ u8).heap[w.heap.size+3]? =some (.cells #[u8] t8 (0,0)):=by
 have w7:wr.heap[w.heap.size+2]? =some (.cells #[x7] t7 (0,0)):=(hgt.block _ (by omega) (by simp;omega)).trans h7;have w8:wr.heap[w.heap.size+3]? =some (.cells #[x8] t8 (0,0)):=(hgt.block _ (by omega) (by simp;omega)).trans h8;have s7:wr.grownBy (wr.setCell ⟨w.heap.size+2,0,none⟩ u7) (some (w.heap.size+2)):=bA (aE _ _) 0 _;have n1:w.heap.size+3≠w.heap.size+2:=by omega
 have n2:w.heap.size+2≠w.heap.size+3:=by omega
 have v8:(wr.setCell ⟨w.heap.size+2,0,none⟩ u7).heap[w.heap.size+3]? =some (.cells #[x8] t8 (0,0)):=(blk_setCell_other _ _ _ _ n1).trans w8;have s8:(wr.setCell ⟨w.heap.size+2,0,none⟩ u7).grownBy ((wr.setCell ⟨w.heap.size+2,0,none⟩ u7).setCell ⟨w.heap.size+3,0,none⟩ u8) (some (w.heap.size+3)):=bA (aE _ _) 0 _;have v7:=one_setCell (u:=u7) w7;have e7:((wr.setCell ⟨w.heap.size+2,0,none⟩ u7).setCell ⟨w.heap.size+3,0,none⟩ u8).heap[w.heap.size+2]? =some (.cells #[u7] t7 (0,0)):=(blk_setCell_other _ _ _ _ n2).trans v7;have e8:=one_setCell (u:=u8) v8;refine⟨((Keeps2.grown hgt (fun b e=>by cases e;exact hc)).trans (Keeps2.grown s7 (fun b e=>by cases e;exact⟨_,w7,rfl⟩))).trans (Keeps2.grown s8 (fun b e=>by cases e;exact⟨_,v8,rfl⟩)),?_,?_,?_,e7,e8⟩
 ·intro k hk
  have m1:k≠w.heap.size+3:=by omega
  have m2:k≠w.heap.size+2:=by omega
  exact(blk_setCell_other _ _ _ _ m1).trans ((blk_setCell_other _ _ _ _ m2).trans (hgt.block k (by omega) (by simp;omega)))
 ·intro l ho
  exact(ho.only s7 (.inr (by simp[Value.ownBlock];omega))).only s8 (.inr (by simp[Value.ownBlock];omega))
 ·exact gO (gO (aF hwA hgt) s7 (fun b e=>by cases e;omega)) s8 (fun b e=>by cases e;omega)
theorem aCK (key nonce:Nat→Nat) (a:Nat) (l:List Nat) (base g cap:Nat) (w:World) (hk:Aes.B8 key) (hn:Aes.B8 nonce) (ha:a≤4611686018427387904) (hpos:0<l.length) (hlen:l.length≤140737488355328) (hown:Own w base (.slice (some ⟨g,0,none⟩) l.length cap) l) (_hgb:base≤g) (hgw:g<w.heap.size) (hcap:l.length≤cap) (hc63:cap≤9223372036854775807):
 Calls Tryz.prog 287 #[.agg (aH .u8 16 key),.agg (aH .u8 8 nonce),.int .i64 a,.slice (some ⟨g,0,none⟩) l.length cap] w fun e w'=>e= .returned (.tuple #[])∧MX key nonce a l base g cap w w':=by
 have hsz:=aA .u8 16 key;have hsz2:=aA .u8 8 nonce;have HK:=aD hk;have HN:=aD hn;have HO:=aD hown;clear hk hn hown;obtain⟨s,hs⟩:∃s,s=a % 16:=⟨_,rfl⟩;obtain⟨q,hq⟩:∃q,q=a / 16:=⟨_,rfl⟩;have hsi:(a:Int) % 16=(s:Int):=by omega
 have hqi:(a:Int) / 16=(q:Int):=by omega
 have hs16:s<16:=by omega
 have hq64:q≤4611686018427387904:=by omega
 have HS:=aD hs;have HQ:=aD hq;have hne:((l.length:Int)==0)=false:=by rw[beq_eq_false_iff_ne];omega
 clear hs hq;refine(callsIn_wide (n:=3)).1 (callsIn_of_wp_marks Tryz.func287 rfl trivial ?_ rfl);refine wpIn_wide.2 ?_;simp only[Tryz.ntmps287,List.size_toArray,List.length_cons,List.length_nil,Nat.reduceAdd,Nat.reduceSub,Array.replicate_succ,Array.replicate_zero,List.push_toArray,List.append_toArray,List.nil_append,List.cons_append];go_upto_region 3 with fail;generalize hW:(World.alloc _ _:World)=V;have INV:isArr V w.heap.size 22 .u8 16 key∧isArr V (w.heap.size+1) 127 .u8 8 nonce∧V.heap[w.heap.size+2]? =some (.cells #[.slice (some ⟨g,0,none⟩) l.length cap] 39 (0,0))∧V.heap[w.heap.size+3]? =some (.cells #[.int .i64 (s:Int)] 3 (0,0))∧V.heap.size=w.heap.size+4∧Below w.heap.size w V:=by
  rw[←hW];have z1:w.heap.size+1=(w.alloc (Obj.cells (aH IntKind.u8 16 key) 22)).heap.size:=by simp
  have z2:w.heap.size+2=((w.alloc (Obj.cells (aH IntKind.u8 16 key) 22)).alloc (Obj.cells (aH IntKind.u8 8 nonce) 127)).heap.size:=by simp
  have z3:∀o:Obj,w.heap.size+3=(((w.alloc (Obj.cells (aH IntKind.u8 16 key) 22)).alloc (Obj.cells (aH IntKind.u8 8 nonce) 127)).alloc o).heap.size:=by simp
  refine⟨(((aN w _ _ _ _).alloc _).alloc _).alloc _,?_,?_,?_,by simp,((((Below.refl _ _).alloc (Nat.le_refl _) _).alloc (by simp) _).alloc (by simp;omega) _).alloc (by simp;omega) _⟩
  ·rw[z1];exact((aN _ _ _ _ _).alloc _).alloc _
  ·rw[Below.heap_alloc _ _ _ (by simp),z2];exact heap_alloc_new _ _
  ·rw[z3];exact heap_alloc_new _ _
 have k1:=INV.1;have k2:=INV.2.1;have I0:=aD INV;clear hW INV hsz hsz2;go_wp2_with (first|refine wpList_load_row rfl _ _ rfl w.heap.size rfl _ _ (0,0) _ k1 rfl rfl (a8 _) ?_|refine wpList_load_row rfl _ _ rfl (w.heap.size+1) rfl _ _ (0,0) _ k2 rfl rfl (lU _) ?_|(go_at_call 303;refine(yU _ _ q _).mono ?_;rintro e w4 ⟨rfl,rfl⟩));have hVs:=I0.out.2.2.2.2.1;rw[hVs];have hb3:=aA2 key nonce q V;rw[hVs] at hb3;have hbb:=rH key nonce q V;have hbs:=sT key nonce q V;generalize iY key nonce q V=W at hb3 hbb hbs ⊢;have hWs:W.heap.size=w.heap.size+7:=by omega
 have B3:=aD hb3;have hwW:Below w.heap.size w W:=I0.out.2.2.2.2.2.trans (hbb.mono (by omega));have hI0:CMI key nonce a l base g cap s w 0 W:=by
  refine⟨by simpa [Ctr.dn] using hpos,?_,?_,?_,aC hwW _⟩
  ·rw[hbb.block _ (by omega),I0.out.2.2.1];simp[Ctr.dn]
  ·rw[hbb.block _ (by omega),I0.out.2.2.2.1];simp[Ctr.sk]
  ·rw[show Ctr.dn s 0=0 from rfl,Ctr.mask_zero];exact HO.out.below hwW
 have II:=aD hI0;have WS:=aD hWs;clear hb3 hbb hbs hI0 hwW k1 k2 hVs I0;refine(wpIn_wide (n:=3)).1 ?_;refine aCX rfl (Go.Proofs.enters_of Tryz.func309 (by kernel_rfl) rfl) (fun j=>#[.agg (aH .u8 16 (Ctr.bk key nonce (q+j)))]) (fun _=>rfl) (fun A B=>A.grownBy B (some (w.heap.size+6)))
  (CMI key nonce a l base g cap s w) (MX key nonce a l base g cap w) (fun k=>k=w.heap.size+4∨k=w.heap.size+5∨k=w.heap.size+6) (fun k hk=>by have:=WS.out;omega)
  ?iter ?hT ?hIT ?hI ?hIx II.out ?round ?stop
 case iter=>
  intro lp J Jx W0 hsame hT hJI hY h0;exact sX key nonce HK.out HN.out q (l.length+16) (by omega) (w.heap.size+4) (w.heap.size+5) (w.heap.size+6) (by omega) (by omega) _ lp J Jx W0 hT
   (fun j A h=>by have h1:=(hJI j A h).1;unfold Ctr.dn at h1;split at h1<;>omega) hY h0
   (B3.out.1.of_block (hsame _ (.inl rfl))) (B3.out.2.1.of_block (hsame _ (.inr (.inl rfl)))) ((hsame _ (.inr (.inr rfl))).trans B3.out.2.2)
 case hT=>intro A B h k hk1 hk2;exact h.block k hk2 (by have:=WS.out;simp;omega)
 case hIT=>intro j A B h k;exact h.turn k hgw (fun b e=>by cases e;omega)
 case hI=>rintro j A B h ⟨r,k,hr⟩;exact h.turn k hgw (fun b e=>by have:=(hr b e).1;have:=WS.out;omega)
 case hIx=>rintro A B h ⟨r,k,hr⟩;exact h.turn k hgw (fun b e=>by have:=(hr b e).1;have:=WS.out;omega)
 case round=>
  intro lp j W1 hi hl1 hl2;have HI:=aD hi;clear hi II B3;refine⟨fun a' A=>∃Bx,w.heap.size+7≤Bx∧isArr A Bx 22 .u8 16 (Ctr.bk key nonce (q+j))∧CMI key nonce a l base g cap s w j A∧a'={ tmps:=#[.agg (aH .u8 16 key),.agg (aH .u8 8 nonce),.int .i64 (a:Int),.slice (some ⟨g,0,none⟩) l.length cap,.pointer (some ⟨w.heap.size,0,none⟩),.pointer (some ⟨w.heap.size+1,0,none⟩),undef,.pointer (some ⟨w.heap.size+1+1,0,none⟩),.pointer (some ⟨w.heap.size+1+1+1,0,none⟩),.pointer (some ⟨Bx,0,none⟩),undef,undef,.slice (some ⟨g,0,none⟩) l.length cap,.int .i64 (l.length:Int),.bool false,.int .i64 (a:Int),.int .i64 (s:Int),.agg (aH .u8 16 key),.agg (aH .u8 8 nonce),.int .i64 (a:Int),.int .i64 (q:Int),.int .u64 (q:Int),.func (.func 309) #[] #[.pointer (some ⟨w.heap.size+4,0,none⟩),.pointer (some ⟨w.heap.size+4+1,0,none⟩),.pointer (some ⟨w.heap.size+4+2,0,none⟩)],.agg (aH .u8 16 (Ctr.bk key nonce (q+j))),undef,undef,undef,undef,undef,undef,undef,undef,undef,undef,undef,undef,undef,undef,undef,undef,undef,undef,undef,undef,undef,undef,undef,undef,undef,undef,undef],defers:=[]},?_,?_,?_⟩
  ·intro K hK
   have KK:=aD hK;clear hK;have hz:=hl2
   gi_wp2_with (refine bX rfl rfl fun K' hK'=>?_;refine wpList_store_rowTo rfl _ _ _ rfl rfl W1.heap.size _ rfl rfl _ _ (heap_alloc_new _ _) (a8 _) (by rw[aA];first|rfl|simp) (aL _ _ _) ?_;refine hK' _ _ ?_)
   have hz7:w.heap.size+7≤W1.heap.size:=by have:=WS.out;omega
   have hbW:Below W1.heap.size W1 ((W1.alloc (.cells #[.int .u8 0,.int .u8 0,.int .u8 0,.int .u8 0,.int .u8 0,.int .u8 0,.int .u8 0,.int .u8 0,.int .u8 0,.int .u8 0,.int .u8 0,.int .u8 0,.int .u8 0,.int .u8 0,.int .u8 0,.int .u8 0] 22)).setRow W1.heap.size (aH .u8 16 (Ctr.bk key nonce (q+j)))):=below_setRow ((Below.refl _ _).alloc (Nat.le_refl _) _) (Nat.le_refl _) _;refine KK.out _ _ ⟨W1.heap.size,hz7,setRow_heap _ _ _ _ _ (0,0) (heap_alloc_new _ _),HI.out.turn (aC hbW none) hgw (fun b e=>by cases e),rfl⟩ (Keeps2.grown (aC hbW none) (fun b e=>by cases e)) (fun k hk=>hbW.block k (by omega))
  ·rintro a' A B ⟨Bx,h1,h2,h3,rfl⟩ ⟨r,k,hr⟩
   refine⟨Bx,h1,h2.of_block (k.block _ h2.lt (fun e=>?_)),h3.turn k hgw (fun b e=>by have:=(hr b e).1;have:=WS.out;omega),rfl⟩;obtain⟨_,o,ho,hc⟩:=hr Bx e.symm;have:some o=some (Obj.cells (aH .u8 16 (Ctr.bk key nonce (q+j))) 22 (0,0)):=ho.symm.trans h2
   cases this
   cases hc
  ·rintro a' A ⟨Bx,hBx,hbx,hi,rfl⟩
   obtain⟨hdl,h7,h8,ho,hgr⟩:=hi;have POS:=aD (fun t ht=>Ctr.pos (j:=j) (t:=t) HS.out HQ.out ht);obtain⟨hnx,hk0,hk16⟩:=Ctr.dn_next (j:=j) hs16;have NX:=aD hnx;have K0:=aD hk0;have BX:=aD hbx;have H7:=aD h7;have H8:=aD h8;have HOW:=aD ho;have HG:=aD hgr;have c7:=cell_of_one h7;have c8:=cell_of_one h8;clear hnx hk0 hbx h7 h8 ho hgr HI;generalize Ctr.dn s j=d at hdl POS NX H7 HOW c7;generalize Ctr.sk s j=k at POS NX hk16 H8 c8;obtain⟨m,hm⟩:∃m,m=l.length - d:=⟨_,rfl⟩;rw[←hm] at c7 H7;obtain⟨c,hc⟩:∃c,c=cap - d:=⟨_,rfl⟩;rw[←hc] at c7 H7;have HM:=aD hm;have HC:=aD hc;have hm1:0<m:=by omega
   have hmc:m≤c:=by omega
   clear hm hc
   by_cases hlast:m≤16 - k
   ·have hkm:k+m≤16:=by omega
    rcases(show m=16 - k∨m<16 - k by omega) with heq|hlt
    ·have hek:16 - (k:Int)=(m:Int):=by omega
     clear heq hlast
     gi_wp2_with fail
     have hX0:Own A base (.slice (some ⟨g,0,none⟩) l.length cap) (Ctr.mask key nonce a l (d+0)):=HOW.out;have HX0:=aD hX0;clear hX0
     gi_loopw [30] (fun i wr=>∃t:Nat,t≤m∧i= .int .i64 t∧Own wr base (.slice (some ⟨g,0,none⟩) l.length cap) (Ctr.mask key nonce a l (d+t))∧A.grownBy wr (some g)) (fun i _=>m - (intOf i).toNat)
     case atStart=>exact⟨0,by omega,rfl,HX0.out,aE _ _⟩
     case round=>
      obtain⟨t,ht,rfl,hot,hgt⟩:=hrel;clear HX0
      by_cases htx:t<m
      ·have lt:(t:Int)<(m:Int):=by omega
       have HOT:=aD hot;have HGT:=aD hgt;have hll:d+t<(Ctr.mask key nonce a l (d+t)).length:=by rw[Ctr.mask_length];have:=HM.out;omega
       have ct:wr.cell? ⟨g,d+t,none⟩=some (bv (l.getD (d+t) 0)):=by
        have h:=hot.bs.rs.2.2;rw[←Ctr.mask_length key nonce a l (d+t)] at hot;rw[hot.cellAt hll,Ctr.mask_get _ _ _ _ _ _ (by have:=HM.out;omega),if_neg (Nat.lt_irrefl _)]
       have ft:wr.frozen? ⟨g,d+t,none⟩=false:=by
        rw[←Ctr.mask_length key nonce a l (d+t)] at hot;exact hot.frozenAt _
       have hx256:l.getD (d+t) 0<256:=HO.out.1.get _;have C7:=aD (fun(w':World) (h:wr.grownBy w' (some g))=>(h.block (w.heap.size+2) (Nat.lt_of_lt_of_le (Array.getElem?_eq_some_iff.1 H7.out).1 hgt.size) (by simp;omega)).trans ((hgt.block (w.heap.size+2) (Array.getElem?_eq_some_iff.1 H7.out).1 (by simp;omega)).trans H7.out));have C8:=aD (fun(w':World) (h:wr.grownBy w' (some g))=>(h.block (w.heap.size+3) (Nat.lt_of_lt_of_le (Array.getElem?_eq_some_iff.1 H8.out).1 hgt.size) (by simp;omega)).trans ((hgt.block (w.heap.size+3) (Array.getElem?_eq_some_iff.1 H8.out).1 (by simp;omega)).trans H8.out));have C9:=aD (fun(w':World) (h:wr.grownBy w' (some g))=>((BX.out.of_block (hgt.block Bx BX.out.lt (by simp;omega))).of_block (h.block Bx (Nat.lt_of_lt_of_le BX.out.lt hgt.size) (by simp;omega))));obtain⟨p1,p2⟩:=POS.out t (by omega);have hby:Ctr.bk key nonce (q+j) (k+t)=Ctr.byte key nonce (a+(d+t)):=by unfold Ctr.byte;rw[p1,p2]
       have hb256:=Ctr.bk_b8 HK.out HN.out (q+j) (k+t);have NXT:=aD (Ctr.mask_set key nonce a l (d+t) (by have:=HM.out;omega));have HBY:=aD hby;clear p1 p2 hot hgt hby c7 c8 hll;generalize l.getD (d+t) 0=p at ct hx256 NXT
       gi_wp2_with fail
       refine nP Tryz.f287 9 12 (fun w'=>wr.grownBy w' (some g)) (by kernel_rfl) (by kernel_rfl) (by kernel_rfl) (by kernel_rfl) (aM (aE _ _) 1) (fun K hK h0=>?_);refine aW (listed':=#[false,false,false,false,false,false,false,false,false,false,false,false]) (by kernel_rfl) rfl ?_;have HF:=aD hK;clear hK;refine aX 0 33 (.slice (some ⟨g,d,none⟩) m c) (fun w' h=>fZ (.tmp 7) ⟨w.heap.size+2,0,none⟩ _ m c (by kernel_rfl) (by kernel_rfl) (cell_of_one (C7.out w' h))) h0 ?_;simp only[Act.put,aJ,aK,aI];refine aX 1 34 (.int .i64 t) (fun _ _=>by kernel_rfl) h0 ?_;simp only[Act.put,aJ,aK,aI];refine aX 2 35 (.pointer (some ⟨g,d+t,none⟩)) (fun _ _=>cN (cap:=c) (len:=m) (x:=.tmp 33) (y:=.tmp 34) (by kernel_rfl) (by kernel_rfl) (by kernel_rfl) (by omega)) h0 ?_;simp only[Act.put,aJ,aK,aI];refine aX 4 37 (.int .i64 k) (fun w' h=>eL (.tmp 8) ⟨w.heap.size+3,0,none⟩ k (by kernel_rfl) (by kernel_rfl) (cell_of_one (C8.out w' h))) h0 ?_;simp only[Act.put,aJ,aK,aI];refine aX 5 38 (.int .i64 t) (fun _ _=>by kernel_rfl) h0 ?_;simp only[Act.put,aJ,aK,aI];refine aX 6 39 (.int .i64 ((k+t:Nat):Int)) (fun _ _=>gS (.tmp 37) (.tmp 38) k t (by kernel_rfl) (by kernel_rfl) (by kernel_rfl) (by omega)) h0 ?_;simp only[Act.put,aJ,aK,aI];refine aX 7 40 (.pointer (some ⟨Bx,k+t,none⟩)) (fun _ _=>fG (x:=.tmp 9) (y:=.tmp 39) (by kernel_rfl) (by kernel_rfl) (by kernel_rfl) (by omega)) h0 ?_;simp only[Act.put,aJ,aK,aI];refine aX 8 41 (.int .u8 (Ctr.bk key nonce (q+j) (k+t):Int)) (fun w' h=>cA (.tmp 40) ⟨Bx,k+t,none⟩ _ (by kernel_rfl) (by kernel_rfl) ((C9.out w' h).cell (by omega))) h0 ?_;simp only[Act.put,aJ,aK,aI];refine aR 3 (by kernel_rfl) (by kernel_rfl) (HStep.value (some 36) (by kernel_rfl) (by kernel_rfl) (.int .u8 (p:Int)) _ (cA (.tmp 35) ⟨g,d+t,none⟩ (p:Int) (by kernel_rfl) (by kernel_rfl) ct) h0 ?_);simp only[Act.put,aJ,aK,aI];refine aX 9 42 (.int .u8 ((p ^^^ Ctr.bk key nonce (q+j) (k+t):Nat):Int)) (fun _ _=>eR (.tmp 36) (.tmp 41) p (Ctr.bk key nonce (q+j) (k+t)) (by kernel_rfl) (by kernel_rfl) (by kernel_rfl) hx256 hb256) h0 ?_;simp only[Act.put,aJ,aK,aI];refine aX 10 43 (.pointer (some ⟨g,d+t,none⟩)) (fun _ _=>cN (cap:=c) (len:=m) (x:=.tmp 33) (y:=.tmp 34) (by kernel_rfl) (by kernel_rfl) (by kernel_rfl) (by omega)) h0 ?_;simp only[Act.put,aJ,aK,aI];have hst:Own wr base (.slice (some ⟨g,0,none⟩) l.length cap) (Ctr.mask key nonce a l (d+t)):=HOT.out;obtain⟨hs1,hs2⟩:=(HOT.out.drewN 1).set (d+t) (p ^^^ Ctr.bk key nonce (q+j) (k+t)) (Fld.xor_lt _ _ hx256 hb256);refine aR 11 (by kernel_rfl) (by kernel_rfl) (HStep.skip none (by kernel_rfl) (by kernel_rfl) _ (fW (.tmp 43) (.tmp 42) ⟨g,d+t,none⟩ _ (p:Int) (by kernel_rfl) (by kernel_rfl) (by kernel_rfl) ct ft) (aF h0 hs2) ?_);refine aZ (by kernel_rfl) (HF.out _ _ ?_);simp only[Act.put];clear HF h0 hst;have hmk:(Ctr.mask key nonce a l (d+t)).set (d+t) (p ^^^ Ctr.bk key nonce (q+j) (k+t))=Ctr.mask key nonce a l (d+(t+1)):=by rw[HBY.out];exact NXT.out
       rw[hmk] at hs1;clear hmk;have hs2:=aF HGT.out (aF (aM (aE wr (some g)) 1) hs2);have J1:=aD (aQ hs1 hs2);clear hs1 hs2 ct ft;generalize (wr.drewN 1).setCell _ _=V at J1 ⊢
       gi_wp2_with fail
       go_roundw
       case rel=>exact⟨t+1,by omega,by go_num,J1.out.1,J1.out.2⟩
       case measure=>simp[intOf];omega
      ·obtain rfl:m=t:=by omega
       have h7w:=(hgt.block (w.heap.size+2) (Array.getElem?_eq_some_iff.1 H7.out).1 (by simp;omega)).trans H7.out;have h8w:=(hgt.block (w.heap.size+3) (Array.getElem?_eq_some_iff.1 H8.out).1 (by simp;omega)).trans H8.out;have c7:=cell_of_one h7w;have f7:=free_of_one h7w;have c8:=cell_of_one h8w;have f8:=free_of_one h8w;have HOT:=aD hot;have HGT:=aD hgt;have hAW:w.heap.size+7≤A.heap.size:=Nat.le_of_lt (Nat.lt_of_le_of_lt hBx BX.out.lt);clear h7w h8w hot hgt;rcases Nat.lt_or_ge m c with hmc2|hge
       rotate_left;obtain rfl:m=c:=by omega
       all_goals
        gi_wp2_with fail
        have hfin:=HOT.out;rw[show d+m=l.length by have:=HM.out;omega,Ctr.mask_all _ _ _ _ _ (Nat.le_refl _)] at hfin;exact⟨(cE (base:=base) (n:=l.length) (cap:=cap) (B:=W.heap.size) hgw WS.out hAW HGT.out HOW.out.isCells H7.out H8.out HG.out).1,(cE (base:=base) (n:=l.length) (cap:=cap) (B:=W.heap.size) hgw WS.out hAW HGT.out HOW.out.isCells H7.out H8.out HG.out).2.2.1 _ hfin,(cE (base:=base) (n:=l.length) (cap:=cap) (B:=W.heap.size) hgw WS.out hAW HGT.out HOW.out.isCells H7.out H8.out HG.out).2.2.2.1⟩
    ·have hml:(m:Int)<16 - (k:Int):=by omega
     clear hlast hlt
     gi_wp2_with fail
     have hX0:Own A base (.slice (some ⟨g,0,none⟩) l.length cap) (Ctr.mask key nonce a l (d+0)):=HOW.out;have HX0:=aD hX0;clear hX0
     gi_loopw [30] (fun i wr=>∃t:Nat,t≤m∧i= .int .i64 t∧Own wr base (.slice (some ⟨g,0,none⟩) l.length cap) (Ctr.mask key nonce a l (d+t))∧A.grownBy wr (some g)) (fun i _=>m - (intOf i).toNat)
     case atStart=>exact⟨0,by omega,rfl,HX0.out,aE _ _⟩
     case round=>
      obtain⟨t,ht,rfl,hot,hgt⟩:=hrel;clear HX0
      by_cases htx:t<m
      ·have lt:(t:Int)<(m:Int):=by omega
       have HOT:=aD hot;have HGT:=aD hgt;have hll:d+t<(Ctr.mask key nonce a l (d+t)).length:=by rw[Ctr.mask_length];have:=HM.out;omega
       have ct:wr.cell? ⟨g,d+t,none⟩=some (bv (l.getD (d+t) 0)):=by
        have h:=hot.bs.rs.2.2;rw[←Ctr.mask_length key nonce a l (d+t)] at hot;rw[hot.cellAt hll,Ctr.mask_get _ _ _ _ _ _ (by have:=HM.out;omega),if_neg (Nat.lt_irrefl _)]
       have ft:wr.frozen? ⟨g,d+t,none⟩=false:=by
        rw[←Ctr.mask_length key nonce a l (d+t)] at hot;exact hot.frozenAt _
       have hx256:l.getD (d+t) 0<256:=HO.out.1.get _;have C7:=aD (fun(w':World) (h:wr.grownBy w' (some g))=>(h.block (w.heap.size+2) (Nat.lt_of_lt_of_le (Array.getElem?_eq_some_iff.1 H7.out).1 hgt.size) (by simp;omega)).trans ((hgt.block (w.heap.size+2) (Array.getElem?_eq_some_iff.1 H7.out).1 (by simp;omega)).trans H7.out));have C8:=aD (fun(w':World) (h:wr.grownBy w' (some g))=>(h.block (w.heap.size+3) (Nat.lt_of_lt_of_le (Array.getElem?_eq_some_iff.1 H8.out).1 hgt.size) (by simp;omega)).trans ((hgt.block (w.heap.size+3) (Array.getElem?_eq_some_iff.1 H8.out).1 (by simp;omega)).trans H8.out));have C9:=aD (fun(w':World) (h:wr.grownBy w' (some g))=>((BX.out.of_block (hgt.block Bx BX.out.lt (by simp;omega))).of_block (h.block Bx (Nat.lt_of_lt_of_le BX.out.lt hgt.size) (by simp;omega))));obtain⟨p1,p2⟩:=POS.out t (by omega);have hby:Ctr.bk key nonce (q+j) (k+t)=Ctr.byte key nonce (a+(d+t)):=by unfold Ctr.byte;rw[p1,p2]
       have hb256:=Ctr.bk_b8 HK.out HN.out (q+j) (k+t);have NXT:=aD (Ctr.mask_set key nonce a l (d+t) (by have:=HM.out;omega));have HBY:=aD hby;clear p1 p2 hot hgt hby c7 c8 hll;generalize l.getD (d+t) 0=p at ct hx256 NXT
       gi_wp2_with fail
       refine nP Tryz.f287 9 12 (fun w'=>wr.grownBy w' (some g)) (by kernel_rfl) (by kernel_rfl) (by kernel_rfl) (by kernel_rfl) (aM (aE _ _) 1) (fun K hK h0=>?_);refine aW (listed':=#[false,false,false,false,false,false,false,false,false,false,false,false]) (by kernel_rfl) rfl ?_;have HF:=aD hK;clear hK;refine aX 0 33 (.slice (some ⟨g,d,none⟩) m c) (fun w' h=>fZ (.tmp 7) ⟨w.heap.size+2,0,none⟩ _ m c (by kernel_rfl) (by kernel_rfl) (cell_of_one (C7.out w' h))) h0 ?_;simp only[Act.put,aJ,aK,aI];refine aX 1 34 (.int .i64 t) (fun _ _=>by kernel_rfl) h0 ?_;simp only[Act.put,aJ,aK,aI];refine aX 2 35 (.pointer (some ⟨g,d+t,none⟩)) (fun _ _=>cN (cap:=c) (len:=m) (x:=.tmp 33) (y:=.tmp 34) (by kernel_rfl) (by kernel_rfl) (by kernel_rfl) (by omega)) h0 ?_;simp only[Act.put,aJ,aK,aI];refine aX 4 37 (.int .i64 k) (fun w' h=>eL (.tmp 8) ⟨w.heap.size+3,0,none⟩ k (by kernel_rfl) (by kernel_rfl) (cell_of_one (C8.out w' h))) h0 ?_;simp only[Act.put,aJ,aK,aI];refine aX 5 38 (.int .i64 t) (fun _ _=>by kernel_rfl) h0 ?_;simp only[Act.put,aJ,aK,aI];refine aX 6 39 (.int .i64 ((k+t:Nat):Int)) (fun _ _=>gS (.tmp 37) (.tmp 38) k t (by kernel_rfl) (by kernel_rfl) (by kernel_rfl) (by omega)) h0 ?_;simp only[Act.put,aJ,aK,aI];refine aX 7 40 (.pointer (some ⟨Bx,k+t,none⟩)) (fun _ _=>fG (x:=.tmp 9) (y:=.tmp 39) (by kernel_rfl) (by kernel_rfl) (by kernel_rfl) (by omega)) h0 ?_;simp only[Act.put,aJ,aK,aI];refine aX 8 41 (.int .u8 (Ctr.bk key nonce (q+j) (k+t):Int)) (fun w' h=>cA (.tmp 40) ⟨Bx,k+t,none⟩ _ (by kernel_rfl) (by kernel_rfl) ((C9.out w' h).cell (by omega))) h0 ?_;simp only[Act.put,aJ,aK,aI];refine aR 3 (by kernel_rfl) (by kernel_rfl) (HStep.value (some 36) (by kernel_rfl) (by kernel_rfl) (.int .u8 (p:Int)) _ (cA (.tmp 35) ⟨g,d+t,none⟩ (p:Int) (by kernel_rfl) (by kernel_rfl) ct) h0 ?_);simp only[Act.put,aJ,aK,aI];refine aX 9 42 (.int .u8 ((p ^^^ Ctr.bk key nonce (q+j) (k+t):Nat):Int)) (fun _ _=>eR (.tmp 36) (.tmp 41) p (Ctr.bk key nonce (q+j) (k+t)) (by kernel_rfl) (by kernel_rfl) (by kernel_rfl) hx256 hb256) h0 ?_;simp only[Act.put,aJ,aK,aI];refine aX 10 43 (.pointer (some ⟨g,d+t,none⟩)) (fun _ _=>cN (cap:=c) (len:=m) (x:=.tmp 33) (y:=.tmp 34) (by kernel_rfl) (by kernel_rfl) (by kernel_rfl) (by omega)) h0 ?_;simp only[Act.put,aJ,aK,aI];have hst:Own wr base (.slice (some ⟨g,0,none⟩) l.length cap) (Ctr.mask key nonce a l (d+t)):=HOT.out;obtain⟨hs1,hs2⟩:=(HOT.out.drewN 1).set (d+t) (p ^^^ Ctr.bk key nonce (q+j) (k+t)) (Fld.xor_lt _ _ hx256 hb256);refine aR 11 (by kernel_rfl) (by kernel_rfl) (HStep.skip none (by kernel_rfl) (by kernel_rfl) _ (fW (.tmp 43) (.tmp 42) ⟨g,d+t,none⟩ _ (p:Int) (by kernel_rfl) (by kernel_rfl) (by kernel_rfl) ct ft) (aF h0 hs2) ?_);refine aZ (by kernel_rfl) (HF.out _ _ ?_);simp only[Act.put];clear HF h0 hst;have hmk:(Ctr.mask key nonce a l (d+t)).set (d+t) (p ^^^ Ctr.bk key nonce (q+j) (k+t))=Ctr.mask key nonce a l (d+(t+1)):=by rw[HBY.out];exact NXT.out
       rw[hmk] at hs1;clear hmk;have hs2:=aF HGT.out (aF (aM (aE wr (some g)) 1) hs2);have J1:=aD (aQ hs1 hs2);clear hs1 hs2 ct ft;generalize (wr.drewN 1).setCell _ _=V at J1 ⊢
       gi_wp2_with fail
       go_roundw
       case rel=>exact⟨t+1,by omega,by go_num,J1.out.1,J1.out.2⟩
       case measure=>simp[intOf];omega
      ·obtain rfl:m=t:=by omega
       have h7w:=(hgt.block (w.heap.size+2) (Array.getElem?_eq_some_iff.1 H7.out).1 (by simp;omega)).trans H7.out;have h8w:=(hgt.block (w.heap.size+3) (Array.getElem?_eq_some_iff.1 H8.out).1 (by simp;omega)).trans H8.out;have c7:=cell_of_one h7w;have f7:=free_of_one h7w;have c8:=cell_of_one h8w;have f8:=free_of_one h8w;have HOT:=aD hot;have HGT:=aD hgt;have hAW:w.heap.size+7≤A.heap.size:=Nat.le_of_lt (Nat.lt_of_le_of_lt hBx BX.out.lt);clear h7w h8w hot hgt;rcases Nat.lt_or_ge m c with hmc2|hge
       rotate_left;obtain rfl:m=c:=by omega
       all_goals
        gi_wp2_with fail
        have hfin:=HOT.out;rw[show d+m=l.length by have:=HM.out;omega,Ctr.mask_all _ _ _ _ _ (Nat.le_refl _)] at hfin;exact⟨(cE (base:=base) (n:=l.length) (cap:=cap) (B:=W.heap.size) hgw WS.out hAW HGT.out HOW.out.isCells H7.out H8.out HG.out).1,(cE (base:=base) (n:=l.length) (cap:=cap) (B:=W.heap.size) hgw WS.out hAW HGT.out HOW.out.isCells H7.out H8.out HG.out).2.2.1 _ hfin,(cE (base:=base) (n:=l.length) (cap:=cap) (B:=W.heap.size) hgw WS.out hAW HGT.out HOW.out.isCells H7.out H8.out HG.out).2.2.2.1⟩
   ·obtain⟨x,hx⟩:∃x,x=16 - k:=⟨_,rfl⟩
    have hek:16 - (k:Int)=(x:Int):=by omega
    have hxm:x<m:=by omega
    have hkx:k+x=16:=by omega
    clear hlast hx
    gi_wp2_with fail
    have hX0:Own A base (.slice (some ⟨g,0,none⟩) l.length cap) (Ctr.mask key nonce a l (d+0)):=HOW.out;have HX0:=aD hX0;clear hX0
    gi_loopw [30] (fun i wr=>∃t:Nat,t≤x∧i= .int .i64 t∧Own wr base (.slice (some ⟨g,0,none⟩) l.length cap) (Ctr.mask key nonce a l (d+t))∧A.grownBy wr (some g)) (fun i _=>x - (intOf i).toNat)
    case atStart=>exact⟨0,by omega,rfl,HX0.out,aE _ _⟩
    case round=>
     obtain⟨t,ht,rfl,hot,hgt⟩:=hrel;clear HX0
     by_cases htx:t<x
     ·have lt:(t:Int)<(x:Int):=by omega
      have HOT:=aD hot;have HGT:=aD hgt;have hll:d+t<(Ctr.mask key nonce a l (d+t)).length:=by rw[Ctr.mask_length];have:=HM.out;omega
      have ct:wr.cell? ⟨g,d+t,none⟩=some (bv (l.getD (d+t) 0)):=by
       have h:=hot.bs.rs.2.2;rw[←Ctr.mask_length key nonce a l (d+t)] at hot;rw[hot.cellAt hll,Ctr.mask_get _ _ _ _ _ _ (by have:=HM.out;omega),if_neg (Nat.lt_irrefl _)]
      have ft:wr.frozen? ⟨g,d+t,none⟩=false:=by
       rw[←Ctr.mask_length key nonce a l (d+t)] at hot;exact hot.frozenAt _
      have hx256:l.getD (d+t) 0<256:=HO.out.1.get _;have C7:=aD (fun(w':World) (h:wr.grownBy w' (some g))=>(h.block (w.heap.size+2) (Nat.lt_of_lt_of_le (Array.getElem?_eq_some_iff.1 H7.out).1 hgt.size) (by simp;omega)).trans ((hgt.block (w.heap.size+2) (Array.getElem?_eq_some_iff.1 H7.out).1 (by simp;omega)).trans H7.out));have C8:=aD (fun(w':World) (h:wr.grownBy w' (some g))=>(h.block (w.heap.size+3) (Nat.lt_of_lt_of_le (Array.getElem?_eq_some_iff.1 H8.out).1 hgt.size) (by simp;omega)).trans ((hgt.block (w.heap.size+3) (Array.getElem?_eq_some_iff.1 H8.out).1 (by simp;omega)).trans H8.out));have C9:=aD (fun(w':World) (h:wr.grownBy w' (some g))=>((BX.out.of_block (hgt.block Bx BX.out.lt (by simp;omega))).of_block (h.block Bx (Nat.lt_of_lt_of_le BX.out.lt hgt.size) (by simp;omega))));obtain⟨p1,p2⟩:=POS.out t (by omega);have hby:Ctr.bk key nonce (q+j) (k+t)=Ctr.byte key nonce (a+(d+t)):=by unfold Ctr.byte;rw[p1,p2]
      have hb256:=Ctr.bk_b8 HK.out HN.out (q+j) (k+t);have NXT:=aD (Ctr.mask_set key nonce a l (d+t) (by have:=HM.out;omega));have HBY:=aD hby;clear p1 p2 hot hgt hby c7 c8 hll;generalize l.getD (d+t) 0=p at ct hx256 NXT
      gi_wp2_with fail
      refine nP Tryz.f287 9 12 (fun w'=>wr.grownBy w' (some g)) (by kernel_rfl) (by kernel_rfl) (by kernel_rfl) (by kernel_rfl) (aM (aE _ _) 1) (fun K hK h0=>?_);refine aW (listed':=#[false,false,false,false,false,false,false,false,false,false,false,false]) (by kernel_rfl) rfl ?_;have HF:=aD hK;clear hK;refine aX 0 33 (.slice (some ⟨g,d,none⟩) m c) (fun w' h=>fZ (.tmp 7) ⟨w.heap.size+2,0,none⟩ _ m c (by kernel_rfl) (by kernel_rfl) (cell_of_one (C7.out w' h))) h0 ?_;simp only[Act.put,aJ,aK,aI];refine aX 1 34 (.int .i64 t) (fun _ _=>by kernel_rfl) h0 ?_;simp only[Act.put,aJ,aK,aI];refine aX 2 35 (.pointer (some ⟨g,d+t,none⟩)) (fun _ _=>cN (cap:=c) (len:=m) (x:=.tmp 33) (y:=.tmp 34) (by kernel_rfl) (by kernel_rfl) (by kernel_rfl) (by omega)) h0 ?_;simp only[Act.put,aJ,aK,aI];refine aX 4 37 (.int .i64 k) (fun w' h=>eL (.tmp 8) ⟨w.heap.size+3,0,none⟩ k (by kernel_rfl) (by kernel_rfl) (cell_of_one (C8.out w' h))) h0 ?_;simp only[Act.put,aJ,aK,aI];refine aX 5 38 (.int .i64 t) (fun _ _=>by kernel_rfl) h0 ?_;simp only[Act.put,aJ,aK,aI];refine aX 6 39 (.int .i64 ((k+t:Nat):Int)) (fun _ _=>gS (.tmp 37) (.tmp 38) k t (by kernel_rfl) (by kernel_rfl) (by kernel_rfl) (by omega)) h0 ?_;simp only[Act.put,aJ,aK,aI];refine aX 7 40 (.pointer (some ⟨Bx,k+t,none⟩)) (fun _ _=>fG (x:=.tmp 9) (y:=.tmp 39) (by kernel_rfl) (by kernel_rfl) (by kernel_rfl) (by omega)) h0 ?_;simp only[Act.put,aJ,aK,aI];refine aX 8 41 (.int .u8 (Ctr.bk key nonce (q+j) (k+t):Int)) (fun w' h=>cA (.tmp 40) ⟨Bx,k+t,none⟩ _ (by kernel_rfl) (by kernel_rfl) ((C9.out w' h).cell (by omega))) h0 ?_;simp only[Act.put,aJ,aK,aI];refine aR 3 (by kernel_rfl) (by kernel_rfl) (HStep.value (some 36) (by kernel_rfl) (by kernel_rfl) (.int .u8 (p:Int)) _ (cA (.tmp 35) ⟨g,d+t,none⟩ (p:Int) (by kernel_rfl) (by kernel_rfl) ct) h0 ?_);simp only[Act.put,aJ,aK,aI];refine aX 9 42 (.int .u8 ((p ^^^ Ctr.bk key nonce (q+j) (k+t):Nat):Int)) (fun _ _=>eR (.tmp 36) (.tmp 41) p (Ctr.bk key nonce (q+j) (k+t)) (by kernel_rfl) (by kernel_rfl) (by kernel_rfl) hx256 hb256) h0 ?_;simp only[Act.put,aJ,aK,aI];refine aX 10 43 (.pointer (some ⟨g,d+t,none⟩)) (fun _ _=>cN (cap:=c) (len:=m) (x:=.tmp 33) (y:=.tmp 34) (by kernel_rfl) (by kernel_rfl) (by kernel_rfl) (by omega)) h0 ?_;simp only[Act.put,aJ,aK,aI];have hst:Own wr base (.slice (some ⟨g,0,none⟩) l.length cap) (Ctr.mask key nonce a l (d+t)):=HOT.out;obtain⟨hs1,hs2⟩:=(HOT.out.drewN 1).set (d+t) (p ^^^ Ctr.bk key nonce (q+j) (k+t)) (Fld.xor_lt _ _ hx256 hb256);refine aR 11 (by kernel_rfl) (by kernel_rfl) (HStep.skip none (by kernel_rfl) (by kernel_rfl) _ (fW (.tmp 43) (.tmp 42) ⟨g,d+t,none⟩ _ (p:Int) (by kernel_rfl) (by kernel_rfl) (by kernel_rfl) ct ft) (aF h0 hs2) ?_);refine aZ (by kernel_rfl) (HF.out _ _ ?_);simp only[Act.put];clear HF h0 hst;have hmk:(Ctr.mask key nonce a l (d+t)).set (d+t) (p ^^^ Ctr.bk key nonce (q+j) (k+t))=Ctr.mask key nonce a l (d+(t+1)):=by rw[HBY.out];exact NXT.out
      rw[hmk] at hs1;clear hmk;have hs2:=aF HGT.out (aF (aM (aE wr (some g)) 1) hs2);have J1:=aD (aQ hs1 hs2);clear hs1 hs2 ct ft;generalize (wr.drewN 1).setCell _ _=V at J1 ⊢
      gi_wp2_with fail
      go_roundw
      case rel=>exact⟨t+1,by omega,by go_num,J1.out.1,J1.out.2⟩
      case measure=>simp[intOf];omega
     ·obtain rfl:x=t:=by omega
      have h7w:=(hgt.block (w.heap.size+2) (Array.getElem?_eq_some_iff.1 H7.out).1 (by simp;omega)).trans H7.out;have h8w:=(hgt.block (w.heap.size+3) (Array.getElem?_eq_some_iff.1 H8.out).1 (by simp;omega)).trans H8.out;have c7:=cell_of_one h7w;have f7:=free_of_one h7w;have c8:=cell_of_one h8w;have f8:=free_of_one h8w;have HOT:=aD hot;have HGT:=aD hgt;have hAW:w.heap.size+7≤A.heap.size:=Nat.le_of_lt (Nat.lt_of_le_of_lt hBx BX.out.lt);clear h7w h8w hot hgt;have hne2:(((m - x:Nat):Int)==0)=false:=by rw[beq_eq_false_iff_ne];omega
      gi_wp2_with fail
      have en:d+x=Ctr.dn s (j+1):=by have:=NX.out;omega
      have hfin:=HOT.out;rw[en] at hfin;refine⟨(cE (base:=base) (n:=l.length) (cap:=cap) (B:=W.heap.size) hgw WS.out hAW HGT.out HOW.out.isCells H7.out H8.out HG.out).1,(cE (base:=base) (n:=l.length) (cap:=cap) (B:=W.heap.size) hgw WS.out hAW HGT.out HOW.out.isCells H7.out H8.out HG.out).2.1,?_,?_,?_,(cE (base:=base) (n:=l.length) (cap:=cap) (B:=W.heap.size) hgw WS.out hAW HGT.out HOW.out.isCells H7.out H8.out HG.out).2.2.1 _ hfin,(cE (base:=base) (n:=l.length) (cap:=cap) (B:=W.heap.size) hgw WS.out hAW HGT.out HOW.out.isCells H7.out H8.out HG.out).2.2.2.1⟩
      ·rw[←en];have:=HM.out;omega
      ·rw[←en];have e1:=HM.out;have e2:=HC.out;rw[show l.length - (d+x)=m - x by omega,show cap - (d+x)=c - x by omega];exact(cE (base:=base) (n:=l.length) (cap:=cap) (B:=W.heap.size) hgw WS.out hAW HGT.out HOW.out.isCells H7.out H8.out HG.out).2.2.2.2.1
      ·rw[K0.out];exact(cE (base:=base) (n:=l.length) (cap:=cap) (B:=W.heap.size) hgw WS.out hAW HGT.out HOW.out.isCells H7.out H8.out HG.out).2.2.2.2.2
 case stop=>
  rintro D V1 hD ⟨ho,hg⟩ hK;refine wpIn_wide.2 ?_;have HO1:=aD ho;have HG1:=aD hg;clear ho hg II B3;go_wp2_with fail;refine⟨by simp,.inl ⟨_,_,rfl,run_takeDeferred hK,?_⟩⟩;have hp:=grownBy_putObj' V1 D (.deferred none);exact⟨_,results_none rfl _ _ _,rfl,HO1.out.only hp (.inr (by simp[Value.ownBlock];have:=WS.out;omega)),gO HG1.out hp (fun b e=>by cases e;have:=WS.out;omega)⟩
end Go.Proofs.YtcoolgnlhheaiaaGreatDoor
namespace Go.Proofs.YtcoolgnlhheaiaaGreatDoor
open Go.RowKit Go.Deep
set_option linter.all false
set_option maxRecDepth 100000
set_option maxHeartbeats 8000000
theorem aEP (key nonce:Nat→Nat) (a:Nat) (v:Value) (l:List Nat) (base:Nat) (w:World) (hk:Aes.B8 key) (hn:Aes.B8 nonce) (ha:a≤4611686018427387904) (hlen:l.length≤140737488355328) (hown:Own w base v l):
 Calls Tryz.prog 287 #[.agg (aH .u8 16 key),.agg (aH .u8 8 nonce),.int .i64 (a:Int),v] w fun e w'=>e= .returned (.tuple #[])∧Own w' base v (Ctr.crypt key nonce a l)∧w.grownBy w' v.ownBlock:=by
 by_cases h0:l.length=0
 ·obtain rfl:l=[]:=List.eq_nil_of_length_eq_zero h0
  refine(aF8 key nonce a v base w hown).mono ?_;rintro e w' ⟨rfl,hb⟩;exact⟨rfl,hown.below hb,aC hb _⟩
 ·rcases hown.cases with ⟨_,h⟩|⟨g,cap,rfl,hbg,hgw,hc,hm,_,_⟩
  ·rw[h] at h0;simp at h0
  ·exact aCK key nonce a l base g cap w hk hn ha (by omega) hlen hown hbg hgw hc hm
def cph (key nonce:Nat→Nat) (u:Int):Array Value:=#[.int .u8 (key 0:Int),.int .u8 (key 1:Int),.int .u8 (key 2:Int),.int .u8 (key 3:Int),.int .u8 (key 4:Int),.int .u8 (key 5:Int),.int .u8 (key 6:Int),.int .u8 (key 7:Int),.int .u8 (key 8:Int),.int .u8 (key 9:Int),.int .u8 (key 10:Int),.int .u8 (key 11:Int),.int .u8 (key 12:Int),.int .u8 (key 13:Int),.int .u8 (key 14:Int),.int .u8 (key 15:Int),.int .u8 (nonce 0:Int),.int .u8 (nonce 1:Int),.int .u8 (nonce 2:Int),.int .u8 (nonce 3:Int),.int .u8 (nonce 4:Int),.int .u8 (nonce 5:Int),.int .u8 (nonce 6:Int),.int .u8 (nonce 7:Int),.int .i64 u]
theorem qD (f:Nat→Nat):aH .u8 16 f=#[.int .u8 (f 0:Int),.int .u8 (f 1:Int),.int .u8 (f 2:Int),.int .u8 (f 3:Int),.int .u8 (f 4:Int),.int .u8 (f 5:Int),.int .u8 (f 6:Int),.int .u8 (f 7:Int),.int .u8 (f 8:Int),.int .u8 (f 9:Int),.int .u8 (f 10:Int),.int .u8 (f 11:Int),.int .u8 (f 12:Int),.int .u8 (f 13:Int),.int .u8 (f 14:Int),.int .u8 (f 15:Int)]:=by unfold aH;rfl
theorem tG (f:Nat→Nat):aH .u8 8 f=#[.int .u8 (f 0:Int),.int .u8 (f 1:Int),.int .u8 (f 2:Int),.int .u8 (f 3:Int),.int .u8 (f 4:Int),.int .u8 (f 5:Int),.int .u8 (f 6:Int),.int .u8 (f 7:Int)]:=by unfold aH;rfl
theorem aHK (key nonce:Nat→Nat) (w:World):(Instr.build 409 #[(0,.agg (aH .u8 16 key)),(1,.agg (aH .u8 8 nonce))]).run Tryz.prog w= .ok (.agg (cph key nonce 0)) w:=by
 rw[qD,tG]
 kernel_rfl
theorem aD9 (key nonce:Nat→Nat) (u:Int):(cph key nonce u).size=25:=rfl
def isCph (w:World) (p:Nat) (key nonce:Nat→Nat) (u:Int):Prop:=w.heap[p]? =some (.cells (cph key nonce u) 409 (0,0))
theorem isCph.key {w:World} {p:Nat} {key nonce:Nat→Nat} {u:Int} (h:isCph w p key nonce u):∀j v,(aH .u8 16 key)[j]? =some v→w.cell? ((⟨p,0,none⟩:Addr).add j)=some v:=by
 intro j v hj;have hj16:j<16:=by
  rcases Nat.lt_or_ge j 16 with h'|h'
  ·exact h'
  ·rw[Array.getElem?_eq_none (by rw[aA];exact h')] at hj;cases hj
 rw[Addr.add_lit,Nat.zero_add];rw[qD] at hj;have e:w.cell? ⟨p,j,none⟩=(cph key nonce u)[j]? :=by unfold isCph at h;simp[World.cell?,h]
 rw[e,←hj];obtain rfl|rfl|rfl|rfl|rfl|rfl|rfl|rfl|rfl|rfl|rfl|rfl|rfl|rfl|rfl|rfl:j=0∨j=1∨j=2∨j=3∨j=4∨j=5∨j=6∨j=7∨j=8∨j=9∨j=10∨j=11∨j=12∨j=13∨j=14∨j=15:=by omega
 all_goals rfl
theorem isCph.nonce {w:World} {p:Nat} {key nonce:Nat→Nat} {u:Int} (h:isCph w p key nonce u):∀j v,(aH .u8 8 nonce)[j]? =some v→w.cell? ((⟨p,16,none⟩:Addr).add j)=some v:=by
 intro j v hj;have hj8:j<8:=by
  rcases Nat.lt_or_ge j 8 with h'|h'
  ·exact h'
  ·rw[Array.getElem?_eq_none (by rw[aA];exact h')] at hj;cases hj
 rw[Addr.add_lit];rw[tG] at hj;have e:w.cell? ⟨p,16+j,none⟩=(cph key nonce u)[16+j]? :=by unfold isCph at h;simp[World.cell?,h]
 rw[e,←hj];obtain rfl|rfl|rfl|rfl|rfl|rfl|rfl|rfl:j=0∨j=1∨j=2∨j=3∨j=4∨j=5∨j=6∨j=7:=by omega
 all_goals rfl
theorem isCph.used {w:World} {p:Nat} {key nonce:Nat→Nat} {u:Int} (h:isCph w p key nonce u):w.cell? ⟨p,24,none⟩=some (.int .i64 u)∧w.frozen? ⟨p,24,none⟩=false:=by
 unfold isCph at h;exact⟨by simp[World.cell?,h,cph],by simp[World.frozen?,h]⟩
theorem isCph.set {w:World} {p:Nat} {key nonce:Nat→Nat} {u:Int} (h:isCph w p key nonce u) (u':Int):isCph (w.setCell ⟨p,24,none⟩ (.int .i64 u')) p key nonce u':=by
 have:=heap_setCell_same w p 24 (cph key nonce u) 409 (.int .i64 u') h;unfold isCph;rw[this];rfl
theorem isCph.lt {w:World} {p:Nat} {key nonce:Nat→Nat} {u:Int} (h:isCph w p key nonce u):p<w.heap.size:=(Array.getElem?_eq_some_iff.1 h).1
def aI0 (key nonce:Nat→Nat) (w:World) (e:Ending) (w':World):Prop:=∃p,e= .returned (.pointer (some ⟨p,0,none⟩))∧w.heap.size≤p∧isCph w' p key nonce 0∧Below w.heap.size w w'
theorem yK {ops:Array Oper} {rest:List Oper} {o:Oper} {a:Act} {w:World} {Q:Exit→Act→World→Prop} (hgd:o.guard=none) (x y:Operand) (ho:o.op= .build 409 #[(0,x),(1,y)]) (key nonce:Nat→Nat) (hx:a.eval x= .agg (aH .u8 16 key)) (hy:a.eval y= .agg (aH .u8 8 nonce))
 (h:wpList Tryz.prog ops Q rest (a.put o.dst (.agg (cph key nonce 0))) w):wpList Tryz.prog ops Q (o::rest) a w:=
 wpList_plain hgd fun K hK=>by
  unfold Oper.wp execOp;simp only[ho,List.map_toArray,List.map_cons,List.map_nil,hx,hy,Sem.run_bind,aHK,Sem.run_pure,Result.andThen_ok];exact hK _ _ h
theorem xY (key nonce:Nat→Nat) (w:World):Calls Tryz.prog 266 #[.agg (aH .u8 16 key),.agg (aH .u8 8 nonce)] w (aI0 key nonce w):=by
 have hsz:=aA .u8 16 key;have hsz2:=aA .u8 8 nonce;go_enter Tryz.func266,Tryz.ntmps266;go_upto_region 1 with fail;generalize hW:(World.alloc _ _:World)=V;have INV:isArr V w.heap.size 22 .u8 16 key∧isArr V (w.heap.size+1) 127 .u8 8 nonce∧Below w.heap.size w V:=by
  rw[←hW];have z1:w.heap.size+1=(w.alloc (Obj.cells (aH IntKind.u8 16 key) 22)).heap.size:=by simp
  refine⟨(aN w _ _ _ _).alloc _,?_,((Below.refl _ _).alloc (Nat.le_refl _) _).alloc (by simp) _⟩;rw[z1];exact aN _ _ _ _ _
 have k1:=INV.1;have k2:=INV.2.1;have B0:=aD INV.2.2;have hs:w.heap.size≤V.heap.size:=INV.2.2.size;clear hW INV hsz hsz2;have hcs:=aD9 key nonce 0;go_wp2_with (first|refine wpList_load_row rfl _ _ rfl w.heap.size rfl _ _ (0,0) _ k1 rfl rfl (a8 _) ?_|refine wpList_load_row rfl _ _ rfl (w.heap.size+1) rfl _ _ (0,0) _ k2 rfl rfl (lU _) ?_|refine yK rfl _ _ rfl key nonce rfl rfl ?_);go_ret;exact⟨V.heap.size,rfl,hs,heap_alloc_new _ _,B0.out.alloc hs _⟩
def aER (p:Nat) (key nonce:Nat→Nat) (u:Nat) (l:List Nat) (w:World) (e:Ending) (w':World):Prop:=
 ∃v,e= .returned v∧Own w' w.heap.size v (Ctr.crypt key nonce u l)∧isCph w' p key nonce ((u+l.length:Nat):Int)∧w.grownBy w' (some p)
theorem tW (p:Nat) (key nonce:Nat→Nat) (u:Nat) (v:Value) (l:List Nat) (w:World) (hk:Aes.B8 key) (hn:Aes.B8 nonce) (hp:isCph w p key nonce (u:Int)) (hv:Rs w v l) (hl:l.length≤140737488355328) (hu:u≤1152921504606846976):
 Calls Tryz.prog 267 #[.pointer (some ⟨p,0,none⟩),v] w (aER p key nonce u l w):=by
 have HK:=aD hk;have HN:=aD hn;have HP:=aD hp;have HV:=aD hv;have hpw:=hp.lt;obtain⟨va,vc,rfl⟩:=hv.form;clear hk hn hp hv;go_enter Tryz.func267,Tryz.ntmps267;go_upto_region 5 with (first|(at_make;go_must (refine dE rfl _ _ rfl w.heap.size _ _ _ _ l.length rfl rfl rfl rfl (by omega) (Nat.le_refl _) ?_;intro w1 hown hgr;have B1:=aD (aB hgr);have HO:=aD hown;clear hown hgr))|(refine aBT rfl _ _ rfl w.heap.size (.slice (some ⟨w.heap.size,0,none⟩) l.length l.length) _ rfl HO.out _ l rfl (HV.out.below B1.out) (by simp) ?_;intro w2 ho2 hg2;have HO2:=aD ho2;have HG2:=aD hg2;clear ho2 hg2));have b2:Below w.heap.size w w2:=aP B1.out (Nat.le_refl _) HG2.out (fun g hg=>(HO2.out.lt g hg).1);have B2:=aD b2;clear b2 HG2 HO;refine bO Tryz.f267 5 14 (fun w'=>Below w.heap.size w w') (by kernel_rfl) (by kernel_rfl) (by kernel_rfl) (aU B2.out 1) (fun K hK h0=>?_);refine aW (listed':=#[false,false,false,false,false,false,false,false,false,false,false,false,false,false]) (by kernel_rfl) rfl ?_;have HF:=aD hK;clear hK;refine aX 0 14 (.pointer (some ⟨p,0,none⟩)) (fun _ _=>by kernel_rfl) h0 ?_;simp only[Act.put,aJ,aK,aI];refine aX 1 15 (.pointer (some ⟨p,0,none⟩)) (fun _ _=>by kernel_rfl) h0 ?_;simp only[Act.put,aJ,aK,aI];refine aX 2 16 (.pointer (some ⟨p,0,none⟩)) (fun _ _=>by kernel_rfl) h0 ?_;simp only[Act.put,aJ,aK,aI];refine bG 3 17 (by kernel_rfl) 22 (.tmp 16) (by kernel_rfl) ⟨p,0,none⟩ (by kernel_rfl) (aH .u8 16 key) _ (fun w' h=>isCph.key (u:=(u:Int)) ((h.block p hpw).trans HP.out)) Tryz.underlying22 rfl (a8 _) h0 ?_;simp only[Act.put,aJ,aK,aI];refine aX 4 18 (.pointer (some ⟨p,0,none⟩)) (fun _ _=>by kernel_rfl) h0 ?_;simp only[Act.put,aJ,aK,aI];refine aX 5 19 (.pointer (some ⟨p,0,none⟩)) (fun _ _=>by kernel_rfl) h0 ?_;simp only[Act.put,aJ,aK,aI];refine aX 6 20 (.pointer (some ⟨p,16,none⟩)) (fun _ _=>by kernel_rfl) h0 ?_;simp only[Act.put,aJ,aK,aI];refine bG 7 21 (by kernel_rfl) 127 (.tmp 20) (by kernel_rfl) ⟨p,16,none⟩ (by kernel_rfl) (aH .u8 8 nonce) _ (fun w' h=>isCph.nonce (u:=(u:Int)) ((h.block p hpw).trans HP.out)) Tryz.underlying127 rfl (lU _) h0 ?_;simp only[Act.put,aJ,aK,aI];refine aX 8 22 (.pointer (some ⟨p,0,none⟩)) (fun _ _=>by kernel_rfl) h0 ?_;simp only[Act.put,aJ,aK,aI];refine aX 9 23 (.pointer (some ⟨p,0,none⟩)) (fun _ _=>by kernel_rfl) h0 ?_;simp only[Act.put,aJ,aK,aI];refine aX 10 24 (.pointer (some ⟨p,24,none⟩)) (fun _ _=>by kernel_rfl) h0 ?_;simp only[Act.put,aJ,aK,aI];refine aX 11 25 (.int .i64 (u:Int)) (fun w' h=>eL (.tmp 24) ⟨p,24,none⟩ (u:Int) (by kernel_rfl) (by kernel_rfl) (isCph.used (key:=key) (nonce:=nonce) ((h.block p hpw).trans HP.out)).1) h0 ?_;simp only[Act.put,aJ,aK,aI];refine aX 12 26 (.slice (some ⟨w.heap.size,0,none⟩) l.length l.length) (fun _ _=>by kernel_rfl) h0 ?_;simp only[Act.put,aJ,aK,aI];refine bE 13 27 287 #[.agg (aH .u8 16 key),.agg (aH .u8 8 nonce),.int .i64 (u:Int),.slice (some ⟨w.heap.size,0,none⟩) l.length l.length] (by kernel_rfl) (by kernel_rfl) ?_;refine(aEP key nonce u _ l w.heap.size _ HK.out HN.out (by omega) hl (HO2.out.drewN 1)).mono ?_;rintro e w3 ⟨rfl,ho3,hg3⟩;have h3:Below w.heap.size w w3:=aP h0 (Nat.le_refl _) hg3 (fun g hg=>(HO2.out.lt g hg).1);have p3:isCph w3 p key nonce (u:Int):=(h3.block p hpw).trans HP.out;refine⟨_,rfl,h3,?_⟩;simp only[Act.put,aJ,aK,aI];refine aZ (by kernel_rfl) (HF.out _ _ ?_);obtain⟨c3,f3⟩:=p3.used;have P3:=aD (p3.set ((u+l.length:Nat):Int));have ho4:=ho3.only (bA (aE w3 (some p)) 24 (.int .i64 ((u+l.length:Nat):Int))) (.inr (by simp[Value.ownBlock];omega));have H4:=aD ho4;have G4:=aD (aF (aC h3 (some p)) (bA (aE w3 (some p)) 24 (.int .i64 ((u+l.length:Nat):Int))));have hadd:IntKind.i64.wrap ((u:Int)+(l.length:Int))=((u+l.length:Nat):Int):=by rw[IntWalk.i64_in _ (by omega)];omega
 have hadd2:(u:Int)+(l.length:Int)=((u+l.length:Nat):Int):=by omega
 clear HF h0 h3 ho3 hg3 p3 ho4;clear hadd hadd2;go_wp2_with fail;go_ret;exact⟨_,rfl,H4.out,P3.out,G4.out⟩
theorem rJ (key nonce:Nat→Nat) (v:Value) (l:List Nat) (w:World) (hk:Aes.B8 key) (hn:Aes.B8 nonce) (hv:Rs w v l) (hl:l.length≤140737488355328):
 Calls Tryz.prog 229 #[.agg (aH .u8 16 key),.agg (aH .u8 8 nonce),v] w (cG (Ctr.crypt key nonce 0 l) w):=by
 have hsz:=aA .u8 16 key;have hsz2:=aA .u8 8 nonce;have HK:=aD hk;have HN:=aD hn;have HV:=aD hv;clear hk hn hv;go_enter Tryz.func229,Tryz.ntmps229;go_upto_region 1 with fail;generalize hW:(World.alloc _ _:World)=V;have INV:isArr V w.heap.size 22 .u8 16 key∧isArr V (w.heap.size+1) 127 .u8 8 nonce∧Below w.heap.size w V:=by
  rw[←hW];have z1:w.heap.size+1=(w.alloc (Obj.cells (aH IntKind.u8 16 key) 22)).heap.size:=by simp
  refine⟨(aN w _ _ _ _).alloc _,?_,((Below.refl _ _).alloc (Nat.le_refl _) _).alloc (by simp) _⟩;rw[z1];exact aN _ _ _ _ _
 have k1:=INV.1;have k2:=INV.2.1;have B0:=aD INV.2.2;have hs:w.heap.size≤V.heap.size:=INV.2.2.size;clear hW INV hsz hsz2;go_wp2_with (first|refine wpList_load_row rfl _ _ rfl w.heap.size rfl _ _ (0,0) _ k1 rfl rfl (a8 _) ?_|refine wpList_load_row rfl _ _ rfl (w.heap.size+1) rfl _ _ (0,0) _ k2 rfl rfl (lU _) ?_|(go_at_call 266;refine(xY _ _ _).mono ?_;rintro e w1 ⟨p,rfl,hp,hcp,hb1⟩;have P1:=aD hcp;have B1:=aD (B0.out.trans (hb1.mono hs));clear hcp hb1)|(go_at_call 267;refine(tW p key nonce 0 _ l _ HK.out HN.out P1.out (HV.out.below B1.out) hl (by omega)).mono ?_;rintro e w2 ⟨v2,rfl,ho2,_,hg2⟩;have HO2:=aD ho2;have HG2:=aD hg2;clear ho2 hg2));go_ret;exact⟨_,rfl,HO2.out.mono B1.out.size,aP B1.out (Nat.le_refl _) HG2.out (fun g hg=>by cases hg;omega)⟩
end Go.Proofs.YtcoolgnlhheaiaaGreatDoor
namespace Go.Proofs.YtcoolgnlhheaiaaGreatDoor
open Go.RowKit Go.Deep
set_option linter.all false
set_option maxRecDepth 100000
set_option maxHeartbeats 8000000
def Ctr.rh (nonce:Nat→Nat) (i m p:Nat):Nat:=if p<m then nonce p else if 15 - p<m then i / 256 ^ (15 - p) % 256 else 0
theorem Ctr.rh_all (nonce:Nat→Nat) (i p:Nat) (hp:p<16):Ctr.rh nonce i 8 p=Ctr.blk nonce i p:=by
 unfold Ctr.rh Ctr.blk
 by_cases h:p<8
 ·rw[if_pos h,if_pos h]
 ·rw[if_neg h,if_neg h,if_pos (by omega)]
theorem Ctr.rh_next (nonce:Nat→Nat) (i m p:Nat) (hm:m<8) (hp:p<16):(if p=15 - m then i / 256 ^ m % 256 else if p=m then nonce m else Ctr.rh nonce i m p)=Ctr.rh nonce i (m+1) p:=by
 unfold Ctr.rh
 by_cases h:p=15 - m
 ·rw[if_pos h,if_neg (by omega),if_pos (by omega),show 15 - p=m by omega]
 ·rw[if_neg h]
  by_cases h2:p=m
  ·rw[if_pos h2,if_pos (by omega),h2]
  ·rw[if_neg h2]
   by_cases h3:p<m
   ·rw[if_pos h3,if_pos (by omega)]
   ·have e1:¬p<m+1:=by omega
    rw[if_neg h3,if_neg e1]
    by_cases h4:15 - p<m
    ·have e2:15 - p<m+1:=by omega
     rw[if_pos h4,if_pos e2]
    ·have e2:¬15 - p<m+1:=by omega
     rw[if_neg h4,if_neg e2]
def RKI (key nonce x:Nat→Nat) (w wr:World):Prop:=
 Below w.heap.size w wr∧isArr wr w.heap.size 22 .u8 16 key∧isArr wr (w.heap.size+1) 127 .u8 8 nonce∧isArr wr (w.heap.size+2) 356 .u8 256 Fld.sb∧isArr wr (w.heap.size+3) 22 .u8 16 (fun _=>0)∧isArr wr (w.heap.size+4) 22 .u8 16 x
theorem RKI.congr {key nonce x y:Nat→Nat} {w wr:World} (h:RKI key nonce x w wr) (e:∀t,t<16→x t=y t):RKI key nonce y w wr:=⟨h.1,h.2.1,h.2.2.1,h.2.2.2.1,h.2.2.2.2.1,h.2.2.2.2.2.congr e⟩
theorem RKI.set {key nonce x:Nat→Nat} {w wr:World} (h:RKI key nonce x w wr) (i v:Nat):RKI key nonce (fun t=>if t=i then v else x t) w (wr.setCell ⟨w.heap.size+4,i,none⟩ (.int .u8 (v:Int))):=
 ⟨bM h.1 (by omega) _ _,h.2.1.setOther (by omega) _ _,h.2.2.1.setOther (by omega) _ _,h.2.2.2.1.setOther (by omega) _ _,h.2.2.2.2.1.setOther (by omega) _ _,h.2.2.2.2.2.set i v⟩
theorem iC (key nonce:Nat→Nat) (i:Nat) (w:World) (hk:Aes.B8 key) (hn:Aes.B8 nonce) (hi:i<18446744073709551616):
 Calls Tryz.prog 239 #[.agg (aH .u8 16 key),.agg (aH .u8 8 nonce),.int .u64 (i:Int),.agg (aH .u8 256 Fld.sb)] w fun e w'=>e= .returned (.agg (aH .u8 16 (Ctr.bk key nonce i)))∧Below w.heap.size w w':=by
 have hsz:=aA .u8 16 key;have hsz2:=aA .u8 8 nonce;have hsz3:=aA .u8 256 Fld.sb;have HK:=aD hk;clear hk;have HN:=aD hn;clear hn;go_enter Tryz.func239,Tryz.ntmps239;go_upto_region 2 with fail;generalize hW:(World.alloc _ _:World)=V;have INV:RKI key nonce (Ctr.rh nonce i 0) w V:=by
  rw[←hW];have z1:w.heap.size+1=(w.alloc (Obj.cells (aH IntKind.u8 16 key) 22)).heap.size:=by simp
  have z2:w.heap.size+2=((w.alloc (Obj.cells (aH IntKind.u8 16 key) 22)).alloc (Obj.cells (aH IntKind.u8 8 nonce) 127)).heap.size:=by simp
  have z3:w.heap.size+3=(((w.alloc (Obj.cells (aH IntKind.u8 16 key) 22)).alloc (Obj.cells (aH IntKind.u8 8 nonce) 127)).alloc (Obj.cells (aH IntKind.u8 256 Fld.sb) 356)).heap.size:=by simp
  have z4:∀o:Obj,w.heap.size+4=((((w.alloc (Obj.cells (aH IntKind.u8 16 key) 22)).alloc (Obj.cells (aH IntKind.u8 8 nonce) 127)).alloc (Obj.cells (aH IntKind.u8 256 Fld.sb) 356)).alloc o).heap.size:=by simp
  have hz:∀t,t<16→(0:Nat)=Ctr.rh nonce i 0 t:=fun t ht=>by unfold Ctr.rh;rw[if_neg (Nat.not_lt_zero _),if_neg (Nat.not_lt_zero _)]
  refine⟨(((((Below.refl _ _).alloc (Nat.le_refl _) _).alloc (by simp) _).alloc (by simp;omega) _).alloc (by simp;omega) _).alloc (by simp;omega) _,?_,?_,?_,?_,?_⟩
  ·exact((((aN w _ _ _ _).alloc _).alloc _).alloc _).alloc _
  ·rw[z1];exact(((aN _ _ _ _ _).alloc _).alloc _).alloc _
  ·rw[z2];exact((aN _ _ _ _ _).alloc _).alloc _
  ·rw[z3];first|exact dY.alloc _|exact zero16r.alloc _
  ·rw[z4];first|exact dY.congr hz|exact zero16r.congr hz
 have I0:=aD INV;clear hW INV hsz hsz2 hsz3;go_wp2_with fail
 go_loopw [10,2] (fun j y wr=>∃m:Nat,m≤8∧j= .int .i64 (m:Int)∧y= .int .u64 ((i / 256 ^ m:Nat):Int)∧RKI key nonce (Ctr.rh nonce i m) w wr) (fun j _ _=>8 - (intOf j).toNat)
 case atStart=>exact⟨0,by omega,by simp,by simp,I0.out⟩
 case round=>
  clear I0;obtain⟨m,hm,rfl,rfl,hI⟩:=hrel;have HI:=aD hI
  by_cases hlt:m<8
  ·have hd:decide ((m:Int)<8)=true:=by simp;omega
   have c1:=hI.2.2.1.cell (i:=m) hlt;have c2:=hI.2.2.2.2.2.cell (i:=m) (by omega);have f2:=hI.2.2.2.2.2.frozen m;have S1:=HI.out.set m (nonce m);have c3:=S1.2.2.2.2.2.cell (i:=15 - m) (by omega);have f3:=S1.2.2.2.2.2.frozen (15 - m);have S2:=aD ((S1.set (15 - m) (i / 256 ^ m % 256)).congr (fun t ht=>Ctr.rh_next nonce i m t hlt ht));have hql:i / 256 ^ m<18446744073709551616:=Nat.lt_of_le_of_lt (Nat.div_le_self _ _) hi;have HDV:=aD (show i / 256 ^ (m+1)=i / 256 ^ m / 256 by rw[Nat.pow_succ,Nat.div_div_eq_div_mul]);generalize Ctr.rh nonce i m m=old at c2;generalize (if 15 - m=m then nonce m else Ctr.rh nonce i m (15 - m))=old2 at c3;have hnb:=HN.out m;generalize nonce m=nb at c1 S1 c3 f3 S2 hnb;generalize i / 256 ^ m=q at hql S2 HDV ⊢;clear hI S1;obtain⟨p,hp⟩:∃p,p=15 - m:=⟨_,rfl⟩;have ep:15 - (m:Int)=(p:Int):=by omega
   rw[←hp] at c3 f3 S2;have hp16:(p:Int)<16:=by omega
   have hp0:8≤(p:Int):=by omega
   obtain⟨r,hr⟩:∃r,r=q % 256:=⟨_,rfl⟩;rw[←hr] at S2;have er:(q:Int) % 256=(r:Int):=by omega
   have hr256:r<256:=by omega
   obtain⟨q2,hq2⟩:∃q2,q2=q / 256:=⟨_,rfl⟩;have eq2:(q:Int) / 256=(q2:Int):=by omega
   have hq64:q2<18446744073709551616:=by omega
   have HQ2:=aD hq2;have hm8:(m:Int)<8:=by omega
   clear hp hr hq2;go_wp2_with fail;go_roundw
   case rel=>exact⟨m+1,by omega,by go_num,by rw[HDV.out,HQ2.out],S2.out⟩
   case measure=>simp[intOf];omega
  ·obtain rfl:m=8:=by omega
   have hd:decide (((8:Nat):Int)<8)=false:=by decide
   have I8:=aD (HI.out.congr (fun t ht=>Ctr.rh_all nonce i t ht));have k1:=hI.2.1;have k2:=I8.out.2.2.2.2.2;have k3:=hI.2.2.2.1;clear hI HI;go_wp2_with (first|refine wpList_load_row rfl _ _ rfl w.heap.size rfl _ _ (0,0) _ k1 rfl rfl (a8 _) ?_|refine wpList_load_row rfl _ _ rfl (w.heap.size+4) rfl _ _ (0,0) _ k2 rfl rfl (a8 _) ?_|refine wpList_load_row rfl _ _ rfl (w.heap.size+2) rfl _ _ (0,0) _ k3 rfl rfl (eB _) ?_|(go_at_call 272;refine(oV _ _ _ HK.out (Ctr.blk_b8 HN.out i)).mono ?_;rintro e w9 ⟨rfl,hb9⟩;have k9:=I8.out.2.2.2.2.1.below hb9 I8.out.2.2.2.2.1.lt;have B9:=aD (I8.out.1.trans (hb9.mono I8.out.1.size));clear hb9)|(refine wpList_store_row rfl _ _ _ rfl (w.heap.size+3) _ rfl rfl _ _ k9 (a8 _) ((aA _ _ _).trans (aA _ _ _).symm) (aL _ _ _) ?_));exact bodyPost_ret (results_cell_row rfl _ _ (w.heap.size+3) _ _ (0,0) _ rfl (setRow_heap _ (w.heap.size+3) _ _ _ (0,0) k9) rfl rfl (a8 _)) rfl ⟨rfl,below_setRow B9.out (by omega) _⟩
end Go.Proofs.YtcoolgnlhheaiaaGreatDoor
namespace Go.Proofs.YtcoolgnlhheaiaaGreatDoor
open Go.RowKit Go.Deep
set_option linter.all false
set_option maxRecDepth 100000
set_option maxHeartbeats 8000000
def RSI (key nonce b:Nat→Nat) (g10 g11:Nat) (w wr:World):Prop:=
 Below w.heap.size w wr∧isArr wr w.heap.size 22 .u8 16 key∧isArr wr (w.heap.size+1) 127 .u8 8 nonce∧isArr wr g10 356 .u8 256 Fld.sb∧isArr wr g11 22 .u8 16 b∧w.heap.size+2≤g10∧g10<g11
theorem RSI.below {key nonce b:Nat→Nat} {g10 g11:Nat} {w wr w':World} (h:RSI key nonce b g10 g11 w wr) (e:Below wr.heap.size wr w'):RSI key nonce b g10 g11 w w':=
 ⟨h.1.trans (e.mono h.1.size),h.2.1.below e h.2.1.lt,h.2.2.1.below e h.2.2.1.lt,h.2.2.2.1.below e h.2.2.2.1.lt,h.2.2.2.2.1.below e h.2.2.2.2.1.lt,h.2.2.2.2.2⟩
theorem RSI.only {key nonce b:Nat→Nat} {g10 g11:Nat} {w wr w':World} {r:Option Nat} (h:RSI key nonce b g10 g11 w wr) (k:wr.grownBy w' r) (hr:∀g,r=some g→g11<g):RSI key nonce b g10 g11 w w':=by
 obtain⟨h1,h2,h3,h4,h5,h6,h7⟩:=h;exact⟨aP h1 (Nat.le_refl _) k (fun g e=>by have:=hr g e;omega),h2.of_block (k.block _ h2.lt (fun e=>by have:=hr _ e.symm;omega)),h3.of_block (k.block _ h3.lt (fun e=>by have:=hr _ e.symm;omega)),h4.of_block (k.block _ h4.lt (fun e=>by have:=hr _ e.symm;omega)),h5.of_block (k.block _ h5.lt (fun e=>by have:=hr _ e.symm;omega)),h6,h7⟩
theorem RSI.row {key nonce b c:Nat→Nat} {g10 g11:Nat} {w wr:World} (h:RSI key nonce b g10 g11 w wr):RSI key nonce c g10 g11 w (wr.setRow g11 (aH .u8 16 c)):=by
 obtain⟨h1,h2,h3,h4,h5,h6,h7⟩:=h;exact⟨below_setRow h1 (by omega) _,setRow_other h2 (by omega) _,setRow_other h3 (by omega) _,setRow_other h4 (by omega) _,setRow_heap _ _ _ _ _ (0,0) h5,h6,h7⟩
theorem rG (key nonce:Nat→Nat) (a n:Nat) (w:World) (hk:Aes.B8 key) (hn:Aes.B8 nonce) (ha:a≤1099511627776) (hn2:n≤1048576):
 Calls Tryz.prog 192 #[.agg (aH .u8 16 key),.agg (aH .u8 8 nonce),.int .i64 (a:Int),.int .i64 (n:Int)] w (cG (Ctr.str key nonce a n) w):=by
 have hsz:=aA .u8 16 key;have hsz2:=aA .u8 8 nonce;have HK:=aD hk;have HN:=aD hn;clear hk hn;have hz28:∀w,(zeroValue 356).run Tryz.prog w= .ok (.agg (Array.replicate 256 (.int .u8 0))) w:=fun _=>by kernel_rfl
 have d1:decide ((a:Int)<0)=false:=by simp
 have d2:decide (1099511627776<(a:Int))=false:=by simp;omega
 have d3:decide ((n:Int)<0)=false:=by simp
 have d4:decide (1048576<(n:Int))=false:=by simp;omega
 go_enter Tryz.func192,Tryz.ntmps192;go_upto_region 2 with fail;generalize hW:(World.alloc _ _:World)=V;have INV:isArr V w.heap.size 22 .u8 16 key∧isArr V (w.heap.size+1) 127 .u8 8 nonce∧Below w.heap.size w V∧V.heap.size=w.heap.size+2:=by
  rw[←hW];have z1:w.heap.size+1=(w.alloc (Obj.cells (aH IntKind.u8 16 key) 22)).heap.size:=by simp
  refine⟨(aN w _ _ _ _).alloc _,?_,((Below.refl _ _).alloc (Nat.le_refl _) _).alloc (by simp) _,by simp⟩;rw[z1];exact aN _ _ _ _ _
 have I0:=aD INV;clear hW INV hsz hsz2;go_upto_region 5 with (first|(go_at_call 238;refine(aFK _).mono ?_;rintro e w1 ⟨rfl,hb1⟩;have B1:=aD hb1;clear hb1)|(refine wpList_store_rowTo rfl _ _ _ rfl rfl w1.heap.size _ rfl rfl _ _ (heap_alloc_new _ _) (eB _) (by rw[aA];first|rfl|simp) (aL _ _ _) ?_;generalize hV:World.setRow _ w1.heap.size _=V2));have hs1:=B1.out.size;have hsV:=I0.out.2.2.2;have E2:Below w.heap.size w V2∧isArr V2 w.heap.size 22 .u8 16 key∧isArr V2 (w.heap.size+1) 127 .u8 8 nonce∧isArr V2 w1.heap.size 356 .u8 256 Fld.sb:=by
  have h2:Below V.heap.size V V2:=by rw[←hV];exact below_setRow (B1.out.alloc hs1 _) hs1 _
  refine⟨I0.out.2.2.1.trans (h2.mono I0.out.2.2.1.size),I0.out.1.below h2 I0.out.1.lt,I0.out.2.1.below h2 I0.out.2.1.lt,?_⟩;rw[←hV];exact setRow_heap _ _ _ _ _ _ (heap_alloc_new _ _)
 have hg10:w.heap.size+2≤w1.heap.size:=by omega
 have k1:=E2.2.1;have k2:=E2.2.2.1;have k3:=E2.2.2.2;have EE:=aD E2;clear hV E2 B1 hs1 hsV I0;generalize w1.heap.size=g10 at EE hg10 k3 ⊢;obtain⟨q,hq⟩:∃q,q=a / 16:=⟨_,rfl⟩;have eq:(a:Int) / 16=(q:Int):=by omega
 have hq64:q<18446744073709551616:=by omega
 have HQ:=aD hq;clear hq;go_upto_region 6 with (first|refine wpList_load_row rfl _ _ rfl w.heap.size rfl _ _ (0,0) _ k1 rfl rfl (a8 _) ?_|refine wpList_load_row rfl _ _ rfl (w.heap.size+1) rfl _ _ (0,0) _ k2 rfl rfl (lU _) ?_|refine wpList_load_row rfl _ _ rfl g10 rfl _ _ (0,0) _ k3 rfl rfl (eB _) ?_|(go_at_call 239;refine(iC key nonce q _ HK.out HN.out hq64).mono ?_;rintro e w3 ⟨rfl,hb3⟩;have B3:=aD hb3;clear hb3)|(refine wpList_store_rowTo rfl _ _ _ rfl rfl w3.heap.size _ rfl rfl _ _ (heap_alloc_new _ _) (a8 _) (by rw[aA];first|rfl|simp) (aL _ _ _) ?_;generalize hV:World.setRow _ w3.heap.size _=V3));have S0:RSI key nonce (Ctr.bk key nonce q) g10 w3.heap.size w V3:=by
  have hs3:=B3.out.size;have h3:Below V2.heap.size V2 V3:=by rw[←hV];exact below_setRow (B3.out.alloc hs3 _) hs3 _
  refine⟨EE.out.1.trans (h3.mono EE.out.1.size),EE.out.2.1.below h3 EE.out.2.1.lt,EE.out.2.2.1.below h3 EE.out.2.2.1.lt,EE.out.2.2.2.below h3 EE.out.2.2.2.lt,?_,hg10,Nat.lt_of_lt_of_le EE.out.2.2.2.lt hs3⟩;rw[←hV];exact setRow_heap _ _ _ _ _ _ (heap_alloc_new _ _)
 have SS:=aD S0;clear hV S0 B3 EE k1 k2 k3 eq;generalize w3.heap.size=g11 at SS ⊢;go_wp2_with fail
 go_loopw [9,12] (fun v i wr=>∃m:Nat,m≤n∧i= .int .i64 ((a+m:Nat):Int)∧Own wr (g11+1) v (Ctr.str key nonce a m)∧∃b:Nat,RSI key nonce (Ctr.bk key nonce b) g10 g11 w wr∧((a+m) % 16=0∨b=(a+m) / 16)) (fun _ i _=>a+n - (intOf i).toNat)
 case atStart=>exact⟨0,by omega,rfl,Own.nil _ _,q,SS.out,.inr (by rw[HQ.out];rfl)⟩
 case round=>
  clear SS HQ hq64;obtain⟨m,hm,rfl,hov,b,hsi,hb⟩:=hrel;obtain⟨i,hi⟩:∃i,i=a+m:=⟨_,rfl⟩;rw[←hi] at hb ⊢;have OV:=aD hov;have SI:=aD hsi;obtain⟨va,vc,rfl⟩:=hov.form;rw[Ctr.str_length] at OV ⊢;have HI:=aD hi
  by_cases hlt:m<n
  ·have hd:decide ((i:Int)<(a:Int)+(n:Int))=true:=by simp;omega
   have hi40:i≤2199023255552:=by omega
   obtain⟨t,ht⟩:∃t,t=i % 16:=⟨_,rfl⟩;obtain⟨q,hq⟩:∃q,q=i / 16:=⟨_,rfl⟩;have et:(i:Int) % 16=(t:Int):=by omega
   have eq:(i:Int) / 16=(q:Int):=by omega
   have ht16:t<16:=by omega
   have hq64:q<18446744073709551616:=by omega
   have HT:=aD ht;have HQ:=aD hq;have hlt':(i:Int)<(a:Int)+(n:Int):=by omega
   have NB:=aD (show(i+1) % 16=0∨q=(i+1) / 16 by omega);have HBY:=aD (show Ctr.bk key nonce q t=Ctr.byte key nonce (a+m) by unfold Ctr.byte;rw[hq,ht,hi]);have HST:=aD (Ctr.str_succ key nonce a m)
   by_cases h0:t=0
   ·have hz:((t:Int)==0)=true:=by rw[h0];rfl
    have k1:=hsi.2.1;have k2:=hsi.2.2.1;have k3:=hsi.2.2.2.1;clear hov hsi hi ht hq hb h0 hd;go_upto_region 11 with (first|refine wpList_load_row rfl _ _ rfl w.heap.size rfl _ _ (0,0) _ k1 rfl rfl (a8 _) ?_|refine wpList_load_row rfl _ _ rfl (w.heap.size+1) rfl _ _ (0,0) _ k2 rfl rfl (lU _) ?_|refine wpList_load_row rfl _ _ rfl g10 rfl _ _ (0,0) _ k3 rfl rfl (eB _) ?_|(go_at_call 239;refine(iC key nonce q _ HK.out HN.out hq64).mono ?_;rintro e w3 ⟨rfl,hb3⟩;have S3:=aD (SI.out.below hb3);have O3:=aD (OV.out.below hb3);have k4:=S3.out.2.2.2.2.1;clear hb3)|(refine wpList_store_row rfl _ _ _ rfl g11 _ rfl rfl _ _ k4 (a8 _) ((aA _ _ _).trans (aA _ _ _).symm) (aL _ _ _) ?_));have S4:=aD (S3.out.row (c:=Ctr.bk key nonce q));have O4:=aD (O3.out.only (cO w3 g11 (aH .u8 16 (Ctr.bk key nonce q))) (by cases hv:(Value.slice va m vc).ownBlock with|none=>exact .inl rfl|some g=>exact .inr (fun e=>by cases e;have:=(O3.out.lt _ hv).1;omega)));clear S3 O3 k1 k2 k3 k4 OV SI;generalize w3.setRow g11 (aH .u8 16 (Ctr.bk key nonce q))=W at S4 O4 ⊢;have cB:=S4.out.2.2.2.2.1.cell (i:=t) ht16;have hcB:=Ctr.bk_b8 HK.out HN.out q t;have hszW:g11+1≤W.heap.size:=S4.out.2.2.2.2.1.lt;generalize Ctr.bk key nonce q t=c at cB hcB HBY;go_wp2_with (at_builtin;go_must (refine bW rfl _ _ rfl (g11+1) (.slice va m vc) (Ctr.str key nonce a m) rfl (O4.out.alloc _) _ [c] rfl (bL W _ [c] (AllB.one hcB) hszW (by simp)).bs (by simp[Ctr.str_length];omega) (Nat.le_trans hszW (by simp)) ?_;intro v2 w2 hown2 hgr2));have hS5:=(S4.out.only (World.grownBy_alloc W (.cells #[bv c] 5) none) (fun g e=>by cases e)).only hgr2 (fun g e=>(O4.out.lt g e).1);rw[HBY.out,←HST.out] at hown2;have J2:=aD (aQ hown2 hS5);clear hown2 hgr2 hS5 S4 O4 cB;go_wp2_with fail;go_roundw
    case rel=>exact⟨m+1,by omega,by have:=HI.out;congr 1;omega,J2.out.1,q,J2.out.2,by have:=HI.out;have:=NB.out;omega⟩
    case measure=>have:=HI.out;simp[intOf];omega
   ·have hz:((t:Int)==0)=false:=by rw[beq_eq_false_iff_ne];omega
    obtain rfl:q=b:=by omega
    have S4:=SI;have O4:=OV;clear hov hsi hi ht hq hb h0 hd SI OV;go_upto_region 11 with fail;obtain⟨W,hW⟩:∃W,W=wr:=⟨_,rfl⟩;subst hW;have cB:=S4.out.2.2.2.2.1.cell (i:=t) ht16;have hcB:=Ctr.bk_b8 HK.out HN.out q t;have hszW:g11+1≤W.heap.size:=S4.out.2.2.2.2.1.lt;generalize Ctr.bk key nonce q t=c at cB hcB HBY;go_wp2_with (at_builtin;go_must (refine bW rfl _ _ rfl (g11+1) (.slice va m vc) (Ctr.str key nonce a m) rfl (O4.out.alloc _) _ [c] rfl (bL W _ [c] (AllB.one hcB) hszW (by simp)).bs (by simp[Ctr.str_length];omega) (Nat.le_trans hszW (by simp)) ?_;intro v2 w2 hown2 hgr2));have hS5:=(S4.out.only (World.grownBy_alloc W (.cells #[bv c] 5) none) (fun g e=>by cases e)).only hgr2 (fun g e=>(O4.out.lt g e).1);rw[HBY.out,←HST.out] at hown2;have J2:=aD (aQ hown2 hS5);clear hown2 hgr2 hS5 S4 O4 cB;go_wp2_with fail;go_roundw
    case rel=>exact⟨m+1,by omega,by have:=HI.out;congr 1;omega,J2.out.1,q,J2.out.2,by have:=HI.out;have:=NB.out;omega⟩
    case measure=>have:=HI.out;simp[intOf];omega
  ·obtain rfl:m=n:=by omega
   have hd:decide ((i:Int)<(a:Int)+(m:Int))=false:=by simp;omega
   have hge:(a:Int)+(m:Int)≤(i:Int):=by omega
   clear hov hsi hi hb hlt hd;go_wp2_with fail;go_ret;exact⟨_,rfl,OV.out.mono (by have:=SI.out.2.2.2.2.2;omega),SI.out.1⟩
def Ctr.cm (key nonce:Nat→Nat) (l:List Nat) (m:Nat):List Nat:=(List.range l.length).map fun i=>if i<m then l.getD i 0 ^^^ Ctr.byte key nonce (0+i) else Ctr.byte key nonce (0+i)
theorem Ctr.cm_length (key nonce:Nat→Nat) (l:List Nat) (m:Nat):(Ctr.cm key nonce l m).length=l.length:=by simp[Ctr.cm]
theorem Ctr.cm_get (key nonce:Nat→Nat) (l:List Nat) (m i:Nat) (h:i<l.length):(Ctr.cm key nonce l m).getD i 0=if i<m then l.getD i 0 ^^^ Ctr.byte key nonce (0+i) else Ctr.byte key nonce (0+i):=Ctr.getD_range _ _ i h
theorem Ctr.cm_zero (key nonce:Nat→Nat) (l:List Nat):Ctr.cm key nonce l 0=Ctr.str key nonce 0 l.length:=by simp[Ctr.cm,Ctr.str]
theorem Ctr.cm_all (key nonce:Nat→Nat) (l:List Nat):Ctr.cm key nonce l l.length=Ctr.crypt key nonce 0 l:=by
 unfold Ctr.cm Ctr.crypt;apply List.map_congr_left;intro i hi;rw[if_pos (by simpa using hi)]
theorem Ctr.cm_set (key nonce:Nat→Nat) (l:List Nat) (m:Nat) (_h:m<l.length):(Ctr.cm key nonce l m).set m (Ctr.byte key nonce (0+m) ^^^ l.getD m 0)=Ctr.cm key nonce l (m+1):=
 Ctr.list_eq (by simp[Ctr.cm]) fun i hi=>by
  have hi':i<l.length:=by simpa [Ctr.cm] using hi
  rw[Ctr.getD_set _ _ _ _ (by rw[Ctr.cm_length];exact hi'),Ctr.cm_get _ _ _ _ _ hi',Ctr.cm_get _ _ _ _ _ hi']
  by_cases e:m=i
  ·subst e;rw[if_pos rfl,if_pos (by omega),Nat.xor_comm]
  ·rw[if_neg e]
   by_cases h2:i<m
   ·rw[if_pos h2,if_pos (by omega)]
   ·rw[if_neg h2,if_neg (by omega)]
theorem rW (key nonce:Nat→Nat) (v:Value) (l:List Nat) (w:World) (hk:Aes.B8 key) (hn:Aes.B8 nonce) (hv:Rs w v l) (hl:l.length≤1048576):
 Calls Tryz.prog 126 #[.agg (aH .u8 16 key),.agg (aH .u8 8 nonce),v] w (cG (Ctr.crypt key nonce 0 l) w):=by
 have hsz:=aA .u8 16 key;have hsz2:=aA .u8 8 nonce;have HK:=aD hk;have HN:=aD hn;have HV:=aD hv;obtain⟨xa,xc,rfl⟩:=hv.form;clear hk hn hv;go_enter Tryz.func126,Tryz.ntmps126;go_upto_region 1 with fail;generalize hW:(World.alloc _ _:World)=V;have INV:isArr V w.heap.size 22 .u8 16 key∧isArr V (w.heap.size+1) 127 .u8 8 nonce∧Below w.heap.size w V:=by
  rw[←hW];have z1:w.heap.size+1=(w.alloc (Obj.cells (aH IntKind.u8 16 key) 22)).heap.size:=by simp
  refine⟨(aN w _ _ _ _).alloc _,?_,((Below.refl _ _).alloc (Nat.le_refl _) _).alloc (by simp) _⟩;rw[z1];exact aN _ _ _ _ _
 have k1:=INV.1;have k2:=INV.2.1;have B0:=aD INV.2.2;have hs:w.heap.size≤V.heap.size:=INV.2.2.size;clear hW INV hsz hsz2;go_wp2_with (first|refine wpList_load_row rfl _ _ rfl w.heap.size rfl _ _ (0,0) _ k1 rfl rfl (a8 _) ?_|refine wpList_load_row rfl _ _ rfl (w.heap.size+1) rfl _ _ (0,0) _ k2 rfl rfl (lU _) ?_|(go_at_call 192;refine(rG key nonce 0 l.length _ HK.out HN.out (by omega) hl).mono ?_;rintro e w1 ⟨v1,rfl,ho1,hb1⟩;have O1:=aD (ho1.mono hs);have B1:=aD (B0.out.trans (hb1.mono hs));obtain⟨va,vc,hva⟩:=ho1.form;rw[Ctr.str_length] at hva;subst hva;clear ho1 hb1));have O2:=O1.out;rw[←Ctr.cm_zero] at O2;have O3:=aD O2;clear O1 O2
 go_loopw [8] (fun i wr=>∃m:Nat,m≤l.length∧i= .int .i64 (m:Int)∧Own wr w.heap.size (.slice va l.length vc) (Ctr.cm key nonce l m)∧Below w.heap.size w wr) (fun i _=>l.length - (intOf i).toNat)
 case atStart=>exact⟨0,by omega,rfl,O3.out,B1.out⟩
 case round=>
  clear O3 B1;obtain⟨m,hm,rfl,ho,hb⟩:=hrel;have HO:=aD ho;have HB:=aD hb
  by_cases hlt:m<l.length
  ·have hd:(m:Int)<(l.length:Int):=by omega
   have nm:0≤(m:Int):=by omega
   obtain⟨b2,off2,rfl,hcx⟩:=(HV.out.below hb).at hlt;have cx:=hcx m hlt;have hx:=HV.out.1.get m;have hll:m<(Ctr.cm key nonce l m).length:=by rw[Ctr.cm_length];exact hlt
   have ho':=ho;rw[←Ctr.cm_length key nonce l m] at ho';rcases ho'.cases with ⟨_,h⟩|⟨g,cap,hvv,hbg,_,_,_,hcell,hfro⟩
   ·rw[h] at hll;simp at hll
   simp only[Value.slice.injEq,true_and] at hvv;obtain⟨rfl,rfl⟩:=hvv;have cs:=hcell m hll;have fs:=hfro m;rw[Ctr.cm_get _ _ _ _ _ hlt,if_neg (Nat.lt_irrefl _)] at cs;have hs8:=Ctr.byte_lt HK.out HN.out (0+m);have NX:=aD (Ctr.cm_set key nonce l m hlt);have hxr:=u8_xor_nat _ _ hs8 hx;generalize l.getD m 0=x at cx hx NX hxr;generalize Ctr.byte key nonce (0+m)=y at cs hs8 NX hxr;clear ho ho' hb hcx hcell hfro;go_wp2_with fail;go_still_tail 12,(by kernel_rfl);change wpList _ _ _ _ _ (wr.drewN 1);have c2:(wr.drewN 1).cell? ⟨g,m,none⟩=some (.int .u8 (y:Int)):=cs;have f2:(wr.drewN 1).frozen? ⟨g,m,none⟩=false:=fs;have HD:=aD (HO.out.drewN 1);have HBD:=aD (aU HB.out 1);clear cx cs fs;generalize wr.drewN 1=wd at c2 f2 HD HBD ⊢;go_wp2_with fail;have hst:=HD.out;rw[←Ctr.cm_length key nonce l m] at hst;obtain⟨s1,s2⟩:=hst.set m (y ^^^ x) (Fld.xor_lt _ _ hs8 hx);rw[NX.out,Ctr.cm_length] at s1;have s3:=aP HBD.out (Nat.le_refl _) s2 (fun q hq=>by cases hq;exact hbg);go_roundw
   case rel=>exact⟨m+1,by omega,by go_num,s1,s3⟩
   case measure=>simp[intOf];omega
  ·obtain rfl:m=l.length:=by omega
   have hd:decide ((l.length:Int)<(l.length:Int))=false:=by simp
   clear ho hb;go_wp2_with fail;go_ret;have ho5:=HO.out;rw[Ctr.cm_all] at ho5;exact⟨_,rfl,ho5,HB.out⟩
end Go.Proofs.YtcoolgnlhheaiaaGreatDoor
