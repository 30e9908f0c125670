import Derived.Deep.RegionLaw
import Derived.Deep.RegionWith
import Derived.Laws.Externs
import Derived.Lib.Builder
import Derived.Lib.UnsafeStr
import Derived.Test.YtcoolgnlhheaiaaGreatDoorG01
namespace Go.Proofs.YtcoolgnlhheaiaaGreatDoor
open Go.RowKit Go.Deep
set_option linter.all false
set_option maxRecDepth 100000
set_option maxHeartbeats 4000000
theorem Own.apart {w:World} {base:Nat} {v:Value} {l:List Nat} (h:Own w base v l) {b:Nat} (hb:b<base):some b≠v.ownBlock:=fun e=>by have:=(h.lt b e.symm).1;omega
end Go.Proofs.YtcoolgnlhheaiaaGreatDoor
namespace Go.Proofs.YtcoolgnlhheaiaaGreatDoor
open Go.RowKit Go.Deep
set_option linter.all false
set_option maxRecDepth 100000
set_option maxHeartbeats 4000000
theorem kI (ss:List ByteArray) (j:Nat) (h:j<ss.length):ss.take (j+1)=ss.take j++[ss.getD j ByteArray.empty]:=by
 rw[List.take_add_one];simp[List.getD,h]
theorem mC {r:ByteArray} {ss:List ByteArray} (h:Nam.valid (nm r ss)=true):Nam.word (bl r)=true∧1≤ss.length∧ss.length≤8∧(ss.map bl).all Nam.word=true:=by
 obtain⟨a,b,c,d⟩:=(Nam.valid_iff _).1 h;unfold nm at a b c d;simp only[List.length_map] at c;refine⟨a,?_,c,d⟩
 cases ss with
 |nil=>exact absurd rfl b
 |cons _ _=>simp
theorem qY {ss:List ByteArray} (h:(ss.map bl).all Nam.word=true) {i:Nat} (hi:i<ss.length):Nam.word (bl (ss.getD i ByteArray.empty))=true:=by
 have e:ss.getD i ByteArray.empty=ss[i]:=by simp[List.getD,hi]
 rw[e];exact List.all_eq_true.1 h _ (List.mem_map.2 ⟨_,List.getElem_mem hi,rfl⟩)
theorem Hb.below {w w':World} {b B:Nat} {cs:Array Value} {t:TypeId} (h:Hb w b cs t) (k:Below B w w') (hb:b<B):Hb w' b cs t:=(k.block b hb).trans h
end Go.Proofs.YtcoolgnlhheaiaaGreatDoor
namespace Go.Proofs.YtcoolgnlhheaiaaGreatDoor
open Go.RowKit Go.Deep
set_option linter.all false
set_option maxRecDepth 100000
set_option maxHeartbeats 4000000
theorem aIQ (o:ByteArray):(⟨(bl o).toArray⟩:ByteArray)=o:=by cases o;simp[bl]
end Go.Proofs.YtcoolgnlhheaiaaGreatDoor
namespace Go.Proofs.YtcoolgnlhheaiaaGreatDoor
open Go.RowKit Go.Deep
set_option linter.all false
set_option maxRecDepth 100000
set_option maxHeartbeats 4000000
end Go.Proofs.YtcoolgnlhheaiaaGreatDoor
namespace Go.Proofs.YtcoolgnlhheaiaaGreatDoor
open Go.RowKit Go.Deep
set_option linter.all false
set_option maxRecDepth 100000
set_option maxHeartbeats 4000000
section
variable {P:Program} {ops:Array Oper} {o:Oper} {a:Act} {w:World} {K:Act→World→Prop} {Q:Exit→Act→World→Prop} {E:Prop}
theorem bH (h:K a w):wpList P ops (pC K Q) [] a w:=h
theorem aF9 (hg:o.guard=none) (h:wpList P #[] (pC K Q) [{ o with guard:=none}] a w):if Region.wanted o (yielded ops a.tmps)=true then Oper.wp P o a w K Q else E:=by
 have hw:Region.wanted o (yielded ops a.tmps)=true:=by simp[Region.wanted,hg]
 rw[if_pos hw];exact jG h
end
theorem aO {w w3 wr:World} {g:Nat} (h:w.grownBy w3 none) (k:w3.grownBy wr (some g)) (hg:w.heap.size≤g):w.grownBy wr none:=
 ⟨k.os.trans h.os,k.tape.trans h.tape,k.output.trans h.output,Nat.le_trans h.size k.size,fun i hi _=>(k.block i (Nat.lt_of_lt_of_le hi h.size) (fun e=>by cases e;omega)).trans (h.block i hi (by simp))⟩
end Go.Proofs.YtcoolgnlhheaiaaGreatDoor
namespace Go.Proofs.YtcoolgnlhheaiaaGreatDoor
open Go.RowKit Go.Deep
set_option linter.all false
set_option maxRecDepth 100000
set_option maxHeartbeats 4000000
theorem xT {a b:ByteArray} (h:bl a=bl b):a=b:=by rw[←aIQ a,h,aIQ]
theorem k8 (a b:ByteArray):(a.toList==b.toList)=decide (a=b):=by
 rw[ByteArray.toList_eq,ByteArray.toList_eq]
 by_cases h:a=b
 ·subst h;simp
 ·have:¬a.data.toList=b.data.toList:=fun e=>h (xT e)
  rw[decide_eq_false h,beq_eq_false_iff_ne];exact this
theorem aEJ {ss tt:List ByteArray} (hl:ss.length=tt.length) (h:∀i,i<ss.length→ss.getD i ByteArray.empty=tt.getD i ByteArray.empty):ss=tt:=by
 apply List.ext_getElem hl;intro i h1 h2;have:=h i h1
 simpa [List.getD,h1,h2] using this
theorem aKB {ss tt:List ByteArray} {i:Nat} (h:ss.getD i ByteArray.empty≠tt.getD i ByteArray.empty):ss≠tt:=fun e=>h (by rw[e])
theorem xX (u v:Value) (ss tt:List ByteArray) (w:World) (hu:Ss w u ss) (hv:Ss w v tt):
 Calls Tryz.prog 233 #[u,v] w fun e w'=>e= .returned (.bool (decide (ss=tt)))∧w.grownBy w' none:=by
 obtain⟨ua,uc,rfl⟩:=hu.form;obtain⟨va,vc,rfl⟩:=hv.form;have hn:=hu.len;have hm:=hv.len;have HU:=aD hu;clear hu;have HV:=aD hv;clear hv
 by_cases hl:ss.length=tt.length
 ·go_enter Tryz.func233,Tryz.ntmps233
  go_wp2_with fail
  all_goals first|omega|skip
  go_loopw [13] (fun x wr=>∃j:Nat,j≤ss.length∧x= .int .i64 j∧w.grownBy wr none∧∀i,i<j→ss.getD i ByteArray.empty=tt.getD i ByteArray.empty) (fun x _=>ss.length - (intOf x).toNat)
  case atStart=>exact⟨0,Nat.zero_le _,rfl,aE _ _,fun i hi=>by omega⟩
  case round=>
   obtain⟨j,hj,rfl,hg,hall⟩:=hrel
   by_cases hjl:j<ss.length
   ·obtain⟨b1,o1,rfl,c1⟩:=(HU.out.only hg).at hjl
    obtain⟨b2,o2,rfl,c2⟩:=(HV.out.only hg).at (hl▸hjl);have HA:=aD hall;clear hall;generalize hs1:ss.getD j ByteArray.empty=s1 at c1;generalize ht1:tt.getD j ByteArray.empty=t1 at c2;have HS:=aD hs1;clear hs1;have HT:=aD ht1;clear ht1;have hjt:j<tt.length:=hl▸hjl
    by_cases he:s1=t1
    ·have hcmp:(s1.toList==t1.toList)=true:=by rw[k8];exact decide_eq_true he
     have HE:=aD he;clear he;go_wp2_with fail;go_quiet (skip)
     all_goals first|omega|skip
     go_wp2_with fail;go_roundw
     case rel=>
      refine⟨j+1,by omega,by go_num,aM hg _,fun i hi=>?_⟩
      by_cases e:i=j
      ·subst e;rw[HS.out,HT.out];exact HE.out
      ·exact HA.out i (by omega)
     case measure=>simp[intOf];omega
    ·have hcmp:(s1.toList==t1.toList)=false:=by rw[k8];exact decide_eq_false he
     have HF:=aD (show decide (ss=tt)=false from decide_eq_false (aKB (i:=j) (by rw[HS.out,HT.out];exact he)));clear he;go_wp2_with fail;go_quiet (skip)
     all_goals first|omega|skip
     go_wp2_with fail;go_ret;exact⟨by rw[HF.out];rfl,aM hg _⟩
   ·have HF:=aD (show decide (ss=tt)=true from decide_eq_true (aEJ hl (fun i hi=>hall i (by omega))))
    clear hall;go_wp2_with fail
    all_goals first|omega|skip
    go_ret;exact⟨by rw[HF.out];rfl,hg⟩
 ·have HF:=aD (show decide (ss=tt)=false from decide_eq_false (fun e=>hl (by rw[e])))
  go_enter Tryz.func233,Tryz.ntmps233;have hne:((ss.length:Int)!=(tt.length:Int))=true:=by rw[bne_iff_ne];omega
  go_wp2_with fail
  all_goals first|omega|skip
  go_ret;exact⟨by rw[HF.out];rfl,aE _ _⟩
theorem aA1 (r q:ByteArray) (u v:Value) (ss tt:List ByteArray) (w:World) (hu:Ss w u ss) (hv:Ss w v tt):
 Calls Tryz.prog 174 #[.agg #[.string r,u],.agg #[.string q,v]] w fun e w'=>e= .returned (.bool (decide (r=q∧ss=tt)))∧w.grownBy w' none:=by
 obtain⟨ua,uc,rfl⟩:=hu.form;obtain⟨va,vc,rfl⟩:=hv.form;have hn:=hu.len;have hm:=hv.len;have n1:=(Hb.new w #[.string r,.slice ua ss.length uc] 63).alloc (.cells #[.string q,.slice va tt.length vc] 63);have n2:=Hb.new (w.alloc (.cells #[.string r,.slice ua ss.length uc] 63)) #[.string q,.slice va tt.length vc] 63;rw[show(w.alloc (.cells #[.string r,.slice ua ss.length uc] 63)).heap.size=w.heap.size+1 by simp] at n2;have g2:w.grownBy ((w.alloc (.cells #[.string r,.slice ua ss.length uc] 63)).alloc (.cells #[.string q,.slice va tt.length vc] 63)) none:=aG (aG (aE w none) _) _;have a0:=n1.cell (i:=0) rfl;have a1:=n1.cell (i:=1) rfl;have b0:=n2.cell (i:=0) rfl;have b1:=n2.cell (i:=1) rfl;have HU:=aD hu;clear hu;have HV:=aD hv;clear hv;go_enter Tryz.func174,Tryz.ntmps174
 by_cases he:r=q
 ·have hcmp:(r.toList==q.toList)=true:=by rw[k8];exact decide_eq_true he
  have HRQ:=aD he;clear he;go_wp2_with (go_at_call 233;refine(xX _ _ ss tt _ (HU.out.only g2) (HV.out.only g2)).mono ?_);rintro e w3 ⟨rfl,h3⟩;go_wp2_with fail;go_ret;refine⟨congrArg (fun b:Bool=>Ending.returned (.bool b)) ?_,aF g2 h3⟩;simp[HRQ.out]
 ·have hcmp:(r.toList==q.toList)=false:=by rw[k8];exact decide_eq_false he
  go_wp2_with fail;go_ret;exact⟨congrArg (fun b:Bool=>Ending.returned (.bool b)) (decide_eq_false (fun h=>he h.1)).symm,g2⟩
end Go.Proofs.YtcoolgnlhheaiaaGreatDoor
namespace Go.Proofs.YtcoolgnlhheaiaaGreatDoor
open Go.RowKit Go.Deep
set_option linter.all false
set_option maxRecDepth 100000
set_option maxHeartbeats 4000000
theorem Rd.only {w w':World} {p:Nat} {r:Wir.R} (h:Rd w p r) (k:w.grownBy w' none):Rd w' p r:=by
 have hlt:=h.lt;obtain⟨v,h1,h2,h3⟩:=h;exact⟨v,(k.block p hlt (by simp)).trans h1,h2.only k (by cases v.ownBlock<;>simp),fun b e=>⟨(h3 b e).1,(h3 b e).2.of_block (k.block b (Nat.lt_trans (h3 b e).1 hlt) (by simp))⟩⟩
theorem m8 {w w':World} {p:Nat} (h:w.grownBy w' none):w.grownBy w' (some p):=⟨h.os,h.tape,h.output,h.size,fun k hk _=>h.block k hk (by simp)⟩
theorem tS {r:Wir.R} {k:Int} (h:Nam.word (Nam.fromN (Wir.string r k).2)=true):(Wir.string r k).1.bad=false:=by
 cases hn:(Wir.number r k).2 with
 |none=>
  rw[fP hn] at h;exact absurd h (by simp[Nam.fromN,Nam.word])
 |some n=>
  rw[dV hn] at h ⊢;generalize (Wir.number r k).1=r2 at h ⊢;unfold Wir.next at h ⊢;split
  ·rename_i hc;rw[if_pos hc] at h;exact absurd h (by simp[Nam.fromN,Nam.word])
  ·rename_i hc
   cases hb:r2.bad with
   |true=>exact absurd (.inl hb) hc
   |false=>first|rfl|simpa using hb
theorem Rd.under {w w':World} {p B:Nat} {r:Wir.R} (h:Rd w p r) (k:Below B w w') (hp:p<B):Rd w' p r:=by
 have hlt:=h.lt;obtain⟨v,h1,h2,h3⟩:=h;exact⟨v,(k.block p hp).trans h1,h2.of_blocks k.size (fun b hb=>k.block b (Nat.lt_trans (h3 b hb).1 hp)),fun b e=>⟨(h3 b e).1,(h3 b e).2.of_block (k.block b (Nat.lt_trans (h3 b e).1 hp))⟩⟩
theorem lT {w0 w w':World} {B p:Nat} (h:w0.grownBy w (some p)) (hB:w0.heap.size≤B) (k:Below B w w'):w0.grownBy w' (some p):=
 ⟨k.os.trans h.os,k.tape.trans h.tape,k.output.trans h.output,Nat.le_trans h.size k.size,fun i hi hne=>(k.block i (Nat.lt_of_lt_of_le hi hB)).trans (h.block i hi hne)⟩
theorem jM {r:Wir.R} {k:Int}:(Wir.string r k).1.l.length≤r.l.length:=by
 cases hn:(Wir.number r k).2 with
 |none=>rw[fP hn];exact jB
 |some n=>
  rw[dV hn];refine Nat.le_trans ?_ (jB (r:=r) (k:=k));generalize (Wir.number r k).1=r2;unfold Wir.next;split
  ·simp[Wir.failed]
  ·simp
def aFL (p:Nat) (r:Wir.R) (w:World) (e:Ending) (w':World):Prop:=
 w.grownBy w' (some p)∧(∃v ss q,e= .returned (.tuple #[.agg #[.string q,v],.bool (Nam.refRead r).2.isSome])∧OwnS w' w.heap.size v ss∧q.size≤maxLen∧nm q ss=(Nam.refRead r).2.getD Nam.none0)∧((Nam.refRead r).2.isSome=true→Rd w' p (Nam.refRead r).1)
theorem kB {p:Nat} {r:Wir.R} {w w':World} {e:Ending} (h:(Nam.refRead r).2=none) (hg:w.grownBy w' (some p)) (he:e= .returned (.tuple #[.agg #[.string ⟨#[]⟩,.slice none 0 0],.bool false])):aFL p r w e w':=by
 refine⟨hg,⟨.slice none 0 0,[],⟨#[]⟩,?_,OwnS.nil _ _,Nat.zero_le _,?_⟩,?_⟩
 ·rw[h];exact he
 ·rw[h];rfl
 ·rw[h];intro hh;cases hh
theorem pX (p:Nat) (r:Wir.R) (w:World) (h:Rd w p r) (hb:r.l.length≤140737488355328):
 Calls Tryz.prog 230 #[.pointer (some ⟨p,0,none⟩)] w (aFL p r w):=by
 have hplt:=h.lt;have n0:=Hb.new w #[.string ⟨#[]⟩,.slice none 0 0] 63;go_enter Tryz.func230,Tryz.ntmps230;go_wp2_with (go_at_call 165;refine(fM p r 1 _ (h.only (aG (aE _ _) _)) hb).mono ?_);rintro e w1 ⟨v1,rfl,o1,rd1,h1⟩;have k0:=n0.keep h1 (fun e=>by cases e;omega);have g1:=aF (aG (aE w (some p)) _) h1;have hcv:=aAT o1.bs;have hqz:(⟨(Nam.fromN (Wir.string r 1).2).toArray⟩:ByteArray).size≤maxLen:=by
  have:=o1.bs.len;show(Nam.fromN (Wir.string r 1).2).toArray.size≤_;unfold maxLen;simp[Nam.fromN_length];omega
 have n1:=Hb.new w1 #[.string ⟨#[]⟩,.slice none 0 0] 63;obtain⟨x0,x1,y0,y1,z0,z1⟩:=n1.two (.string ⟨(Nam.fromN (Wir.string r 1).2).toArray⟩);have n2:=Hb.new w1 #[.string ⟨(Nam.fromN (Wir.string r 1).2).toArray⟩,.slice none 0 0] 63;have u0:=n2.cell (i:=0) rfl;go_wp2_with (go_at_call 268;refine(kM ⟨(Nam.fromN (Wir.string r 1).2).toArray⟩ _ hqz).mono ?_);rintro e w2 ⟨rfl,h2⟩;have k2:=(k0.alloc (.cells #[.string ⟨(Nam.fromN (Wir.string r 1).2).toArray⟩,.slice none 0 0] 63)).only h2;have n3:=n2.only h2;have rd2:=rd1.only (aF (aG (aE w1 none) _) h2);have g2:=aF g1 (aF (aG (aE w1 (some p)) _) (m8 h2));have hB:w.heap.size<w1.heap.size:=k0.lt;generalize hbn:w1.heap.size=bn at*;clear hbn k0 o1 hcv n1 x0 x1 y0 y1 z0 z1 n2 u0 h1 h2 rd1 g1 n0;rw[show bl ⟨(Nam.fromN (Wir.string r 1).2).toArray⟩=Nam.fromN (Wir.string r 1).2 from rfl];have hsl:(Wir.string r 1).1.l.length≤140737488355328:=Nat.le_trans jM hb
 cases hw:Nam.word (Nam.fromN (Wir.string r 1).2)
 ·have HF:=aD (Nam.refRead_realm hw)
  obtain⟨c0,c1,f0,f1,d1,e1⟩:=k2.two (.string ⟨#[]⟩);go_wp2_with fail
  try simp only[Exit.inBlock,Exit.then,Exit.noGoto_ret]
  refine bodyPost_ret (bF rfl _ _ w.heap.size _ _ (0,0) _ rfl ((k2.set 0 _).set 1 _) rfl rfl jP) rfl ?_;exact kB HF.out (dU (dU g2 (Nat.le_refl _) _) (Nat.le_refl _) _) rfl
 go_wp2_with (go_at_call 164;refine(mE p (Wir.string r 1).1 1 _ rd2).mono ?_);rintro e w3 ⟨rfl,rd3,h3⟩;have hpB:p<w.heap.size:=hplt;have k3:=k2.keep h3 (fun e=>by cases e;omega);have n4:=n3.keep h3 (fun e=>by cases e;omega);have g3:=aF g2 h3;have hbn3:=n4.lt;clear k2 n3 rd2 g2 h3;have HNUM:=aD (show(Wir.num (Wir.string r 1).1 1)=((Wir.number (Wir.string r 1).1 1).1,(Wir.number (Wir.string r 1).1 1).2.getD 0) from rfl);have hnl:(Wir.number (Wir.string r 1).1 1).1.l.length≤140737488355328:=Nat.le_trans jB hsl;generalize hc:(Wir.number (Wir.string r 1).1 1).2.getD 0=c at HNUM ⊢;generalize hrn:(Wir.number (Wir.string r 1).1 1).1=rn at HNUM rd3 hnl;clear hc hrn;obtain⟨c0,c1,f0,f1,d1,e1⟩:=k3.two (.string ⟨#[]⟩)
 by_cases hcnt:c<1∨8<c
 ·have HF:=aD (Nam.refRead_number (r:=r) (by rw[HNUM.out];exact hcnt))
  go_wp2_with fail
  all_goals first|omega|skip
  all_goals (
   try simp only[Exit.inBlock,Exit.then,Exit.noGoto_ret]
   refine bodyPost_ret (bF rfl _ _ w.heap.size _ _ (0,0) _ rfl ((k3.set 0 _).set 1 _) rfl rfl jP) rfl ?_
   exact kB HF.out (dU (dU g3 (Nat.le_refl _) _) (Nat.le_refl _) _) rfl)
 go_wp2_with fail
 all_goals first|omega|skip
 clear c0 c1 f0 f1 d1 e1;have hsz3:=g3.size;have K3:=aD k3;clear k3;have N4:=aD n4;clear n4;generalize hq:(⟨(Nam.fromN (Wir.string r 1).2).toArray⟩:ByteArray)=q at*;have hqb:bl q=Nam.fromN (Wir.string r 1).2:=by rw[←hq]
 clear hq;have RD3:=aD rd3;clear rd3
 go_loopw [26] (fun x wr=>∃(j:Nat) (v:Value) (ss:List ByteArray),x= .int .u64 j∧j≤c∧ss.length=j∧Rd wr p (Nam.loopR j rn []).1∧(Nam.loopR j rn []).1.l.length≤140737488355328∧Hb wr w.heap.size #[.string ⟨#[]⟩,.slice none 0 0] 63∧Hb wr bn #[.string q,v] 63∧OwnS wr w3.heap.size v ss∧w.grownBy wr (some p)∧w3.heap.size≤wr.heap.size∧ss.map bl=(Nam.loopR j rn []).2∧(Nam.loopR j rn []).2.all Nam.word=true∧(1≤j→(Nam.loopR j rn []).1.bad=false)) (fun x _=>c - (intOf x).toNat)
 case atStart=>exact⟨0,_,[],rfl,Nat.zero_le _,rfl,RD3.out,hnl,K3.out,N4.out,OwnS.nil _ _,g3,Nat.le_refl _,rfl,rfl,fun h=>absurd h (by omega)⟩
 case round=>
  obtain⟨j,v,ss,rfl,hj,hss,rdr,hrl,k5,n5,os,g5,hs35,hm,hall,hbad⟩:=hrel;subst hss;obtain⟨va,vc,rfl⟩:=os.ss.form
  by_cases hjc:ss.length<c
  ·have HSN:=aD (Nam.loopR_snoc ss.length rn [])
   have hsl2:(Wir.string (Nam.loopR ss.length rn []).1 1).1.l.length≤140737488355328:=Nat.le_trans jM hrl;have hc8:c≤8:=by omega
   have HNW:=aD (show Nam.word (Nam.fromN (Wir.string (Nam.loopR ss.length rn []).1 1).2)=false→(Nam.refRead r).2=none from fun h=>Nam.refRead_part (r:=r) (k:=c) (j:=ss.length) (by rw[HNUM.out]) hc8 hjc (by rw[HNUM.out];exact h));have HSW:=aD (tS (r:=(Nam.loopR ss.length rn []).1) (k:=1));have HM:=aD hm;clear hm;have HALL:=aD hall;clear hall;generalize hL:Nam.loopR ss.length rn []=L at*;clear hL hbad;go_wp2_with (go_at_call 165;refine(fM p L.1 1 _ rdr hrl).mono ?_);rintro e w4 ⟨v4,rfl,o4,rd4,h4⟩;have k6:=k5.keep h4 (fun e=>by cases e;omega);have n6:=n5.keep h4 (fun e=>by cases e;omega);have os6:=os.only h4 (.inr (fun e=>by have:=(os.lt p e).1;omega));have g6:=aF g5 h4;have hs46:=h4.size;have hcv:=aAT o4.bs;have htz:(⟨(Nam.fromN (Wir.string L.1 1).2).toArray⟩:ByteArray).size≤maxLen:=by
    have:=o4.bs.len;show(Nam.fromN (Wir.string L.1 1).2).toArray.size≤_;unfold maxLen;simp[Nam.fromN_length];omega
   go_wp2_with (go_at_call 268;refine(kM ⟨(Nam.fromN (Wir.string L.1 1).2).toArray⟩ _ htz).mono ?_);rintro e w5 ⟨rfl,h5⟩;rw[show bl ⟨(Nam.fromN (Wir.string L.1 1).2).toArray⟩=Nam.fromN (Wir.string L.1 1).2 from rfl];have k7:=k6.only h5;have n7:=n6.only h5;have os7:=os6.below (aB h5);have g7:=aF g6 (m8 h5);have rd7:=rd4.only h5;have hs57:=h5.size;clear k5 n5 os g5 rdr h4 k6 n6 os6 g6 hcv o4 rd4 h5
   cases hwt:Nam.word (Nam.fromN (Wir.string L.1 1).2)
   ·obtain⟨c0,c1,f0,f1,d1,e1⟩:=k7.two (.string ⟨#[]⟩)
    go_wp2_with fail
    all_goals first|omega|skip
    try simp only[Exit.inBlock,Exit.then,Exit.noGoto_ret]
    refine bodyPost_ret (bF rfl _ _ w.heap.size _ _ (0,0) _ rfl ((k7.set 0 _).set 1 _) rfl rfl jP) rfl ?_;exact kB (HNW.out hwt) (dU (dU g7 (Nat.le_refl _) _) (Nat.le_refl _) _) rfl
   have m1:=n7.cell (i:=1) rfl;have hBB:w3.heap.size≤w5.heap.size:=by omega
   go_wp2_with (at_builtin;go_must (refine kP rfl _ _ rfl w3.heap.size (.slice va ss.length vc) ss rfl (os7.alloc _) w5.heap.size ⟨(Nam.fromN (Wir.string L.1 1).2).toArray⟩ htz rfl (d7 w5 #[.string ⟨(Nam.fromN (Wir.string L.1 1).2).toArray⟩] 9 0 _ rfl) (by omega) (Nat.le_trans hBB (by simp)) ?_;intro a6 c6 w6 hown6 hgr6;have q0:=(k7.alloc (.cells #[.string ⟨(Nam.fromN (Wir.string L.1 1).2).toArray⟩] 9)).keep hgr6 (os7.apart (by omega));have q1:=(n7.alloc (.cells #[.string ⟨(Nam.fromN (Wir.string L.1 1).2).toArray⟩] 9)).keep hgr6 (os7.apart (by omega));have x1:=q1.cell (i:=1) rfl;have y1:=q1.frozen 1))
   all_goals first|omega|skip
   have B6:Below w.heap.size w5 w6:=aP (a:=w5) ((Below.refl _ w5).alloc (by omega) _) (by omega) hgr6 (fun g hg=>by have:=(os7.lt g hg).1;omega);have B7:=B6.setCell (p:=⟨bn,1,none⟩) (Nat.le_of_lt hB) (.slice a6 (ss.length+1) c6);go_roundw
   case rel=>
    have e1:Nam.loopR (ss.length+1) rn []=((Wir.string L.1 1).1,L.2++[Nam.fromN (Wir.string L.1 1).2]):=HSN.out;refine⟨ss.length+1,_,ss++[⟨(Nam.fromN (Wir.string L.1 1).2).toArray⟩],by go_num,by omega,by simp,?_,by rw[e1];exact hsl2,q0.far (p:=⟨bn,1,none⟩) (Nat.ne_of_lt hB) _,q1.set 1 _,hown6.setCell (p:=⟨bn,1,none⟩) hbn3 _,?_,?_,?_,?_,?_⟩
    ·rw[e1];exact rd7.under B7 hpB
    ·exact lT g7 (Nat.le_refl _) B7
    ·exact Nat.le_trans hBB B7.size
    ·rw[e1,List.map_append,HM.out];rfl
    ·rw[e1,List.all_append,HALL.out];simpa using hwt
    ·rw[e1];intro _;exact HSW.out hwt
   case measure=>simp[intOf];omega
  ·have hje:ss.length=c:=by omega
   have hbf:=hbad (by omega);have HF:=aD (Nam.refRead_end (r:=r) (k:=c) hw (by rw[HNUM.out]) (by omega) (by omega) (by rw[HNUM.out];rw[←hje];exact hall));have m0:=n5.cell (i:=0) rfl;have m1:=n5.cell (i:=1) rfl;obtain⟨c0,c1,f0,f1,d1,e1⟩:=k5.two (.string q);go_wp2_with fail
   all_goals first|omega|skip
   have HR2:=aD (show Nam.refRead r=((Nam.loopR ss.length rn []).1,some (nm q ss)) by
    rw[HF.out,HNUM.out,←hje,hbf];unfold nm
    rw[hqb,hm];rfl)
   clear HF HNUM hm hall hbad hje;generalize hL:Nam.loopR ss.length rn []=L at*;clear hL;have rdd:Rd wr.drew p L.1:=rdr;have k5d:Hb wr.drew w.heap.size #[.string ⟨#[]⟩,.slice none 0 0] 63:=k5;have g5d:w.grownBy wr.drew (some p):=⟨g5.os,g5.tape,g5.output,g5.size,g5.block⟩;have osd:OwnS wr.drew w3.heap.size (.slice va ss.length vc) ss:=os;have fin:∀W:World,W=((wr.drew.setCell ⟨w.heap.size,0,none⟩ (.string q)).setCell ⟨w.heap.size,1,none⟩ (.slice va ss.length vc))→aFL p r w (.returned (.tuple #[.agg #[.string q,.slice va ss.length vc],.bool true])) W:=by
    rintro W rfl;have h03:w.heap.size<w3.heap.size:=by omega
    have B9:=((Below.refl w.heap.size wr.drew).setCell (p:=⟨w.heap.size,0,none⟩) (Nat.le_refl _) (.string q)).setCell (p:=⟨w.heap.size,1,none⟩) (Nat.le_refl _) (.slice va ss.length vc);refine⟨lT g5d (Nat.le_refl _) B9,⟨_,ss,q,by rw[HR2.out];rfl,((osd.setCell (p:=⟨w.heap.size,0,none⟩) h03 _).setCell (p:=⟨w.heap.size,1,none⟩) h03 _).mono (Nat.le_of_lt h03),hqz,by rw[HR2.out];rfl⟩,fun _=>?_⟩;rw[HR2.out];exact rdd.under B9 hpB
   go_region_with (go_at_call 269;refine(aHP p L.1 _ rdd).mono ?_;rintro e w9 ⟨rfl,rfl⟩)
   all_goals (
    go_wp2_with fail
    try simp only[Exit.inBlock,Exit.then,Exit.noGoto_ret]
    refine bodyPost_ret (bF rfl _ _ w.heap.size _ _ (0,0) _ rfl ((k5d.set 0 _).set 1 _) rfl rfl jP) rfl ?_
    exact fin _ rfl)
end Go.Proofs.YtcoolgnlhheaiaaGreatDoor
