import Derived.Test.YtcoolgnlhheaiaaGreatDoorG16
import Derived.Test.YtcoolgnlhheaiaaGreatDoorG21
namespace Go.Proofs.YtcoolgnlhheaiaaGreatDoor
open Go.RowKit Go.Deep
set_option linter.all false
set_option maxRecDepth 100000
theorem yW (u v:Value) (l m:List Nat) (w:World) (hu:Rs w u l) (hv:Rs w v m):
 Calls Tryz.prog 275 #[u,v] w fun e w'=>e= .returned (.bool (fS l m))∧w=w':=by
 have c1:=iA hu;have c2:=iA hv;have he:=pM hu.1 hv.1;go_enter Tryz.func275,Tryz.ntmps275;go_wp2;go_ret;exact⟨by rw[←he];rfl,rfl⟩
theorem nH {l:List Nat} (h:(l.all fun x=>decide (x<256))=true):AllB l:=fun x hx=>by simpa using (List.all_eq_true.1 h) x hx
theorem aFQ (w:World) (l:List Nat) (fr:Nat×Nat) (hl:AllB l) (h63:l.length≤9223372036854775807):
 Rs (w.alloc (.cells (l.map bv).toArray 5 fr)) (.slice (some ⟨w.heap.size,0,none⟩) l.length l.length) l:=by
 refine⟨hl,h63,.inr ⟨_,l.length,rfl,⟨Nat.le_refl _,h63⟩,fun i hi=>?_⟩⟩;rw[Addr.add_lit,Nat.zero_add,World.cell?_alloc_mark];simp[List.getD,hi]
theorem uQ (s:List Nat) (w:World) (ho:Frm.okS s):
 Calls Tryz.prog 242 #[sv s] w fun e w'=>e= .returned (.tuple #[.int .u32 ((Frm.parseH s).getD 0:Nat),.bool (Frm.parseH s).isSome])∧Below w.heap.size w w':=by
 have b0:=aN w 191 .u8 64 (aT s);have g0:=aG (aE w none) (.cells (aH .u8 64 (aT s)) 191);have hz:=aA .u8 64 (aT s);generalize hR:Frm.parseH s=R;have HR:=aD hR;clear hR;unfold sv;go_enter Tryz.func242,Tryz.ntmps242;go_upto_region 1 with fail;generalize w.alloc (.cells (aH .u8 64 (aT s)) 191)=V at*;go_wp2_with (refine wpList_load_row rfl _ _ rfl w.heap.size rfl _ _ (0,0) _ b0 rfl rfl (by rw[aA];rfl) ?_);refine(nL s V ho).mono ?_;rintro e w1 ⟨hb,v,g,p,rfl,o1,hp⟩;have g1:=aF g0 (aC hb none);obtain⟨va,vc,rfl⟩:=o1.form;have O1:=aD o1.bs.rs;clear o1 hb b0 g0
 cases hps:Frm.parse s with
 |none=>
  have E:=aD (show R=none by rw[←HR.out];unfold Frm.parseH;rw[hps]);rw[hps] at hp;clear HR hps;go_wp2_with fail;go_ret2;exact⟨by rw[E.out];rfl,aB g1⟩
 |some x=>
  rw[hps] at hp;obtain rfl:(g,p)=x:=hp;have E:=aD (show R=if p=Frm.title then some g else none by rw[←HR.out];unfold Frm.parseH;rw[hps]);clear HR hps;have kc:=Go.Joins.run_convert_bytes_const_at (P:=Tryz.prog) w1 39 5 #[.int .u8 84,.int .u8 79,.int .u8 76,.int .u8 76] 4 4 w1.heap.size rfl Tryz.underlying39 Tryz.underlying5;have kb:Below w1.heap.size w1 (w1.alloc (.cells #[.int .u8 84,.int .u8 79,.int .u8 76,.int .u8 76] 5 (4,5))):=(Below.refl _ _).alloc (Nat.le_refl _) _;have kl:Rs (w1.alloc (.cells #[.int .u8 84,.int .u8 79,.int .u8 76,.int .u8 76] 5 (4,5))) (.slice (some ⟨w1.heap.size,0,none⟩) 4 4) Frm.title:=aFQ w1 Frm.title (4,5) (nH (by decide)) (by decide);have KL:=aD (yW _ _ _ _ _ (O1.out.below kb) kl);clear kl
  by_cases hpt:p=Frm.title
  ·have HP:=aD hpt;clear hpt
   go_wp2_with (go_at_call 275;refine KL.out.mono ?_;rintro e w2 ⟨rfl,rfl⟩;rw[aBQ HP.out]);go_ret2;exact⟨by rw[E.out,if_pos HP.out];rfl,aB (aF g1 (aC kb none))⟩
  ·go_wp2_with (go_at_call 275;refine KL.out.mono ?_;rintro e w2 ⟨rfl,rfl⟩;rw[aFE hpt])
   go_ret2;exact⟨by rw[E.out,if_neg hpt];rfl,aB (aF g1 (aC kb none))⟩
set_option linter.all false
def ev (e:bC):Array Value:=aH .u8 32 (aT e.dig)++#[.int .i64 e.exp]
def eJ:bC:=⟨List.replicate 32 0,0⟩
theorem bP (e:bC):(ev e).size=33:=by unfold ev;rw[Array.size_append,aA];rfl
theorem gP (e:bC):(ev e).all (·.oneCell')=true:=by
 unfold ev;rw[Array.all_append,aL];simp only[List.all_toArray,List.all_cons,List.all_nil];rfl
theorem d9 (e:bC):(ev e)[32]? =some (.int .i64 e.exp):=by
 unfold ev;rw[Array.getElem?_append_right (by rw[aA];omega),aA];rfl
theorem lD (e:bC) {j:Nat} (hj:j<32):(ev e)[j]? =some (.int .u8 (aT e.dig j:Nat)):=by
 unfold ev;rw[Array.getElem?_append_left (by rw[aA];omega),cJ _ _ _ _ hj]
theorem ev0:ev eJ=#[.int .u8 0,.int .u8 0,.int .u8 0,.int .u8 0,.int .u8 0,.int .u8 0,.int .u8 0,.int .u8 0,.int .u8 0,.int .u8 0,.int .u8 0,.int .u8 0,.int .u8 0,.int .u8 0,.int .u8 0,.int .u8 0,.int .u8 0,.int .u8 0,.int .u8 0,.int .u8 0,.int .u8 0,.int .u8 0,.int .u8 0,.int .u8 0,.int .u8 0,.int .u8 0,.int .u8 0,.int .u8 0,.int .u8 0,.int .u8 0,.int .u8 0,.int .u8 0,.int .i64 0]:=by kernel_rfl
theorem cI (e:bC):(Tryz.prog.info? 73).map (·.size)=some (ev e).size:=by rw[bP];kernel_rfl
theorem aEN {w:World} {ops:Array Oper} {rest:List Oper} {o:Oper} {a:Act} {Q:Exit→Act→World→Prop} (hgd:o.guard=none) (d s:Operand)
 (ho:o.op= .call { callee:=.builtin .copy,args:=#[d,s],argTypes:=#[39,39]}) (g c:Nat) (hd:a.eval d= .slice (some ⟨g,0,none⟩) 32 c) (hg:Hb w g (ev eJ) 73)
 (x:Value) (l:List Nat) (hs:a.eval s=x) (hx:Rs w x l) (hl:l.length≤32)
 (h:∀w' cs,Hb w' g cs 73→cs.size=33→(l.length=32→cs=ev ⟨l,0⟩)→w.grownBy w' (some g)→wpList Tryz.prog ops Q rest (a.put o.dst (goInt l.length)) w'):wpList Tryz.prog ops Q (o::rest) a w:=by
 obtain⟨i0,hi,hz0,hz1,hz2⟩:=info_parts dC;have hsz:(Tryz.prog.info? 5).map (·.size)=some 1:=by rw[hi];simp[hz1]
 have hm:Nat.min l.length 32=l.length:=Nat.min_eq_left hl
 by_cases h0:l.length=0
 ·obtain⟨xa,xc,rfl⟩:=hx.form
  refine wpList_copy_nothing hgd d s 39 39 ho 5 Tryz.underlying39 hsz _ _ _ _ _ _ hd hs (by rw[hm];exact h0) ?_;have:=h w (ev eJ) hg (bP _) (fun e=>by omega) (aE _ _);rw[h0] at this;exact this
 ·rcases hx.2.2 with ⟨rfl,rfl⟩|⟨ad,cap,rfl,_,hc⟩
  ·simp at h0
  ·refine wpList_copy_own hgd d s 39 39 ho 5 Tryz.underlying39 hsz g 0 32 c ad l.length cap hd hs (ev eJ) 73 hg (l.map bv) (by rw[List.length_map,hm]) (fun j v hj=>by
    have hj':j<l.length:=by have:=(List.getElem?_eq_some_iff.1 hj).1;simpa using this
    rw[hc j hj'];rw[List.getElem?_map,List.getElem?_eq_getElem hj'] at hj
    rw[←hj];simp[List.getD,hj']) (by rw[List.length_map,bP];omega) (oR _) ?_
   rw[List.length_map];refine h _ _ (setRow_heap w g _ _ _ (0,0) hg) (by simp[bP];omega) (fun h32=>?_) (cO w g _);rw[List.take_zero,List.nil_append,Nat.zero_add,h32];apply Array.ext_getElem?;intro i;rw[List.getElem?_toArray]
   by_cases hi:i<32
   ·rw[List.getElem?_append_left (by rw[List.length_map];omega),lD _ hi,List.getElem?_map,List.getElem?_eq_getElem (by omega)]
    simp[aT,List.getD,show i<l.length by omega]
   ·rw[List.getElem?_append_right (by rw[List.length_map];omega),List.length_map,h32,List.getElem?_drop,show 32+(i - 32)=i by omega,Array.getElem?_toList]
    by_cases h32':i=32
    ·subst h32';rw[d9,d9];rfl
    ·rw[Array.getElem?_eq_none (by rw[bP];omega),Array.getElem?_eq_none (by rw[bP];omega)]
def Frm.red (p:List Nat):Wir.R:=(Wir.num (Wir.take ⟨p,false⟩ 32).1 8).1
def Frm.redx (p:List Nat):Nat:=(Wir.num (Wir.take ⟨p,false⟩ 32).1 8).2
def Frm.redl (p:List Nat):List Nat:=(Wir.take ⟨p,false⟩ 32).2
theorem Frm.red40 {p:List Nat} (h:p.length=40):(!(Frm.red p).bad&&(Frm.red p).l.length==0)=true∧Frm.redx p=Wir.be (p.drop 32)∧Frm.redl p=p.take 32:=by
 have e1:=take_take p 32 (by omega);have e2:=fF (p.drop 32) 8 (by omega) (by rw[List.length_drop];omega);unfold Frm.red Frm.redx Frm.redl;rw[show((32:Int))=((32:Nat):Int) by rfl,e1];dsimp only;rw[show((8:Int))=((8:Nat):Int) by rfl,e2];refine⟨?_,?_,rfl⟩
 ·simp;omega
 ·dsimp only;rw[List.take_of_length_le (by rw[List.length_drop];omega)]
theorem Frm.red_not {p:List Nat} (h:p.length≠40):(!(Frm.red p).bad&&(Frm.red p).l.length==0)=false:=by
 unfold Frm.red;rw[show((32:Int))=((32:Nat):Int) by rfl,show((8:Int))=((8:Nat):Int) by rfl]
 by_cases h32:p.length<32
 ·have e1:(Wir.take ⟨p,false⟩ (32:Nat)).1=Wir.failed:=by
   unfold Wir.take Wir.next;rw[if_neg (by omega)];dsimp only;rw[if_pos (by simp;omega)]
  have e2:(Wir.num Wir.failed (8:Nat)).1=Wir.failed:=by
   unfold Wir.num Wir.number Wir.next;rw[if_neg (by omega)];dsimp only;rw[if_pos (by simp[Wir.failed])]
  rw[e1,e2];rfl
 ·rw[take_take p 32 (by omega)]
  dsimp only
  by_cases h40:p.length<40
  ·rw[wE _ 8 (by omega) (by rw[List.length_drop];omega)];rfl
  ·rw[fF _ 8 (by omega) (by rw[List.length_drop];omega)]
   simp;omega
theorem Frm.redl_len (p:List Nat):(Frm.redl p).length≤32:=by
 unfold Frm.redl;rw[show((32:Int))=((32:Nat):Int) by rfl]
 by_cases h32:p.length<32
 ·unfold Wir.take Wir.next
  rw[if_neg (by omega)];dsimp only;rw[if_pos (by simp;omega)];simp
 ·rw[take_take p 32 (by omega)]
  dsimp only;rw[List.length_take];omega
set_option linter.all false
namespace Sea
end Sea
set_option linter.all false
set_option maxHeartbeats 4000000
theorem oP (r:ByteArray) (u:Value) (ss:List ByteArray) (t:Int) (m s:Nat) (w:World) (hr:r.size≤maxLen) (hm:m<4294967296) (hs:s<4294967296) (h:Ss w u ss) (hv:Aut.valid (aut r ss t m s)=true):
 Calls Tryz.prog 58 #[.agg (au r u t m s)] w (cG (Aut.bytes (aut r ss t m s)) w):=by
 have hsz:=au_size r u t m s;have T0:=Ab.new (W:=w) (t:=t) h hr hm hs;have G0:=aG (aE w none) (.cells (au r u t m s) 67);obtain⟨ua,uc,rfl⟩:=h.form;obtain⟨v1,v2,v3,v4⟩:=(Aut.valid_iff _).1 hv;have hnl:=Nam.bytes_len v1;dsimp only[aut] at v1 v2 v3 v4 hnl;obtain⟨a,rfl⟩:=Int.eq_ofNat_of_zero_le v2;have hbt:Aut.bytes (aut r ss a m s)=Wir.join [[2],Nam.bytes (nm r ss),Wir.enc 8 a,Wir.enc 4 m,Wir.enc 4 s]:=by
  unfold Aut.bytes aut Wir.join;simp
 have hjl:(Wir.join [[2],Nam.bytes (nm r ss),Wir.enc 8 a,Wir.enc 4 m,Wir.enc 4 s]).length≤140737488355328:=by
  unfold Wir.join;simp only[List.flatten_cons,List.flatten_nil,List.length_append,List.length_cons,List.length_nil,Wir.enc_length];omega
 rw[hbt];have HV1:=aD v1;have HJL:=aD hjl;clear h hv hbt v1 v2 hnl hjl;have hwa:IntKind.u64.wrap (a:Int)=(a:Int):=by simp only[IntKind.wrap_u64];omega
 have hwm:IntKind.u64.wrap (m:Int)=(m:Int):=by simp only[IntKind.wrap_u64];omega
 have hws:IntKind.u64.wrap (s:Int)=(s:Int):=by simp only[IntKind.wrap_u64];omega
 have E1:=aD (dH 8 a (by omega) (by omega));have E2:=aD (dH 4 m (by omega) (by omega));have E3:=aD (dH 4 s (by omega) (by omega));have c2:=T0.c2;go_enter Tryz.func58,Tryz.ntmps58;go_wp2_with fail;refine(fH 8 a _ (by omega)).mono ?_;rintro x w1 ⟨hb1,ht⟩;have e1:Wir.putNumber 8 a=some (Wir.enc 8 a):=E1.out;rw[e1] at ht;rcases ht with ⟨hno,_⟩|⟨l1,u1,hl1,rfl,o1⟩
 ·cases hno
 cases hl1
 obtain⟨x1,y1,rfl⟩:=o1.form;have T1:=T0.only (aC hb1 none);have G1:=aF G0 (aC hb1 none);have O1:=aD o1.bs.rs;clear c2 T0 G0 hb1 o1 e1 E1;have c3:=T1.c3;go_wp2_with fail;refine(fH 4 m _ (by omega)).mono ?_;rintro x w2 ⟨hb2,ht⟩;have e2:Wir.putNumber 4 m=some (Wir.enc 4 m):=E2.out;rw[e2] at ht;rcases ht with ⟨hno,_⟩|⟨l2,u2,hl2,rfl,o2⟩
 ·cases hno
 cases hl2
 obtain⟨x2,y2,rfl⟩:=o2.form;have T2:=T1.only (aC hb2 none);have G2:=aF G1 (aC hb2 none);have O1:=aD (O1.out.below hb2);have O2:=aD o2.bs.rs;clear c3 T1 G1 hb2 o2 e2 E2;have c4:=T2.c4;go_wp2_with fail;refine(fH 4 s _ (by omega)).mono ?_;rintro x w3 ⟨hb3,ht⟩;have e3:Wir.putNumber 4 s=some (Wir.enc 4 s):=E3.out;rw[e3] at ht;rcases ht with ⟨hno,_⟩|⟨l3,u3,hl3,rfl,o3⟩
 ·cases hno
 cases hl3
 obtain⟨x3,y3,rfl⟩:=o3.form;have A4:=(Below.refl w3.heap.size w3).alloc (Nat.le_refl _) (.cells #[.int .u8 2] 5);have F4:=aF (aC hb3 none) (aC A4 none);have T4:=T2.only F4;have G4:=aF G2 F4;have O1:=aD (O1.out.below (aB F4));have O2:=aD (O2.out.below (aB F4));have O3:=aD (o3.bs.rs.below A4);have r1:Rs (w3.alloc (.cells #[.int .u8 2] 5)) (.slice (some ⟨w3.heap.size,0,none⟩) 1 1) [2]:=(bL w3 0 [2] (AllB.one (by decide)) (Nat.zero_le _) (by decide)).bs.rs;have R1:=aD r1;clear c4 T2 G2 hb3 o3 e3 E3 F4 A4 r1;have c0:=T4.c0;have c1:=T4.c1;go_wp2_with fail;refine(gR r _ ss _ T4.2.1 HV1.out).mono ?_;rintro x w5 ⟨v5,rfl,o5,hb5⟩;obtain⟨x5,y5,rfl⟩:=o5.form;have HB:=tZ (R1.out.below hb5) o5.bs.rs (O1.out.below hb5) (O2.out.below hb5) (O3.out.below hb5);have G5:=aF G4 (aC hb5 none);have G6:=aG G5 (.cells #[.slice (some ⟨w3.heap.size,0,none⟩) 1 1,.slice x5 (Nam.bytes (nm r ss)).length y5,.slice x1 (Wir.enc 8 a).length y1,.slice x2 (Wir.enc 4 m).length y2,.slice x3 (Wir.enc 4 s).length y3] 39);have HB:=aD HB;clear c0 c1 T4 G4 hb5 o5 G5 R1 O1 O2 O3;generalize Nam.bytes (nm r ss)=NB at*;go_wp2_with fail;refine(dT _ _ _ HB.out HJL.out).mono ?_;rintro x w7 ⟨v7,rfl,o7,hb7⟩;have G7:=aF G6 (aC hb7 none);have O7:=aD (o7.mono G6.size);clear o7 HB G6 hb7;go_wp2_with fail;go_ret;exact⟨_,rfl,O7.out,aB G7⟩
set_option linter.all false
theorem kK {ops:Array Oper} {S:World→Prop} {K:Act→World→Prop} {n:Nat} {listed:Array Bool} {a:Act} {w:World} (i:Nat) (hr:Region.ready .any ops listed=[i]) (h1:Nat.blt i ops.size=true) (hw:Region.wanted (opn ops i) (yielded ops a.tmps)=true) (ty:TypeId) (x y:Operand)
 (ho:(opn ops i).op= .store ty x y) (hd:(opn ops i).dst=none) (g:Nat) (cells old:Array Value) (hx:a.eval x= .pointer (some ⟨g,0,none⟩)) (hy:a.eval y= .agg cells) (t:TypeId) (hg:Hb w g old t) (hi:(Tryz.prog.info? ty).map (·.size)=some cells.size) (hsz:old.size=cells.size) (hone:cells.all (·.oneCell')=true) (hS:S (w.setRow g cells))
 (h:wpAnyH Tryz.prog .any ops (nq K) S n (listed.setIfInBounds i true) a (w.setRow g cells)):wpAnyH Tryz.prog .any ops (nq K) S (n+1) listed a w:=
 aR i hr h1 (HStep.of_law #[] hw fun _ hK=>wpList_store_rowTo rfl ty x y ho hd g cells hx hy t old hg hi hsz hone (bH (hK _ _ hS h)))
set_option linter.all false
namespace Idx
def ltB:List Nat→List Nat→Bool
 |[],[]=>false
 |[],_::_=>true
 |_::_,[]=>false
 |a::l,b::m=>decide (a<b)||(decide (a=b)&&ltB l m)
theorem ltB_irrefl (l:List Nat):ltB l l=false:=by
 induction l with
 |nil=>rfl
 |cons a l ih=>simp[ltB,ih]
theorem ltB_trans:∀{l m n:List Nat},ltB l m=true→ltB m n=true→ltB l n=true
 |[],[],_,h,_=>by simp[ltB] at h
 |_,_::_,[],_,h=>by simp[ltB] at h
 |[],_::_,_::_,_,_=>rfl
 |_::_,[],_,h,_=>by simp[ltB] at h
 |a::l,b::m,c::n,h,k=>by
  simp only[ltB,Bool.or_eq_true,Bool.and_eq_true,decide_eq_true_eq] at h k ⊢;rcases h with h|⟨rfl,h⟩
  ·rcases k with k|⟨rfl,k⟩
   ·exact .inl (by omega)
   ·exact .inl h
  ·rcases k with k|⟨rfl,k⟩
   ·exact .inl k
   ·exact .inr ⟨rfl,ltB_trans h k⟩
theorem ltB_total:∀{l m:List Nat},l≠m→ltB l m=true∨ltB m l=true
 |[],[],h=>absurd rfl h
 |[],_::_,_=>.inl rfl
 |_::_,[],_=>.inr rfl
 |a::l,b::m,h=>by
  simp only[ltB,Bool.or_eq_true,Bool.and_eq_true,decide_eq_true_eq]
  by_cases hab:a=b
  ·subst hab
   rcases ltB_total (l:=l) (m:=m) (fun e=>h (by rw[e])) with k|k
   ·exact .inl (.inr ⟨rfl,k⟩)
   ·exact .inr (.inr ⟨rfl,k⟩)
  ·rcases Nat.lt_or_gt_of_ne hab with k|k
   ·exact .inl (.inl k)
   ·exact .inr (.inl k)
def lt (a b:bC):Bool:=decide (a.exp<b.exp)||(decide (a.exp=b.exp)&&ltB a.dig b.dig)
theorem lt_irrefl (a:bC):lt a a=false:=by simp[lt,ltB_irrefl]
theorem lt_trans {a b c:bC} (h:lt a b=true) (k:lt b c=true):lt a c=true:=by
 simp only[lt,Bool.or_eq_true,Bool.and_eq_true,decide_eq_true_eq] at h k ⊢;rcases h with h|⟨h1,h2⟩<;>rcases k with k|⟨k1,k2⟩
 ·exact .inl (by omega)
 ·exact .inl (by omega)
 ·exact .inl (by omega)
 ·exact .inr ⟨by omega,ltB_trans h2 k2⟩
theorem lt_total {a b:bC} (h:a≠b):lt a b=true∨lt b a=true:=by
 simp only[lt,Bool.or_eq_true,Bool.and_eq_true,decide_eq_true_eq]
 by_cases he:a.exp=b.exp
 ·have hd:a.dig≠b.dig:=fun e=>h (by cases a;cases b;simp_all)
  rcases ltB_total hd with k|k
  ·exact .inl (.inr ⟨he,k⟩)
  ·exact .inr (.inr ⟨he.symm,k⟩)
 ·rcases Int.lt_or_gt_of_ne he with k|k
  ·exact .inl (.inl k)
  ·exact .inr (.inl k)
theorem lt_asymm {a b:bC} (h:lt a b=true):lt b a=false:=by
 cases hb:lt b a with
 |false=>rfl
 |true=>have:=lt_trans h hb;rw[lt_irrefl] at this;cases this
def get (l:List bC) (d:List Nat):Option Int:=(l.find? fun e=>e.dig==d).map (·.exp)
def ins (e:bC):List bC→List bC
 |[]=>[e]
 |x::r=>if lt e x then e::x::r else x::ins e r
def put (l:List bC) (e:bC):List bC:=match get l e.dig with
 |some x=>if e.exp≤x then l else ins e (l.filter fun y=>y.dig !=e.dig)
 |none=>ins e (l.filter fun y=>y.dig !=e.dig)
def puts (l:List bC) (e:bC):Bool:=match get l e.dig with
 |some x=> !decide (e.exp≤x)
 |none=>true
def of (es:List bC):List bC:=es.foldl put []
def live (l:List bC) (now:Int):List bC:=l.filter fun e=>decide (now≤e.exp)
def has (l:List bC) (d:List Nat) (now:Int):Bool:=match get l d with
 |some x=>decide (now≤x)
 |none=>false
structure ok (l:List bC):Prop where
 ord:l.Pairwise fun a b=>lt a b=true
 one:l.Pairwise fun a b=>a.dig≠b.dig
theorem ok_nil:ok []:=⟨.nil,.nil⟩
theorem ok.filter {l:List bC} (h:ok l) (p:bC→Bool):ok (l.filter p):=⟨h.ord.filter p,h.one.filter p⟩
theorem mem_ins {e x:bC} {l:List bC}:x∈ins e l↔x=e∨x∈l:=by
 induction l with
 |nil=>simp[ins]
 |cons y r ih=>
  unfold ins;split
  ·simp
  ·simp[ih];constructor<;>(intro h;rcases h with h|h|h<;>simp[h])
theorem ins_perm (e:bC) (l:List bC):(ins e l).Perm (e::l):=by
 induction l with
 |nil=>exact .refl _
 |cons y r ih=>
  unfold ins;split
  ·exact .refl _
  ·exact(ih.cons y).trans (.swap e y r)
theorem ok_ins {e:bC} {l:List bC} (h:ok l) (hd:∀x∈l,x.dig≠e.dig):ok (ins e l):=by
 refine⟨?_,?_⟩
 ·induction l with
  |nil=>exact List.pairwise_singleton _ _
  |cons y r ih=>
   obtain⟨h1,h2⟩:=List.pairwise_cons.1 h.ord;unfold ins;split
   ·rename_i hl
    refine List.pairwise_cons.2 ⟨fun x hx=>?_,h.ord⟩;rcases List.mem_cons.1 hx with rfl|hx
    ·exact hl
    ·exact lt_trans hl (h1 x hx)
   ·rename_i hl
    have hy:lt y e=true:=by
     rcases lt_total (a:=e) (b:=y) (fun c=>hd y (by simp) (by rw[c])) with k|k
     ·exact absurd k hl
     ·exact k
    refine List.pairwise_cons.2 ⟨fun x hx=>?_,ih ⟨h2,(List.pairwise_cons.1 h.one).2⟩ (fun x hx=>hd x (by simp[hx]))⟩;rcases mem_ins.1 hx with rfl|hx
    ·exact hy
    ·exact h1 x hx
 ·refine((ins_perm e l).pairwise_iff (fun{a b} (h:a.dig≠b.dig)=>h.symm)).2 (List.pairwise_cons.2 ⟨fun x hx=>(hd x hx).symm,h.one⟩)
theorem ok_put {l:List bC} (h:ok l) (e:bC):ok (put l e):=by
 have h1:ok (ins e (l.filter fun y=>y.dig !=e.dig)):=ok_ins (h.filter _) fun x hx=>by simpa using (List.mem_filter.1 hx).2
 unfold put;split
 ·split
  ·exact h
  ·exact h1
 ·exact h1
theorem ok_live {l:List bC} (h:ok l) (now:Int):ok (live l now):=h.filter _
theorem get_none {l:List bC} {d:List Nat}:get l d=none↔∀e∈l,e.dig≠d:=by
 unfold get;rw[Option.map_eq_none_iff,List.find?_eq_none];simp
theorem get_of_mem {l:List bC} (h:ok l) {e:bC} (he:e∈l):get l e.dig=some e.exp:=by
 induction l with
 |nil=>cases he
 |cons y r ih=>
  obtain⟨h1,h2⟩:=List.pairwise_cons.1 h.one;unfold get;rw[List.find?_cons];rcases List.mem_cons.1 he with rfl|he
  ·simp
  ·have hne:(y.dig==e.dig)=false:=by simpa using h1 e he
   rw[hne];exact ih ⟨(List.pairwise_cons.1 h.ord).2,h2⟩ he
theorem mem_of_get {l:List bC} {d:List Nat} {x:Int} (h:get l d=some x):(⟨d,x⟩:bC)∈l:=by
 unfold get at h;obtain⟨e,he,hx⟩:=Option.map_eq_some_iff.1 h;have h1:=List.find?_some he;have h2:=List.mem_of_find?_eq_some he;have h3:e.dig=d:=by simpa using h1
 cases e
 subst h3 hx;exact h2
theorem get_iff {l:List bC} (h:ok l) {d:List Nat} {x:Int}:get l d=some x↔(⟨d,x⟩:bC)∈l:=⟨mem_of_get,fun hm=>get_of_mem h hm⟩
theorem get_ins {e:bC} {l:List bC} (h:ok l) (hd:∀x∈l,x.dig≠e.dig) (d:List Nat):get (ins e l) d=if d=e.dig then some e.exp else get l d:=by
 by_cases hde:d=e.dig
 ·rw[if_pos hde,hde];exact get_of_mem (ok_ins h hd) (mem_ins.2 (.inl rfl))
 ·rw[if_neg hde]
  cases hg:get l d with
  |none=>
   rw[get_none] at hg ⊢;intro x hx;rcases mem_ins.1 hx with rfl|hx
   ·exact fun e=>hde e.symm
   ·exact hg x hx
  |some x=>exact(get_iff (ok_ins h hd)).2 (mem_ins.2 (.inr (mem_of_get hg)))
theorem get_filter {l:List bC} (h:ok l) (p:bC→Bool) (d:List Nat):get (l.filter p) d=match get l d with
 |some x=>if p ⟨d,x⟩ then some x else none
 |none=>none:=by
 cases hg:get l d with
 |none=>
  rw[get_none] at hg ⊢;exact fun e he=>hg e (List.mem_filter.1 he).1
 |some x=>
  have hm:=mem_of_get hg;dsimp only
  by_cases hp:p ⟨d,x⟩=true
  ·rw[if_pos hp];exact(get_iff (h.filter p)).2 (List.mem_filter.2 ⟨hm,hp⟩)
  ·rw[if_neg hp,get_none]
   intro e he hd;obtain⟨h1,h2⟩:=List.mem_filter.1 he;have:=get_of_mem h h1;rw[hd,hg] at this
   cases e
   simp only[Option.some.injEq] at this hd;subst this hd;exact hp h2
theorem get_put {l:List bC} (h:ok l) (e:bC) (d:List Nat):get (put l e) d=if puts l e=true∧d=e.dig then some e.exp else get l d:=by
 have hb:get (ins e (l.filter fun y=>y.dig !=e.dig)) d=if d=e.dig then some e.exp else get l d:=by
  rw[get_ins (h.filter _) (fun x hx=>by simpa using (List.mem_filter.1 hx).2)]
  by_cases hde:d=e.dig
  ·rw[if_pos hde,if_pos hde]
  ·rw[if_neg hde,if_neg hde,get_filter h]
   cases get l d with
   |none=>rfl
   |some x=>simp[hde]
 unfold put puts
 cases hg:get l e.dig with
 |none=>simpa using hb
 |some x=>
  dsimp only
  by_cases hx:e.exp≤x
  ·simp[hx]
  ·simpa [hx] using hb
theorem put_id {l:List bC} {e:bC} (h:puts l e=false):put l e=l:=by
 unfold puts at h;unfold put
 cases hg:get l e.dig with
 |none=>rw[hg] at h;cases h
 |some x=>rw[hg] at h;dsimp only at h ⊢;rw[if_pos (by simpa using h)]
theorem has_iff {l:List bC} {d:List Nat} {now:Int}:has l d now=true↔∃x,get l d=some x∧now≤x:=by
 unfold has
 cases get l d with
 |none=>simp
 |some x=>simp
theorem mem_put {l:List bC} {e x:bC} (h:x∈put l e):x=e∨x∈l:=by
 have h1:x∈ins e (l.filter fun y=>y.dig !=e.dig)→x=e∨x∈l:=fun h=>(mem_ins.1 h).imp id fun h=>(List.mem_filter.1 h).1
 unfold put at h;split at h
 ·split at h
  ·exact .inr h
  ·exact h1 h
 ·exact h1 h
theorem put_len (l:List bC) (e:bC):(put l e).length≤l.length+1:=by
 have h1:(ins e (l.filter fun y=>y.dig !=e.dig)).length≤l.length+1:=by
  rw[(ins_perm _ _).length_eq,List.length_cons];have:=List.length_filter_le (fun y:bC=>y.dig !=e.dig) l;omega
 unfold put;split
 ·split
  ·omega
  ·exact h1
 ·exact h1
theorem eq_of_perm {l m:List bC} (h:l.Perm m) (hl:l.Pairwise fun a b=>lt a b=true) (hm:m.Pairwise fun a b=>lt a b=true):l=m:=
 h.eq_of_pairwise (fun a b _ _ hab hba=>by have:=lt_asymm hab;rw[hba] at this;cases this) hl hm
theorem eq_of_mem {l m:List bC} (hl:ok l) (hm:ok m) (h:∀e,e∈l↔e∈m):l=m:=by
 refine eq_of_perm ?_ hl.ord hm.ord;refine(List.perm_ext_iff_of_nodup (hl.one.imp fun{a b} h e=>h (by rw[e])) (hm.one.imp fun{a b} h e=>h (by rw[e]))).2 h
end Idx
end Go.Proofs.YtcoolgnlhheaiaaGreatDoor
