import Derived.Lib.AppendStr
import Derived.Test.YtcoolgnlhheaiaaGreatDoorG02
namespace Go.Proofs.YtcoolgnlhheaiaaGreatDoor
open Go.RowKit Go.Deep
set_option linter.all false
set_option maxRecDepth 100000
set_option maxHeartbeats 4000000
theorem aDJ (l:Nam.W) (i:Nat):(Nam.toN l).getD i 0=(l.getD i 0).toNat:=by
 simp only[Nam.toN,List.getD,List.getElem?_map]
 cases l[i]? <;>rfl
theorem oF (s:ByteArray) (w:World) (hs:s.size≤1000000):∃v w',(convert 9 39 (.string s)).run Tryz.prog w= .ok v w'∧Bs w' v (Nam.toN (bl s))∧Below w.heap.size w w':=by
 refine⟨_,_,run_bytes_of_string w 9 39 5 s Tryz.underlying9 Tryz.underlying39 Tryz.underlying5,?_,(Below.drew (Below.refl _ w)).alloc (Nat.le_refl _) _⟩;have hl:(Nam.toN (bl s)).length=s.size:=by rw[Nam.toN_length];rfl
 have hc:s.size≤grownCap w s.size 0 5∧grownCap w s.size 0 5≤9223372036854775807:=by
  have h1:=grownCap_ge w s.size 0 5;have h2:=grownCap_le_maxLen w s.size 0 5 (by unfold maxLen;omega);unfold maxLen at h2;exact⟨h1,by omega⟩
 refine tD (Nam.toN_all _) hl hc.1 hc.2 (by simp) fun i hi=>?_
 rw[Nat.zero_add];have hi':i<s.data.size:=by rw[hl] at hi;exact hi
 have h1:=World.cell?_alloc_mark w.drew (bytesRow s (grownCap w s.size 0 5)) 5 ((bytesRow s (grownCap w s.size 0 5)).size,(bytesRow s (grownCap w s.size 0 5)).size+1) i;refine h1.trans ?_;rw[bytesRow_at s _ i hi',aDJ];have e:(bl s).getD i 0=s.data[i]:=by
  have:=zD s i hi';rw[←this];rfl
 rw[e]
def OwnB (w:World) (base:Nat) (v:Value) (vs:List Value) (ll:List (List Nat)):Prop:=w.ownsRow base 39 1 v vs.length vs∧vs.length=ll.length∧(∀i u,vs[i]? =some u→Own w base u (ll.getD i []))
theorem OwnB.bss {w:World} {base:Nat} {v:Value} {vs:List Value} {ll:List (List Nat)} (h:OwnB w base v vs ll):Bss w v ll:=by
 obtain⟨h1,h2,h3⟩:=h;rcases h1.2 with ⟨rfl,hn⟩|⟨g,cap,cur,rfl,hb,hg,hn,hc,hs,ht⟩
 ·have:ll=[]:=List.eq_nil_of_length_eq_zero (by omega)
  subst this;exact⟨none,0,rfl,by simp,fun h=>absurd rfl h⟩
 ·have hn':=hn
  have hc':=hc;unfold maxLen at hc';rw[h2] at hn' ⊢;refine⟨_,cap,rfl,by omega,fun _=>⟨g,0,rfl,fun i hi=>?_⟩⟩;have hi':i<vs.length:=by omega
  refine⟨vs[i],?_,(h3 i _ (List.getElem?_eq_getElem hi')).bs.rs⟩;rw[Nat.zero_add,h1.cellAt i (by omega)];simp[hi']
theorem OwnB.below {w w':World} {base:Nat} {v:Value} {vs:List Value} {ll:List (List Nat)} (h:OwnB w base v vs ll) (k:Below w.heap.size w w'):OwnB w' base v vs ll:=
 ⟨h.1.kept (aC k none) (by cases hv:v.ownBlock<;>simp),h.2.1,fun i u hu=>(h.2.2 i u hu).below k⟩
theorem OwnB.lt {w:World} {base:Nat} {v:Value} {vs:List Value} {ll:List (List Nat)} (h:OwnB w base v vs ll):∀g,v.ownBlock=some g→base≤g∧g<w.heap.size:=h.1.lt
theorem OwnB.form {w:World} {base:Nat} {v:Value} {vs:List Value} {ll:List (List Nat)} (h:OwnB w base v vs ll):∃a c,v= .slice a vs.length c:=by
 rcases h.1.2 with ⟨rfl,hn⟩|⟨g,cap,cur,rfl,_⟩
 ·exact⟨none,0,by rw[hn]⟩
 ·exact⟨_,_,rfl⟩
theorem OwnB.alloc {w:World} {base:Nat} {v:Value} {vs:List Value} {ll:List (List Nat)} (h:OwnB w base v vs ll) (o:Obj):OwnB (w.alloc o) base v vs ll:=h.below ((Below.refl _ _).alloc (Nat.le_refl _) _)
theorem pT {w:World} {base base' n:Nat} {u v:Value} {l:List Nat} {xs:List Value} (h:Own w base u l) (k:w.ownsRow base' 39 1 v n xs):u.ownBlock=none∨u.ownBlock≠v.ownBlock:=by
 rcases k.2 with ⟨rfl,_⟩|⟨g,cap,cur,rfl,_,hg,_⟩
 ·cases hu:u.ownBlock
  ·exact .inl rfl
  ·exact .inr (by simp[Value.ownBlock])
 ·exact .inr (Lib.ownBlock_ne h.2 hg (by decide))
end Go.Proofs.YtcoolgnlhheaiaaGreatDoor
namespace Go.Proofs.YtcoolgnlhheaiaaGreatDoor
open Go.RowKit Go.Deep
set_option linter.all false
set_option maxRecDepth 100000
set_option maxHeartbeats 4000000
theorem iE (l:Nam.W) (h:l.length≤200):Wir.putString 1 (Nam.toN l)=some (Nam.sized l):=by
 unfold Wir.putString Wir.putNumber;rw[Nam.toN_length,if_neg (by omega),if_pos (by simp;omega)];simp[Wir.enc,Nam.sized,Nat.mod_eq_of_lt (show l.length<256 by omega)]
theorem pK (k:Nat) (h:k<256):Wir.putNumber 1 k=some [k]:=by
 unfold Wir.putNumber;rw[if_neg (by omega),if_pos (by simpa using h)];simp[Wir.enc,Nat.mod_eq_of_lt h]
theorem aGR:(Tryz.prog.info? 39).map (fun i=>(i.zero,i.size,i.bytes))=some (some (.slice none 0 0),1,24):=by kernel_rfl
theorem lP {w:World} {ops:Array Oper} {rest:List Oper} {o:Oper} {a:Act} {Q:Exit→Act→World→Prop} (hgd:o.guard=none) (s x:Operand)
 (ho:o.op= .call { callee:=.builtin .append,args:=#[s,x],argTypes:=#[197,197]})
 (base:Nat) (v:Value) (vs:List Value) (ll:List (List Nat)) (hs:a.eval s=v) (hown:OwnB w base v vs ll) (g:Nat) (t:Value) (l:List Nat) (ht:Own w base t l) (hx:a.eval x= .slice (some ⟨g,0,none⟩) 1 1) (hc:w.cell? ⟨g,0,none⟩=some t)
 (hn:vs.length≤1000) (hbase:base≤w.heap.size)
 (h:∀a' c' w',OwnB w' base (.slice a' (vs.length+1) c') (vs++[t]) (ll++[l])→w.grownBy w' v.ownBlock→wpList Tryz.prog ops Q rest (a.put o.dst (.slice a' (vs.length+1) c')) w'):wpList Tryz.prog ops Q (o::rest) a w:=by
 obtain⟨i0,hi,hz0,hz1,hz2⟩:=info_parts aGR;obtain⟨ta,tc,rfl⟩:=ht.form;refine wpList_append_own w hgd s x 197 ho base 39 i0 (.slice none 0 0) 1 24 Tryz.underlying197 hi hz0 hz1 hz2 rfl (by decide) v vs.length vs hs hown.1 ⟨g,0,none⟩ 1 1 [.slice ta l.length tc] hx (by simp) ?_ ?_ ?_ (by omega) hbase ?_
 ·intro j u hj
  match j,hj with
  |0,hj=>simp at hj;subst hj;rw[Addr.add_lit];exact hc
 ·intro u hu
  simp at hu;subst hu;rfl
 ·unfold maxLen;omega
 ·intro v' w' h3 h4 _
  have hO:OwnB w' base v' (vs++[.slice ta l.length tc]) (ll++[l]):=by
   refine⟨by rw[List.length_append];exact h3,by rw[List.length_append,List.length_append,hown.2.1];rfl,fun i u hu=>?_⟩;rcases Nat.lt_or_ge i vs.length with hlt|hge
   ·rw[List.getElem?_append_left hlt] at hu
    have e:(ll++[l]).getD i []=ll.getD i []:=by simp[List.getD,List.getElem?_append_left (show i<ll.length by rw[←hown.2.1];exact hlt)]
    rw[e];have ou:=hown.2.2 i u hu;exact ou.only h4 (pT ou hown.1)
   ·rw[List.getElem?_append_right hge] at hu
    have hi0:i - vs.length=0:=by
     rcases Nat.eq_zero_or_pos (i - vs.length) with h|h
     ·exact h
     ·rw[List.getElem?_eq_none (by simp;omega)] at hu;cases hu
    rw[hi0] at hu;simp at hu;subst hu;have hie:i=ll.length:=by have:=hown.2.1;omega
    have e:(ll++[l]).getD i []=l:=by rw[hie];simp[List.getD]
    rw[e];exact ht.only h4 (pT ht hown.1)
  obtain⟨a',c',e⟩:∃a' c',v'= .slice a' (vs.length+1) c':=by
   rcases h3.2 with ⟨_,hz⟩|⟨g',cap,cur,hv,_⟩
   ·omega
   ·exact⟨_,_,hv⟩
  subst e;exact h a' c' w' hO h4
theorem aGA {w:World} {base:Nat} {u t:Value} {a b:List Nat} (hu:Own w base u a) (ht:Own w base t b) (hB:base≤w.heap.size):OwnB (w.alloc (.cells #[u,t] 39)) base (.slice (some ⟨w.heap.size,0,none⟩) 2 2) [u,t] [a,b]:=by
 refine⟨⟨by simp,.inr ⟨w.heap.size,2,#[u,t],rfl,hB,heap_alloc_new w _,by simp,by unfold maxLen;omega,by simp,by simp⟩⟩,rfl,fun i x hx=>?_⟩
 match i,hx with
 |0,hx=>simp at hx;subst hx;exact hu.alloc _
 |1,hx=>simp at hx;subst hx;exact ht.alloc _
 |_+2,hx=>simp at hx
def part (ss:List ByteArray):List (List Nat):=ss.map fun s=>Nam.sized (bl s)
theorem yQ (r:ByteArray) (ss:List ByteArray):Nam.bytes (nm r ss)=Wir.join (Nam.sized (bl r)::[ss.length]::part ss):=by
 unfold Nam.bytes nm part Wir.join;simp[List.map_map,Function.comp_def]
theorem xK (r:ByteArray) (hr:r.size≤maxLen) (v:Value) (ss:List ByteArray) (w:World) (h:Ss w v ss):
 Calls Tryz.prog 178 #[.agg #[.string r,v]] w (eA (if Nam.valid (nm r ss)=true then some (Nam.bytes (nm r ss)) else none) w):=by
 obtain⟨a,cap,rfl⟩:=h.form;have H:=aD h;clear h;have hn:=H.out.len;have hb0:=Hb.new w #[.string r,.slice a ss.length cap] 63;have z0:=hb0.cell (i:=0) rfl;have z1:=hb0.cell (i:=1) rfl;generalize hR:(if Nam.valid (nm r ss)=true then some (Nam.bytes (nm r ss)) else none)=R;have HR:=aD hR;clear hR;go_enter Tryz.func178,Tryz.ntmps178;go_wp2_with (go_at_call 234;refine(qK r hr _ ss _ (H.out.only (aG (aE _ _) _))).mono ?_);rintro e w1 ⟨rfl,h1⟩;have hb1:=hb0.only h1;have g1:=aF (aG (aE w none) _) h1;clear h1 hb0 z0 z1
 cases hv:Nam.valid (nm r ss)
 ·have E1:none=R:=by have:=HR.out;rw[hv] at this;exact this
  go_wp2_with fail;go_ret2;exact⟨aB g1,.inl ⟨E1.symm,rfl⟩⟩
 obtain⟨hw,h1s,h8,hall⟩:=mC hv;have E1:=aD (show some (Nam.bytes (nm r ss))=R by have:=HR.out;rw[if_pos hv] at this;exact this);clear HR;have HBY:=aD (yQ r ss);have hlen:=Nam.bytes_len hv;generalize Nam.bytes (nm r ss)=BB at HBY hlen E1;have HA:=aD hall;clear hall hv;have hrz:=(Nam.word_len hw).2;rw[bZ] at hrz;have z0:=hb1.cell (i:=0) rfl;obtain⟨vr,w2,hcv,hbr,hb2⟩:=oF r w1 (by omega);have hps:=iE (bl r) (by rw[bZ];omega);have hb22:Hb w2 w.heap.size #[.string r,.slice a ss.length cap] 63:=hb1.only (aC hb2 none);go_wp2_with (go_at_call 235;refine(string_put 1 vr _ _ hbr.rs (by omega) (by rw[Nam.toN_length,bZ];omega)).mono ?_);rintro e w3 ⟨hb3,ht⟩;rw[hps] at ht;rcases ht with ⟨hno,_⟩|⟨l0,u0,hl0,rfl,o0⟩
 ·cases hno
 cases hl0
 have hb33:=hb22.only (aC hb3 none);have g3:=aF g1 (aF (aC hb2 none) (aC hb3 none));have O0:=o0.mono (base':=w.heap.size) (Nat.le_trans g1.size hb2.size);clear hcv hbr hb1 hb22 hb2 hb3 g1 hps z0 o0;have z1:=hb33.cell (i:=1) rfl;have hpn:=pK ss.length (by omega);go_wp2_with (go_at_call 181;refine(dW 1 ss.length _ (by omega) (by omega) (by omega)).mono ?_)
 all_goals first|omega|skip
 rintro e w4 ⟨hb4,ht⟩;rw[show(((1:Nat):Int))=1 from rfl,hpn] at ht;rcases ht with ⟨hno,_⟩|⟨l1,u1,hl1,rfl,o1⟩
 ·cases hno
 cases hl1
 have hb44:=hb33.only (aC hb4 none);have g4:=aF g3 (aC hb4 none);have O1:=o1.mono (base':=w.heap.size) g3.size;have O0:=O0.below hb4;obtain⟨a0,e0,rfl⟩:=O0.form;obtain⟨a1,e1,rfl⟩:=O1.form;have O1:Own w4 w.heap.size (.slice a1 1 e1) [ss.length]:=O1;have OB:=aD (aGA O0 O1 g4.size);have hb55:=hb44.alloc (.cells #[.slice a0 (Nam.sized (bl r)).length e0,.slice a1 1 e1] 39);have z5:=hb55.cell (i:=1) rfl;clear o1 hb33 z1 hb4 hpn g3;go_wp2_with fail
 go_loopw [37,8] (fun x y wr=>∃(j:Nat) (vs:List Value),x= .int .i64 j∧j≤ss.length∧vs.length=j+2∧OwnB wr w.heap.size y vs (Nam.sized (bl r)::[ss.length]::part (ss.take j))∧w.grownBy wr none) (fun x _ _=>ss.length - (intOf x).toNat)
 case atStart=>exact⟨0,_,rfl,Nat.zero_le _,rfl,OB.out,aG g4 _⟩
 case round=>
  obtain⟨j,vs,rfl,hj,hvs,ob,hg⟩:=hrel;obtain⟨ya,yc,rfl⟩:=ob.form;clear O0 O1 OB hb55 z5 hb44 g4;have hv1:vs.length≤12:=by omega
  have HVS:=aD hvs;clear hvs
  by_cases hjl:j<ss.length
  ·obtain⟨b,off,rfl,hc⟩:=(H.out.only hg).at hjl
   have hwj:=qY HA.out hjl;have HT:=aD (kI ss j hjl);generalize ss.getD j ByteArray.empty=s at hc hwj HT;have hsz:=(Nam.word_len hwj).2;rw[bZ] at hsz;obtain⟨vt,w5,hcv,hbt,hb5⟩:=oF s wr (by omega);have hps:=iE (bl s) (by rw[bZ];omega);have ob5:=ob.below hb5;have g5:=aF hg (aC hb5 none);go_wp2_with (go_at_call 235;refine(string_put 1 vt _ _ hbt.rs (by omega) (by rw[Nam.toN_length,bZ];omega)).mono ?_)
   all_goals first|omega|skip
   rintro e w6 ⟨hb6,ht⟩;rw[hps] at ht;rcases ht with ⟨hno,_⟩|⟨l2,u2,hl2,rfl,o2⟩
   ·cases hno
   cases hl2
   have ob6:=ob5.below hb6;have g6:=aF g5 (aC hb6 none);have O2:=o2.mono (base':=w.heap.size) g5.size;obtain⟨a2,c2,rfl⟩:=O2.form;clear hcv hbt hps ob5 ob o2 hb5 hb6;have hs6:=g6.size;go_wp2_with (at_builtin;go_must (refine lP rfl _ _ rfl w.heap.size (.slice ya vs.length yc) vs _ rfl (ob6.alloc _) w6.heap.size (.slice a2 (Nam.sized (bl s)).length c2) _ (O2.alloc _) rfl (d7 _ _ _ 0 _ rfl) (by omega) (Nat.le_trans hs6 (by simp)) ?_;intro a7 c7 w7 hown7 hgr7))
   all_goals first|omega|skip
   go_roundw
   case rel=>
    refine⟨j+1,vs++[.slice a2 (Nam.sized (bl s)).length c2],by go_num,by omega,by simp[HVS.out],?_,?_⟩
    ·rw[HT.out];unfold part at hown7 ⊢;simpa using hown7
    ·exact aC (aP (aB (aG g6 _)) (Nat.le_refl _) hgr7 (fun g hg'=>(ob6.lt g hg').1)) none
   case measure=>simp[intOf];omega
  ·have hje:j=ss.length:=by omega
   subst hje;rw[List.take_length] at ob;have hbss:=ob.bss;have hjl2:(Wir.join (Nam.sized (bl r)::[ss.length]::part ss)).length≤140737488355328:=by rw[←HBY.out];omega
   go_wp2_with (go_at_call 179;refine(iW _ _ _ hbss hjl2).mono ?_)
   all_goals first|omega|skip
   rintro e w9 ⟨u9,rfl,o9,hb9⟩;go_wp2_with fail;go_ret2;rw[←HBY.out] at o9;exact⟨aB (aF hg (aC hb9 none)),.inr ⟨BB,u9,E1.out.symm,rfl,o9.mono hg.size⟩⟩
end Go.Proofs.YtcoolgnlhheaiaaGreatDoor
namespace Go.Proofs.YtcoolgnlhheaiaaGreatDoor
open Go.RowKit Go.Deep
set_option linter.all false
set_option maxRecDepth 100000
set_option maxHeartbeats 4000000
theorem wS (s:ByteArray):Lib.strCells s=(Nam.toN (bl s)).map bv:=by
 unfold Lib.strCells Nam.toN bl;simp[bv]
theorem fO {w:World} {ops:Array Oper} {rest:List Oper} {o:Oper} {a:Act} {Q:Exit→Act→World→Prop} (hgd:o.guard=none) (sl x:Operand)
 (ho:o.op= .call { callee:=.builtin .append,args:=#[sl,x],argTypes:=#[39,9]})
 (base:Nat) (v:Value) (l:List Nat) (hs:a.eval sl=v) (hown:Own w base v l) (s:ByteArray) (hx:a.eval x= .string s) (hbytes:l.length+s.size≤140737488355328) (hbase:base≤w.heap.size)
 (h:∀v' w',Own w' base v' (l++Nam.toN (bl s))→w.grownBy w' v.ownBlock→wpList Tryz.prog ops Q rest (a.put o.dst v') w'):wpList Tryz.prog ops Q (o::rest) a w:=by
 obtain⟨i0,hi,hz0,hz1,hz2⟩:=info_parts dC;refine Lib.wpList_append_own_string w hgd sl x 39 9 ho base 5 i0 Tryz.underlying39 Tryz.underlying9 hi hz0 hz1 hz2 v l.length (l.map bv) hs hown.2 s hx (by unfold maxLen;omega) hbytes hbase ?_;intro v' w' h3 h4 _;refine h v' w' ⟨hown.1.append (Nam.toN_all _),?_⟩ h4;rw[List.length_append,List.map_append,←wS,Nam.toN_length,bZ];exact h3
theorem pG (ss:List ByteArray) (j:Nat):(part (ss.take j)).flatten.length≤(part ss).flatten.length:=by
 have e:part ss=part (ss.take j)++part (ss.drop j):=by unfold part;rw[←List.map_append,List.take_append_drop]
 rw[e,List.flatten_append,List.length_append];exact Nat.le_add_right _ _
theorem zC (_r:ByteArray) (ss:List ByteArray) (j:Nat) (h:j<ss.length):(part (ss.take (j+1))).flatten=(part (ss.take j)).flatten++Nam.sized (bl (ss.getD j ByteArray.empty)):=by
 rw[kI ss j h];unfold part;simp
theorem jC {w w2 w3:World} {o:Option Nat} (h:w.grownBy w2 none) (k:w2.grownBy w3 o) (ho:∀g,o=some g→w.heap.size≤g):w.grownBy w3 none:=
 ⟨k.os.trans h.os,k.tape.trans h.tape,k.output.trans h.output,Nat.le_trans h.size k.size,fun i hi _=>(k.block i (Nat.lt_of_lt_of_le hi h.size) (fun e=>by have:=ho i e.symm;omega)).trans (h.block i hi (by simp))⟩
theorem gR (r:ByteArray) (v:Value) (ss:List ByteArray) (w:World) (h:Ss w v ss) (hv:Nam.valid (nm r ss)=true):
 Calls Tryz.prog 100 #[.agg #[.string r,v]] w (cG (Nam.bytes (nm r ss)) w):=by
 obtain⟨a,cap,rfl⟩:=h.form;have H:=aD h;clear h;have hn:=H.out.len;obtain⟨hw,h1s,h8,hall⟩:=mC hv;have HA:=aD hall;clear hall;have hrz:=(Nam.word_len hw).2;rw[bZ] at hrz;have HB:=aD (show Nam.bytes (nm r ss)=Nam.sized (bl r)++ss.length::(part ss).flatten by unfold Nam.bytes nm part;simp[List.map_map,Function.comp_def]);have hlen:=Nam.bytes_len hv;generalize Nam.bytes (nm r ss)=BB at HB hlen ⊢;have hb0:=Hb.new w #[.string r,.slice a ss.length cap] 63;have z0:=hb0.cell (i:=0) rfl;go_enter Tryz.func100,Tryz.ntmps100;have O0:=bL (w.alloc (.cells #[.string r,.slice a ss.length cap] 63)) (w.heap.size+1) [r.size] (AllB.one (by omega)) (by simp) (by simp);have hb1:=hb0.alloc (.cells #[bv r.size] 5);simp only[World.size_alloc] at O0;have hz2:w.heap.size+1≤((w.alloc (.cells #[.string r,.slice a ss.length cap] 63)).alloc (.cells #[bv r.size] 5)).heap.size:=by simp
 have gA:=aG (aG (aE w none) (.cells #[.string r,.slice a ss.length cap] 63)) (.cells #[bv r.size] 5)
 go_wp2_with (first
  |(at_builtin;refine fO rfl _ _ rfl (w.heap.size+1) (.slice (some ⟨w.heap.size+1,0,none⟩) 1 1) [r.size] rfl O0 r rfl (by simp;omega) hz2 ?_;intro v2 w2 o2 h2;have hb2:=hb1.keep h2 (O0.apart (Nat.lt_succ_self _));have z2:=hb2.cell (i:=1) rfl;have hs2:=h2.size)
  |(at_builtin;go_must (refine bW rfl _ _ rfl (w.heap.size+1) v2 _ rfl (o2.alloc _) _ [ss.length] rfl (bL w2 0 [ss.length] (AllB.one (by omega)) (Nat.zero_le _) (by simp)).bs (by simp[Nam.toN_length];omega) (Nat.le_trans hz2 (Nat.le_trans hs2 (by simp))) ?_;intro v3 w3 o3 h3;have hb3:=(hb2.alloc (.cells #[bv ss.length] 5)).keep h3 (o2.apart (Nat.lt_succ_self _));have z3:=hb3.cell (i:=1) rfl;have hs3:=h3.size)))
 have g2:w.grownBy w2 none:=jC gA h2 (fun g hg=>by have:=(O0.lt g hg).1;omega);have g3:w.grownBy w3 none:=jC (aG g2 (.cells #[bv ss.length] 5)) h3 (fun g hg=>by have:=(o2.lt g hg).1;omega);clear hb0 z0 hb1 O0 gA hb2 z2 z3 h2 h3 hs2 hs3
 go_loopw [3,4] (fun x y wr=>∃j:Nat,y= .int .i64 j∧j≤ss.length∧Own wr (w.heap.size+1) x (Nam.sized (bl r)++ss.length::(part (ss.take j)).flatten)∧Hb wr w.heap.size #[.string r,.slice a ss.length cap] 63∧w.grownBy wr none) (fun _ y _=>ss.length - (intOf y).toNat)
 case atStart=>exact⟨0,rfl,Nat.zero_le _,by simpa [Nam.sized,bZ,part] using o3,hb3,g3⟩
 case round=>
  obtain⟨j,rfl,hj,own,hb,hg⟩:=hrel;clear o2 o3 hb3 g3;have c1:=hb.cell (i:=1) rfl;obtain⟨ya,yc,rfl⟩:=own.form;have hpl:(Nam.sized (bl r)++ss.length::(part (ss.take j)).flatten).length≤910:=by
   have h1:=pG ss j;have h2:=hlen;rw[HB.out] at h2;simp only[List.length_append,List.length_cons] at h2 ⊢;omega
  generalize hL:Nam.sized (bl r)++ss.length::(part (ss.take j)).flatten=L at*;have HL:=aD hL;clear hL
  by_cases hjl:j<ss.length
  ·obtain⟨b,off,rfl,hc⟩:=(H.out.only hg).at hjl
   have HT:=aD (zC r ss j hjl);have hwj:=qY HA.out hjl;generalize ss.getD j ByteArray.empty=s at hc hwj HT;have hsz:=(Nam.word_len hwj).2;rw[bZ] at hsz;have hbg:b<w.heap.size:=by
    obtain⟨b',off',e',hc'⟩:=H.out.at hjl
    cases e'
    exact World.block_lt_of_cell? w _ hc'
   have hsw:=hg.size;have ownd:Own wr.drew (w.heap.size+1) (.slice ya L.length yc) L:=own;have hbd:Hb wr.drew w.heap.size #[.string r,.slice (some ⟨b,off,none⟩) ss.length cap] 63:=hb;have hgd:w.grownBy wr.drew none:=⟨hg.os,hg.tape,hg.output,hg.size,hg.block⟩;have hcd:wr.drew.cell? ⟨b,off+j,none⟩=some (.string s):=hc;have c1d:=hbd.cell (i:=1) rfl;have hwrap:IntKind.u8.wrap (s.size:Int)=(s.size:Int):=by simp[IntKind.wrap,IntKind.bits,IntKind.signed];omega
   have hlit:Bs (wr.drew.alloc (.cells #[.int .u8 (IntKind.u8.wrap (s.size:Int))] 5)) (.slice (some ⟨wr.drew.heap.size,0,none⟩) 1 1) [s.size]:=by rw[hwrap];exact(bL wr.drew 0 [s.size] (AllB.one (by omega)) (Nat.zero_le _) (by simp)).bs
   have HW:=aD hwrap;clear hwrap;have c1e:(wr.alloc (.cells #[.int .u8 (IntKind.u8.wrap (s.size:Int))] 5)).cell? ⟨w.heap.size,1,none⟩=some (.slice (some ⟨b,off,none⟩) ss.length cap):=(hb.alloc _).cell (i:=1) rfl;have hce:(wr.alloc (.cells #[.int .u8 (IntKind.u8.wrap (s.size:Int))] 5)).cell? ⟨b,off+j,none⟩=some (.string s):=by rw[World.cell?_alloc_lt _ _ _ (show b<wr.heap.size by omega),hc]
   have HWB:=aD hb.lt;go_wp2_with fail
   go_region_law (first
    |(refine aF9 rfl ?_;refine bW rfl _ _ rfl (w.heap.size+1) (.slice ya L.length yc) L rfl (ownd.alloc _) _ [s.size] rfl hlit (by simp;omega) (Nat.le_trans HWB.out (by simp)) ?_;intro v5 w5 o5 h5;have hb5:=(hbd.alloc (.cells #[.int .u8 (IntKind.u8.wrap (s.size:Int))] 5)).keep h5 (own.apart (Nat.lt_succ_self _));have x5:=hb5.cell (i:=1) rfl;have g5:=jC (aG hgd (.cells #[.int .u8 (IntKind.u8.wrap (s.size:Int))] 5)) h5 (fun g hg=>by have:=(own.lt g hg).1;omega);have hc5:w5.cell? ⟨b,off+j,none⟩=some (.string s):=((aB g5).cell (p:=⟨b,off+j,none⟩) hbg).trans (((aB hg).cell (p:=⟨b,off+j,none⟩) hbg).symm.trans hc);have hs5:=h5.size;refine bH ?_)
    |(refine aF9 rfl ?_;refine fO rfl _ _ rfl (w.heap.size+1) v5 _ rfl o5 s rfl (by simp;omega) (Nat.le_trans HWB.out (Nat.le_trans (by simp) h5.size)) ?_;intro v6 w6 o6 h6;have hb6:=hb5.keep h6 (o5.apart (Nat.lt_succ_self _));have g6:=jC g5 h6 (fun g hg=>by have:=(o5.lt g hg).1;omega);refine bH ?_))
   all_goals (
    go_wp2_with fail;go_roundw
    case rel=>
     refine⟨j+1,by go_num,hjl,?_,hb6,g6⟩;rw[HT.out,←List.cons_append,←List.append_assoc,HL.out];have e:L++Nam.sized (bl s)=L++[s.size]++Nam.toN (bl s):=by simp[Nam.sized]
     rw[e];exact o6
    case measure=>simp[intOf];omega)
  ·have hje:j=ss.length:=by omega
   subst hje;rw[List.take_length,←HB.out] at HL;have hLB:=HL.out;go_wp2_with fail;go_ret;exact⟨_,rfl,by rw[hLB];exact own.mono (Nat.le_succ _),aB hg⟩
end Go.Proofs.YtcoolgnlhheaiaaGreatDoor
namespace Go.Proofs.YtcoolgnlhheaiaaGreatDoor
open Go.RowKit Go.Deep
set_option linter.all false
set_option maxRecDepth 100000
set_option maxHeartbeats 4000000
theorem dA {P:Program} {fn:Func} {p q u:Tmp} {ty tz:TypeId} (h:fn.results=#[.cell p ty,.cell q tz,.tmp u]) (tmps:Array Value) (w:World) (g k:Nat) (t t':TypeId) (cs ds:Array Value) (fr fs:Nat×Nat) (d d':TypeDesc)
 (hp:tmps.getD p undef= .pointer (some ⟨g,0,none⟩)) (hg:w.heap[g]? =some (.cells cs t fr))
 (hu:P.underlying ty=some d) (hd:(match d with| .struct _| .array _ _=>true|_=>false)=true) (hi:(P.info? ty).map (·.size)=some cs.size)
 (hq:tmps.getD q undef= .pointer (some ⟨k,0,none⟩)) (hk:w.heap[k]? =some (.cells ds t' fs))
 (hu':P.underlying tz=some d') (hd':(match d' with| .struct _| .array _ _=>true|_=>false)=true) (hi':(P.info? tz).map (·.size)=some ds.size):
 (results fn tmps).run P w= .ok (.tuple #[.agg cs,.agg ds,tmps.getD u undef]) w:=by
 have hp':tmps[p]?.getD undef= .pointer (some ⟨g,0,none⟩):=by simpa using hp
 have hq':tmps[q]?.getD undef= .pointer (some ⟨k,0,none⟩):=by simpa using hq
 simp[results,h,hp',hq',asAddr,run_loadVar_row w g t ty cs fr d hg hu hd hi,run_loadVar_row w k t' tz ds fs d' hk hu' hd' hi']
theorem qI:∀(k:Nat) (r:Wir.R) (ps:List Nam.W),(Nam.loopR k r ps).1.l.length≤r.l.length
 |0,_,_=>Nat.le_refl _
 |k+1,_r,_ps=>Nat.le_trans (qI k _ _) jM
end Go.Proofs.YtcoolgnlhheaiaaGreatDoor
namespace Go.Proofs.YtcoolgnlhheaiaaGreatDoor
open Go.RowKit Go.Deep
set_option linter.all false
set_option maxRecDepth 100000
set_option maxHeartbeats 4000000
theorem nM:∀{ss tt:List ByteArray},ss.map bl=tt.map bl→ss=tt
 |[],[],_=>rfl
 |[],_::_,h=>by simp at h
 |_::_,[],h=>by simp at h
 |a::ss,b::tt,h=>by
  simp only[List.map_cons,List.cons.injEq] at h;rw[xT h.1,nM h.2]
theorem aJF {r q:ByteArray} {ss tt:List ByteArray}:nm r ss=nm q tt↔r=q∧ss=tt:=by
 unfold nm;constructor
 ·intro h
  injection h with h1 h2
  exact⟨xT h1,nM h2⟩
 ·rintro⟨rfl,rfl⟩;rfl
end Go.Proofs.YtcoolgnlhheaiaaGreatDoor
