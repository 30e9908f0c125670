import Derived.Deep.AppendSrc
import Derived.Laws.BytesArg
import Derived.Lib.AppendStr
import Derived.Test.YtcoolgnlhheaiaaGreatDoorG01
import Derived.Test.YtcoolgnlhheaiaaGreatDoorG06
namespace Go.Proofs.YtcoolgnlhheaiaaGreatDoor
open Go.RowKit Go.Deep
set_option linter.all false
set_option maxRecDepth 100000
set_option maxHeartbeats 4000000
theorem aGS:(Tryz.prog.info? 39).map (fun i=>(i.zero,i.size,i.bytes))=some (some (.slice none 0 0),1,24):=by kernel_rfl
theorem jS {w:World} {ops:Array Oper} {rest:List Oper} {o:Oper} {a:Act} {Q:Exit→Act→World→Prop} (hgd:o.guard=none) (s x:Operand)
 (ho:o.op= .call { callee:=.builtin .append,args:=#[s,x],argTypes:=#[197,197]})
 (g:Nat) (u:Value) (l:List Nat) (hs:a.eval s= .slice (some ⟨g,0,none⟩) 1 1) (hc:w.cell? ⟨g,0,none⟩=some u) (hu:Rs w u l)
 (v:Value) (ll:List (List Nat)) (hx:a.eval x=v) (hb:Bss w v ll) (hlen:ll.length≤1000000)
 (h:∀v' w',Bss w' v' (l::ll)→Below w.heap.size w w'→wpList Tryz.prog ops Q rest (a.put o.dst v') w'):wpList Tryz.prog ops Q (o::rest) a w:=by
 obtain⟨i0,hi,hz0,hz1,hz2⟩:=info_parts aGS;obtain⟨ad,cap,rfl,h63,hcells⟩:=hb
 by_cases hll:ll=[]
 ·subst hll
  have hS:Go.Src Tryz.prog i0.size 197 (.slice ad 0 cap) 0 [] w:=by
   cases ad with
   |none=>exact Go.Src.ofNil w (e':=39) Tryz.underlying197 cap
   |some q=>exact Go.Src.ofSlice w (e':=39) Tryz.underlying197 q 0 cap [] (by simp) (by simp) (by simp)
  have hr:=run_append_room_src (P:=Tryz.prog) w 197 197 o.type 39 i0 Tryz.underlying197 hi g 0 1 1 (.slice ad 0 cap) 0 [] hS (by omega) (by simp) (by simp);have e0:w.setCells g (0+1*i0.size) []=w:=by simp[World.setCells]
  rw[e0] at hr;refine wpList_plain hgd fun K hK=>?_
  unfold Oper.wp execOp;simp only[ho,resolve,invoke,builtin,Sem.run_bind,Sem.run_pure,Result.andThen_ok,List.map_toArray,List.map_cons,List.map_nil,hs,hx,List.length_nil,hr];refine hK _ _ (h _ _ ⟨some ⟨g,0,none⟩,1,rfl,by simp,fun _=>⟨g,0,rfl,fun i hi'=>?_⟩⟩ (Below.refl _ _));obtain rfl:i=0:=by simp at hi';omega
  exact⟨u,hc,hu⟩
 ·obtain⟨b,off,rfl,hcs⟩:=hcells hll
  obtain⟨us,hus⟩:∃us,us=(List.range ll.length).map fun i=>(w.cell? ⟨b,off+i,none⟩).getD (.bool false):=⟨_,rfl⟩
  have hul:us.length=ll.length:=by rw[hus];simp
  have hug:∀i,i<ll.length→∃y,us[i]? =some y∧w.cell? ⟨b,off+i,none⟩=some y∧Rs w y (ll.getD i []):=by
   intro i hi';obtain⟨y,h1,h2⟩:=hcs i hi';refine⟨y,?_,h1,h2⟩;rw[hus];simp[hi',h1]
  have hnews:∀j y,us[j]? =some y→w.cell? ((⟨b,off,none⟩:Addr).add j)=some y:=by
   intro j y hj;have hjl:j<ll.length:=by
    rcases Nat.lt_or_ge j ll.length with h'|h'
    ·exact h'
    ·rw[List.getElem?_eq_none (by omega)] at hj;cases hj
   obtain⟨y',h1,h2,_⟩:=hug j hjl;rw[hj] at h1
   cases h1
   rw[Addr.add_lit];exact h2
  have hpos:0<ll.length:=List.length_pos_iff.2 hll;have holds:∀j y,[u][j]? =some y→w.cell? ((⟨g,0,none⟩:Addr).add j)=some y:=by
   intro j y hj
   match j with
   |0=>simp at hj;subst hj;exact hc
   |j+1=>simp at hj
  have hr:=run_append_grow (P:=Tryz.prog) w 197 o.type 39 i0 (.slice none 0 0) Tryz.underlying197 hi hz0 ⟨g,0,none⟩ 1 1 [u] (by simp[hz1]) holds ⟨b,off,none⟩ ll.length cap us (by rw[hul,hz1];omega) hnews (by omega) (by omega) (growslice_fits (by omega) (by rw[hz2];omega));refine wpList_plain hgd fun K hK=>?_
  unfold Oper.wp execOp;simp only[ho,resolve,invoke,builtin,Sem.run_bind,Sem.run_pure,Result.andThen_ok,List.map_toArray,List.map_cons,List.map_nil,hs,hx,hr];generalize grownCap w (1+ll.length) 1 39=gc;have hbel:∀o',Below w.heap.size w ((w.drewN 1).alloc o'):=fun o'=>(aU (Below.refl _ _) 1).alloc (Nat.le_refl _) o'
  refine hK _ _ (h _ _ ⟨some ⟨w.heap.size,0,none⟩,_,by rw[List.length_cons,Nat.add_comm],by rw[List.length_cons];omega,fun _=>⟨w.heap.size,0,rfl,fun i hi'=>?_⟩⟩ (hbel _));rw[List.length_cons] at hi';rw[Nat.zero_add]
  match i with
  |0=>exact⟨u,d7 (w.drewN 1) _ _ 0 u (by rw[Array.getElem?_append_left (by simp)];simp),hu.below (hbel _)⟩
  |i+1=>
   obtain⟨y,h1,h2,h3⟩:=hug i (by omega);refine⟨y,d7 (w.drewN 1) _ _ (i+1) y ?_,h3.below (hbel _)⟩;have:i<us.length:=by omega
   rw[List.getElem?_eq_getElem this] at h1;have h1':=Option.some.inj h1;rw[Array.getElem?_append_left (by simp;omega)];simp[this,h1']
theorem iS {w:World} {b n:Nat} {t:TypeId} {f:Nat→Nat} (h:isArr w b t .u8 n f) (hf:∀i,i<n→f i<256) (hn:n≤9223372036854775807):Rs w (.slice (some ⟨b,0,none⟩) n n) ((List.range n).map f):=by
 refine⟨fun x hx=>?_,by simpa using hn,.inr ⟨⟨b,0,none⟩,n,by rw[List.length_map,List.length_range],by rw[List.length_map,List.length_range];exact⟨Nat.le_refl _,hn⟩,fun i hi=>?_⟩⟩
 ·obtain⟨i,hi,rfl⟩:=List.mem_map.1 hx
  exact hf i (by simpa using hi)
 ·have hi':i<n:=by simpa using hi
  rw[Addr.add_lit,Nat.zero_add,h.cell hi'];simp[List.getD,hi',bv]
namespace Mac
def fr (p:Nat→Nat) (x:Nat):List Nat:=(List.range 64).map fun i=>p i ^^^ x
theorem fr_length (p:Nat→Nat) (x:Nat):(fr p x).length=64:=by simp[fr]
end Mac
def FrInv (p:Nat→Nat) (x bf:Nat) (w wr:World) (j:Nat):Prop:=isArr wr bf 191 .u8 64 (fun t=>if t<j then p t ^^^ x else p t)∧Below w.heap.size w wr
theorem FrInv.set {p:Nat→Nat} {x bf:Nat} {w wr:World} {j:Nat} (h:FrInv p x bf w wr j) (hb:w.heap.size≤bf):FrInv p x bf w (wr.setCell ⟨bf,j,none⟩ (.int .u8 (p j ^^^ x:Nat))) (j+1):=by
 refine⟨(h.1.set j _).congr fun t _=>?_,bM h.2 hb _ _⟩
 by_cases e:t=j
 ·subst e;simp
 ·rw[if_neg e]
  by_cases e2:t<j
  ·rw[if_pos e2,if_pos (by omega)]
  ·rw[if_neg e2,if_neg (by omega)]
theorem vC (p:Nat→Nat) (x bp:Nat) (v:Value) (ll:List (List Nat)) (w:World) (hx:x<256) (hp:isArr w bp 191 .u8 64 p) (hp8:∀i,i<64→p i<256)
 (hb:Bss w v ll) (hlen:(Wir.join ll).length≤140737488354000) (hn:ll.length≤1000000) (hK:Consts w Sha.tab):
 Calls Tryz.prog 286 #[.int .u8 x,v,.pointer (some ⟨bp,0,none⟩)] w fun e w'=>e= .returned (.agg (aH .u8 32 (Sha.dig (Mac.fr p x++Wir.join ll))))∧Below w.heap.size w w':=by
 have HK:=aD hK;clear hK;have HB:=aD hb;clear hb;have hx8:∀y:Nat,y<256→bits BinOp.xor IntKind.u8 ↑y ↑x=((y ^^^ x:Nat):Int):=fun y hy=>u8_xor_nat _ _ hy hx
 have hi64:∀f,((Tryz.prog).info? 191).map (·.size)=some (aH .u8 64 f).size:=by intro f;rw[aA];rfl
 go_enter Tryz.func286,Tryz.ntmps286;have hal:∀o1 o2:Obj,((w.alloc o1).alloc o2).heap[w.heap.size+1]? =some o2:=fun o1 o2=>by
  have:=heap_alloc_new (w.alloc o1) o2
  simpa using this
 go_upto_region 2 with (first|refine wpList_load_row rfl _ _ rfl bp rfl _ _ (0,0) _ (hp.alloc _) rfl rfl (hi64 _) ?_|(refine wpList_store_rowTo rfl _ _ _ rfl rfl (w.heap.size+1) _ rfl rfl _ _ (hal _ _) (hi64 _) (by rw[aA];rfl) (aL _ _ _) ?_;generalize hV:World.setRow _ (w.heap.size+1) _=V));obtain⟨U,hUV,hUs,hUb,hUr⟩:∃U:World,Below U.heap.size U V∧U.heap.size=w.heap.size+1∧Below w.heap.size w U∧∃c:Array Value,U.heap[w.heap.size]? =some (.cells c 35 (0,0))∧c.size=32:=by
  rw[←hV];exact⟨w.alloc _,below_setRow ((Below.refl _ _).alloc (Nat.le_refl _) _) (by simp) _,by simp,(Below.refl _ _).alloc (Nat.le_refl _) _,_,heap_alloc_new _ _,rfl⟩
 have hI:FrInv p x (w.heap.size+1) U V 0:=by
  refine⟨?_,hUV⟩;rw[←hV];refine isArr.congr (setRow_heap _ _ _ _ _ _ (hal _ _)) fun i _=>?_
  rw[if_neg (Nat.not_lt_zero _)]
 have I:=aD hI;have HU:=aD (aQ hUs (aQ hUb hUr));have hbU:w.heap.size+1=U.heap.size:=hUs.symm;clear hV hI hUV hUs hUb hUr hal hp;rw[hbU] at I ⊢;clear hbU;go_wp2_with fail
 go_loopw [7,9] (fun _ i wr=>∃j:Nat,j≤64∧i= .int .i64 j∧FrInv p x U.heap.size U wr j) (fun _ i _=>64 - (intOf i).toNat)
 case atStart=>exact⟨0,by omega,rfl,I.out⟩
 case round=>
  clear I;obtain⟨j,hj,rfl,hO⟩:=hrel
  by_cases hlt:j<64
  ·have hd:decide ((j:Int)<64)=true:=by simp;omega
   have c0:=hO.1.cell (i:=j) hlt;rw[if_neg (Nat.lt_irrefl _)] at c0;have f0:=hO.1.frozen j;have O2:=aD (hO.set (Nat.le_refl _));have hpj:=hp8 j hlt;clear hO;generalize p j=y at c0 O2 hpj;go_wp2_with fail;go_roundw
   case rel=>
    refine⟨j+1,by omega,by go_num,?_⟩;exact O2.out
   case measure=>simp[intOf];omega
  ·obtain rfl:j=64:=by omega
   have hd:decide (((64:Nat):Int)<64)=false:=by decide
   clear hlt;have O:=aD hO;clear hO;have hwr:Below w.heap.size w wr:=HU.out.2.1.trans (O.out.2.mono (by have:=HU.out.1;omega));have hrs:Rs wr (.slice (some ⟨U.heap.size,0,none⟩) 64 64) (Mac.fr p x):=by
    refine iS (O.out.1.congr fun i hi=>if_pos hi) (fun i hi=>?_) (by omega);exact Nat.xor_lt_two_pow (n:=8) (hp8 i hi) hx
   have HW:=aD hwr;have HR:=aD hrs;clear hwr hrs;have hi32:∀f,((Tryz.prog).info? 35).map (·.size)=some (aH .u8 32 f).size:=by intro f;rw[aA];rfl
   have hj1:Wir.join (Mac.fr p x::ll)=Mac.fr p x++Wir.join ll:=rfl;have HJ:=aD hj1;clear hj1;have hal:∀o:Obj,Below wr.heap.size wr (wr.alloc o):=fun o=>(Below.refl _ _).alloc (Nat.le_refl _) o
   obtain⟨cres,e1,e2⟩:=HU.out.2.2;go_wp2_with (first|(at_builtin;go_must (refine jS rfl _ _ rfl wr.heap.size _ (Mac.fr p x) rfl (d7 _ _ _ 0 _ rfl) (HR.out.below (hal _)) _ ll rfl (HB.out.below (HW.out.trans ((hal _).mono HW.out.size))) hn ?_);intro v2 w2 hb2 hbel2)|(go_at_call 117;refine(rP v2 (Mac.fr p x::ll) w2 hb2 (by rw[HJ.out,List.length_append,Mac.fr_length];omega) (HK.out.below (HW.out.trans (((hal _).trans (hbel2.mono (by simp))).mono HW.out.size)))).mono ?_;rintro e w3 ⟨rfl,hb3⟩;have hk3:Below wr.heap.size wr w3:=((hal _).trans (hbel2.mono (by simp))).trans (hb3.mono (by have:=hbel2.size;simp at this;omega));have hres:=((O.out.2.trans (hk3.mono O.out.2.size)).block w.heap.size (by have:=HU.out.1;omega)).trans e1)|(refine wpList_store_row rfl _ _ _ rfl w.heap.size _ rfl rfl _ _ hres (hi32 _) (by rw[aA];exact e2) (aL _ _ _) ?_));exact bodyPost_ret (results_cell_row rfl _ _ w.heap.size _ _ (0,0) _ rfl (setRow_heap _ w.heap.size _ _ _ (0,0) hres) rfl rfl (hi32 _)) rfl ⟨by rw[HJ.out],below_setRow (HW.out.trans (hk3.mono HW.out.size)) (Nat.le_refl _) _⟩
end Go.Proofs.YtcoolgnlhheaiaaGreatDoor
namespace Go.Proofs.YtcoolgnlhheaiaaGreatDoor
open Go.RowKit Go.Deep
set_option linter.all false
set_option maxRecDepth 100000
set_option maxHeartbeats 4000000
theorem r8 (w:World) (g:Nat) (cs:Array Value):w.grownBy (w.setRow g cs) (some g):=l7 (aE w (some g)) cs
theorem dK {w:World} {ops:Array Oper} {rest:List Oper} {o:Oper} {a:Act} {Q:Exit→Act→World→Prop} (hgd:o.guard=none) (d s:Operand)
 (ho:o.op= .call { callee:=.builtin .copy,args:=#[d,s],argTypes:=#[39,39]}) (g n:Nat) (t:TypeId) (f:Nat→Nat) (hd:a.eval d= .slice (some ⟨g,0,none⟩) n n) (hg:isArr w g t .u8 n f)
 (x:Value) (l:List Nat) (hs:a.eval s=x) (hx:Rs w x l)
 (h:∀w',isArr w' g t .u8 n (fun i=>if i<l.length then l.getD i 0 else f i)→w.grownBy w' (some g)→wpList Tryz.prog ops Q rest (a.put o.dst (goInt (Nat.min l.length n))) w'):wpList Tryz.prog ops Q (o::rest) a w:=by
 obtain⟨i0,hi,hz0,hz1,hz2⟩:=info_parts dC;have hsz:(Tryz.prog.info? 5).map (·.size)=some 1:=by rw[hi];simp[hz1]
 by_cases h0:Nat.min l.length n=0
 ·obtain⟨xa,xc,rfl⟩:=hx.form
  refine wpList_copy_nothing hgd d s 39 39 ho 5 Tryz.underlying39 hsz _ _ _ _ _ _ hd hs h0 ?_
  have:=h w (hg.congr fun i hi=>by
   rw[if_neg];intro hlt;rcases Nat.le_total l.length n with h'|h'
   ·have:Nat.min l.length n=l.length:=Nat.min_eq_left h'
    omega
   ·have:Nat.min l.length n=n:=Nat.min_eq_right h'
    omega) (aE _ _)
  rw[h0] at this;exact this
 ·rcases hx.2.2 with ⟨rfl,rfl⟩|⟨ad,cap,rfl,_,hc⟩
  ·simp at h0
  ·obtain⟨m,hm⟩:∃m,m=Nat.min l.length n:=⟨_,rfl⟩
   have hm1:m≤l.length:=by rw[hm];exact Nat.min_le_left _ _
   have hm2:m≤n:=by rw[hm];exact Nat.min_le_right _ _
   have hm3:m=l.length∨m=n:=by rw[hm];rcases Nat.le_total l.length n with h|h;exact .inl (Nat.min_eq_left h);exact .inr (Nat.min_eq_right h)
   have hlen:(l.take m).length=m:=by rw[List.length_take];omega
   refine wpList_copy_own hgd d s 39 39 ho 5 Tryz.underlying39 hsz g 0 n n ad l.length cap hd hs (aH .u8 n f) t hg ((l.take m).map bv) (by rw[List.length_map,hlen,hm]) ?_ (by rw[List.length_map,hlen,aA];omega) ?_ ?_
   ·intro j v hj
    have hjm:j<m:=by
     rcases Nat.lt_or_ge j m with h'|h'
     ·exact h'
     ·rw[List.getElem?_eq_none (by rw[List.length_map,hlen];exact h')] at hj;cases hj
    rw[hc j (by omega)];rw[List.getElem?_map,List.getElem?_take,if_pos hjm,List.getElem?_eq_getElem (by omega)] at hj;simp[List.getD,show j<l.length by omega] at hj ⊢;exact hj
   ·intro v hv
    obtain⟨_,_,rfl⟩:=List.mem_map.1 hv;rfl
   ·have e:=sY n f 0 (l.take m) (by rw[hlen];omega)
    rw[List.length_map,e,hlen,hm];refine h _ ((show isArr _ g t .u8 n _ from setRow_heap w g _ _ _ (0,0) hg).congr fun i hi=>?_) (r8 w g _);rw[←hm]
    by_cases hil:i<l.length
    ·rw[if_pos hil,if_pos ⟨Nat.zero_le _,by omega⟩,Nat.sub_zero,jR _ _ _ (by omega)]
    ·rw[if_neg hil,if_neg (by omega)]
namespace Mac
def dl (l:List Nat):List Nat:=(List.range 32).map (Sha.dig l)
theorem dl_length (l:List Nat):(dl l).length=32:=by simp[dl]
def k0 (key:List Nat):List Nat:=if 64<key.length then dl key else key
def p0 (key:List Nat) (i:Nat):Nat:=(k0 key).getD i 0
def hm (key msg:List Nat):Nat→Nat:=Sha.dig (fr (p0 key) 92++dl (fr (p0 key) 54++msg))
theorem k0_all {key:List Nat} (h:AllB key):AllB (k0 key):=by
 unfold k0;split
 ·intro x hx
  obtain⟨i,_,rfl⟩:=List.mem_map.1 hx;exact Sha.dig_lt _ _
 ·exact h
theorem p0_lt {key:List Nat} (h:AllB key) (i:Nat):p0 key i<256:=(k0_all h).get i
theorem p0_pad (key:List Nat) (i:Nat):(if i<(k0 key).length then (k0 key).getD i 0 else 0)=p0 key i:=by
 unfold p0;split
 ·rfl
 ·rename_i h
  simp[List.getD,List.getElem?_eq_none (show(k0 key).length≤i by omega)]
end Mac
theorem gX (p:Nat→Nat) (xi:Int) (x bp:Nat) (v:Value) (ll:List (List Nat)) (w:World) (e:xi=(x:Int)) (hx:x<256) (hp:isArr w bp 191 .u8 64 p) (hp8:∀i,i<64→p i<256)
 (hb:Bss w v ll) (hlen:(Wir.join ll).length≤140737488354000) (hn:ll.length≤1000000) (hK:Consts w Sha.tab):
 Calls Tryz.prog 286 #[.int .u8 xi,v,.pointer (some ⟨bp,0,none⟩)] w fun e w'=>e= .returned (.agg (aH .u8 32 (Sha.dig (Mac.fr p x++Wir.join ll))))∧Below w.heap.size w w':=by
 subst e;exact vC p x bp v ll w hx hp hp8 hb hlen hn hK
attribute [local irreducible] wpAnyH in
theorem nS (key:List Nat) (kv v:Value) (ll:List (List Nat)) (w:World) (hk:Rs w kv key) (hkl:key.length≤140737488354000) (hb:Bss w v ll) (hlen:(Wir.join ll).length≤140737488354000) (hn:ll.length≤1000000) (hK:Consts w Sha.tab):
 Calls Tryz.prog 264 #[kv,v] w fun e w'=>e= .returned (.agg (aH .u8 32 (Mac.hm key (Wir.join ll))))∧Below w.heap.size w w':=by
 have HK:=aD hK;clear hK;have HB:=aD hb;clear hb;have HQ:=aD hk;obtain⟨ka,kcap,rfl⟩:=hk.form;have hall:=aD hk.all;clear hk;obtain⟨m,hm⟩:∃m,m=key.length:=⟨_,rfl⟩;rw[←hm] at HQ hkl ⊢;have HM:=aD hm;clear hm;have hi32:∀f,((Tryz.prog).info? 35).map (·.size)=some (aH .u8 32 f).size:=by intro f;rw[aA];rfl
 go_enter Tryz.func264,Tryz.ntmps264;go_upto_region 2 with fail;generalize hU:(w.alloc _).alloc _=U;have hUs:U.heap.size=w.heap.size+2:=by rw[←hU];simp
 have hUb:Below w.heap.size w U:=by rw[←hU];exact((Below.refl _ _).alloc (Nat.le_refl _) _).alloc (by simp) _
 have hUr:∃c:Array Value,U.heap[w.heap.size]? =some (.cells c 35 (0,0))∧c.size=32:=by
  rw[←hU];exact⟨_,(Below.heap_alloc _ _ _ (by simp)).trans (heap_alloc_new _ _),rfl⟩
 have hUp:isArr U (w.heap.size+1) 191 .u8 64 (fun _=>0):=by
  have e:w.heap.size+1=(w.alloc (.cells (Array.replicate 32 (.int .u8 0)) 35)).heap.size:=by simp
  rw[←hU,e];exact cM _ _ _ _ _ (Array.replicate 64 (.int .u8 0)) (by simp) (fun i hi=>dG _ _ _ hi)
 clear hU;obtain⟨gp,hgp⟩:∃gp,gp=w.heap.size+1:=⟨_,rfl⟩;rw[←hgp] at hUp ⊢;have HU:=aD (aQ hUs (aQ hUb (aQ hUr (aQ hUp hgp))));clear hUs hUb hUr hUp hgp
 by_cases hlong:64<m
 ·have hd:decide ((64:Int)<(m:Int))=true:=by simp;omega
  go_upto_region 4 with (first|(go_at_call 117;go_must (refine(rP _ [key] _ (r9 (HM.out▸HQ.out.below HU.out.2.1)) (by simp[Wir.join];have:=HM.out;omega) (HK.out.below (HU.out.2.1.alloc HU.out.2.1.size _))).mono ?_;rintro e w1 ⟨rfl,hb1⟩))|(refine wpList_store_rowTo rfl _ _ _ rfl rfl w1.heap.size _ rfl rfl _ _ (heap_alloc_new _ _) (hi32 _) (by rw[aA];rfl) (aL _ _ _) ?_;generalize hV:World.setRow _ w1.heap.size _=V));have hz1:=hb1.size;have hs1:U.heap.size≤w1.heap.size:=by have:=hb1.size;simp at this;omega
  have hbU1:Below U.heap.size U w1:=((Below.refl _ _).alloc (Nat.le_refl _) _).trans (hb1.mono (by simp));have hbUV:Below U.heap.size U V:=by rw[←hV];exact below_setRow (hbU1.alloc hs1 _) hs1 _
  have hBV:Below w.heap.size w V:=HU.out.2.1.trans (hbUV.mono HU.out.2.1.size);have hRV:∃c:Array Value,V.heap[w.heap.size]? =some (.cells c 35 (0,0))∧c.size=32:=by
   obtain⟨c,e1,e2⟩:=HU.out.2.2.1;exact⟨c,(hbUV.block w.heap.size (lt_of_block e1)).trans e1,e2⟩
  have hpV:isArr V gp 191 .u8 64 (fun _=>0):=HU.out.2.2.2.1.below hbUV HU.out.2.2.2.1.lt;have hdV:isArr V w1.heap.size 35 .u8 32 (Sha.dig (Wir.join [key])):=by rw[←hV];exact setRow_heap _ _ _ _ _ _ (heap_alloc_new _ _)
  have hdr:Rs V (.slice (some ⟨w1.heap.size,0,none⟩) 32 32) (Mac.dl key):=by
   have:=iS hdV (fun i _=>Sha.dig_lt _ _) (by omega);rw[show Wir.join [key]=key from by simp[Wir.join]] at this;exact this
  have hK0:Mac.dl key=Mac.k0 key:=by unfold Mac.k0;rw[if_pos (by have:=HM.out;omega)]
  clear hV hz1 hs1 hbU1 hbUV hdV hb1;generalize w1.heap.size=gd at hdr ⊢;refine wp_region_held_drew (S:=fun _=>True) (by kernel_rfl) trivial (fun _=>?_);change wpAnyH _ _ _ _ _ 3 #[false,false,false] _ (V.drewN 1);refine lN 0 (some 15) rfl rfl (by kernel_rfl) (by kernel_rfl) (by kernel_rfl) (fun _ _ _ _ h=>h) (by kernel_rfl) (.slice (some ⟨gp,0,none⟩) 64 64) (fun _ _=>by kernel_rfl) trivial ?_;simp only[Act.put,aJ,aK,aI];refine lN 1 (some 16) rfl rfl (by kernel_rfl) (by kernel_rfl) (by kernel_rfl) (fun _ _ _ _ h=>h) (by kernel_rfl) (.slice (some ⟨gd,0,none⟩) 32 32) (fun _ _=>by kernel_rfl) trivial ?_;simp only[Act.put,aJ,aK,aI];refine vG 2 (by kernel_rfl) rfl (HStep.of_law #[] (by kernel_rfl) fun K hK=>?_);refine dK rfl (.tmp 15) (.tmp 16) rfl gp 64 _ _ rfl (hpV.drewN 1) _ _ rfl (hdr.below (aU (Below.refl _ _) 1)) ?_;intro V2 hA2 hG2;have hG2:=aF (aM (aE V (some gp)) 1) hG2;refine hK _ _ trivial ?_;change wpAnyH _ _ _ _ _ _ _ (Act.put _ (some 17) _) V2;simp only[Act.put,aJ,aK,aI];refine wpAnyH_done (by kernel_rfl) ?_ _;go_upto_region 6 with fail;have hA':isArr V2 gp 191 .u8 64 (Mac.p0 key):=hA2.congr fun i _=>(by rw[hK0];exact Mac.p0_pad key i)
  have hB2:Below w.heap.size w V2:=aP hBV (Nat.le_refl _) hG2 (fun g hg=>by have:=HU.out.2.2.2.2;simp at hg;omega);have hR2:∃c:Array Value,V2.heap[w.heap.size]? =some (.cells c 35 (0,0))∧c.size=32:=by
   obtain⟨c,e1,e2⟩:=hRV;exact⟨c,(hG2.block w.heap.size (lt_of_block e1) (by have:=HU.out.2.2.2.2;simp;omega)).trans e1,e2⟩
  have F:=aD (aQ hA' (aQ hB2 hR2));have hgp:w.heap.size<gp:=by have:=HU.out.2.2.2.2;omega
  have hp8:∀i,i<64→Mac.p0 key i<256:=fun i _=>Mac.p0_lt hall.out i
  have HP:=aD hp8;clear hA2 hG2 hBV hRV hA' hB2 hR2 hp8 hd hK0;generalize hpk:Mac.p0 key=pk at F HP;have HH:=aD (show Mac.hm key (Wir.join ll)=Sha.dig (Mac.fr pk 92++Mac.dl (Mac.fr pk 54++Wir.join ll)) from by unfold Mac.hm;rw[hpk]);clear hpk;go_upto_region 8 with (first|(go_at_call 286;go_must (refine(gX pk _ 54 gp v ll _ rfl (by omega) F.out.1 HP.out (HB.out.below F.out.2.1) hlen hn (HK.out.below F.out.2.1)).mono ?_;rintro e w3 ⟨rfl,hb3⟩))|(refine wpList_store_rowTo rfl _ _ _ rfl rfl w3.heap.size _ rfl rfl _ _ (heap_alloc_new _ _) (hi32 _) (by rw[aA];rfl) (aL _ _ _) ?_;generalize hV3:World.setRow _ w3.heap.size _=V3));have hlt3:=F.out.1.lt;have hz3:=hb3.size;have hbV3:Below V2.heap.size V2 V3:=by rw[←hV3];exact below_setRow (hb3.alloc hb3.size _) hb3.size _
  have hA3:isArr V3 w3.heap.size 35 .u8 32 (Sha.dig (Mac.fr pk 54++Wir.join ll)):=by rw[←hV3];exact setRow_heap _ _ _ _ _ _ (heap_alloc_new _ _)
  have hr3:Rs V3 (.slice (some ⟨w3.heap.size,0,none⟩) 32 32) (Mac.dl (Mac.fr pk 54++Wir.join ll)):=iS hA3 (fun i _=>Sha.dig_lt _ _) (by omega);have hbw3:Below w.heap.size w V3:=F.out.2.1.trans (hbV3.mono F.out.2.1.size);have hA4:isArr V3 gp 191 .u8 64 pk:=F.out.1.below hbV3 hlt3;have hR3:∃c:Array Value,V3.heap[w.heap.size]? =some (.cells c 35 (0,0))∧c.size=32:=by
   obtain⟨c,e1,e2⟩:=F.out.2.2;exact⟨c,(hbV3.block w.heap.size (lt_of_block e1)).trans e1,e2⟩
  have G:=aD (aQ hr3 (aQ hbw3 hA4));obtain⟨cres,e1,e2⟩:=hR3;have hlr:=lt_of_block e1;have E1:=aD e1;clear hV3 hb3 hz3 hbV3 hA3 hr3 hbw3 hA4 e1;generalize w3.heap.size=gi at G ⊢;have hdl:(Wir.join [Mac.dl (Mac.fr pk 54++Wir.join ll)]).length≤140737488354000:=by simp[Wir.join,Mac.dl_length]
  have HJ:=aD (show Wir.join [Mac.dl (Mac.fr pk 54++Wir.join ll)]=Mac.dl (Mac.fr pk 54++Wir.join ll) from by simp[Wir.join]);have hal:∀o:Obj,Below V3.heap.size V3 (V3.alloc o):=fun o=>(Below.refl _ _).alloc (Nat.le_refl _) o
  go_wp2_with (first|(go_at_call 286;go_must (refine(gX pk _ 92 gp _ [Mac.dl (Mac.fr pk 54++Wir.join ll)] _ rfl (by omega) (G.out.2.2.alloc _) HP.out (r9 G.out.1) hdl (by simp) (HK.out.below (G.out.2.1.trans ((hal _).mono G.out.2.1.size)))).mono ?_;rintro e w5 ⟨rfl,hb5⟩;have hk5:Below V3.heap.size V3 w5:=(hal _).trans (hb5.mono (by simp));have hres:=(hk5.block w.heap.size hlr).trans E1.out))|(refine wpList_store_row rfl _ _ _ rfl w.heap.size _ rfl rfl _ _ hres (hi32 _) (by rw[aA];exact e2) (aL _ _ _) ?_));exact bodyPost_ret (results_cell_row rfl _ _ w.heap.size _ _ (0,0) _ rfl (setRow_heap _ w.heap.size _ _ _ (0,0) hres) rfl rfl (hi32 _)) rfl ⟨by rw[HH.out,HJ.out],below_setRow (G.out.2.1.trans (hk5.mono G.out.2.1.size)) (Nat.le_refl _) _⟩
 ·have hd:decide ((64:Int)<(m:Int))=false:=by simp;omega
  have hK0:key=Mac.k0 key:=by unfold Mac.k0;rw[if_neg (by have:=HM.out;omega)]
  have hBV:=HU.out.2.1;have hRV:=HU.out.2.2.1;have hpV:=HU.out.2.2.2.1;have hkU:=HQ.out.below hBV;go_upto_region 6 with (refine dK rfl _ _ rfl gp 64 _ _ rfl hpV _ key rfl hkU ?_;intro V2 hA2 hG2);clear hkU;have hA':isArr V2 gp 191 .u8 64 (Mac.p0 key):=hA2.congr fun i _=>(by have:=Mac.p0_pad key i;rw[←hK0] at this;exact this)
  have hB2:Below w.heap.size w V2:=aP hBV (Nat.le_refl _) hG2 (fun g hg=>by have:=HU.out.2.2.2.2;simp at hg;omega);have hR2:∃c:Array Value,V2.heap[w.heap.size]? =some (.cells c 35 (0,0))∧c.size=32:=by
   obtain⟨c,e1,e2⟩:=hRV;exact⟨c,(hG2.block w.heap.size (lt_of_block e1) (by have:=HU.out.2.2.2.2;simp;omega)).trans e1,e2⟩
  have F:=aD (aQ hA' (aQ hB2 hR2));have hgp:w.heap.size<gp:=by have:=HU.out.2.2.2.2;omega
  have hp8:∀i,i<64→Mac.p0 key i<256:=fun i _=>Mac.p0_lt hall.out i
  have HP:=aD hp8;clear hA2 hG2 hBV hRV hA' hB2 hR2 hp8 hd hK0;generalize hpk:Mac.p0 key=pk at F HP;have HH:=aD (show Mac.hm key (Wir.join ll)=Sha.dig (Mac.fr pk 92++Mac.dl (Mac.fr pk 54++Wir.join ll)) from by unfold Mac.hm;rw[hpk]);clear hpk;go_upto_region 8 with (first|(go_at_call 286;go_must (refine(gX pk _ 54 gp v ll _ rfl (by omega) F.out.1 HP.out (HB.out.below F.out.2.1) hlen hn (HK.out.below F.out.2.1)).mono ?_;rintro e w3 ⟨rfl,hb3⟩))|(refine wpList_store_rowTo rfl _ _ _ rfl rfl w3.heap.size _ rfl rfl _ _ (heap_alloc_new _ _) (hi32 _) (by rw[aA];rfl) (aL _ _ _) ?_;generalize hV3:World.setRow _ w3.heap.size _=V3));have hlt3:=F.out.1.lt;have hz3:=hb3.size;have hbV3:Below V2.heap.size V2 V3:=by rw[←hV3];exact below_setRow (hb3.alloc hb3.size _) hb3.size _
  have hA3:isArr V3 w3.heap.size 35 .u8 32 (Sha.dig (Mac.fr pk 54++Wir.join ll)):=by rw[←hV3];exact setRow_heap _ _ _ _ _ _ (heap_alloc_new _ _)
  have hr3:Rs V3 (.slice (some ⟨w3.heap.size,0,none⟩) 32 32) (Mac.dl (Mac.fr pk 54++Wir.join ll)):=iS hA3 (fun i _=>Sha.dig_lt _ _) (by omega);have hbw3:Below w.heap.size w V3:=F.out.2.1.trans (hbV3.mono F.out.2.1.size);have hA4:isArr V3 gp 191 .u8 64 pk:=F.out.1.below hbV3 hlt3;have hR3:∃c:Array Value,V3.heap[w.heap.size]? =some (.cells c 35 (0,0))∧c.size=32:=by
   obtain⟨c,e1,e2⟩:=F.out.2.2;exact⟨c,(hbV3.block w.heap.size (lt_of_block e1)).trans e1,e2⟩
  have G:=aD (aQ hr3 (aQ hbw3 hA4));obtain⟨cres,e1,e2⟩:=hR3;have hlr:=lt_of_block e1;have E1:=aD e1;clear hV3 hb3 hz3 hbV3 hA3 hr3 hbw3 hA4 e1;generalize w3.heap.size=gi at G ⊢;have hdl:(Wir.join [Mac.dl (Mac.fr pk 54++Wir.join ll)]).length≤140737488354000:=by simp[Wir.join,Mac.dl_length]
  have HJ:=aD (show Wir.join [Mac.dl (Mac.fr pk 54++Wir.join ll)]=Mac.dl (Mac.fr pk 54++Wir.join ll) from by simp[Wir.join]);have hal:∀o:Obj,Below V3.heap.size V3 (V3.alloc o):=fun o=>(Below.refl _ _).alloc (Nat.le_refl _) o
  go_wp2_with (first|(go_at_call 286;go_must (refine(gX pk _ 92 gp _ [Mac.dl (Mac.fr pk 54++Wir.join ll)] _ rfl (by omega) (G.out.2.2.alloc _) HP.out (r9 G.out.1) hdl (by simp) (HK.out.below (G.out.2.1.trans ((hal _).mono G.out.2.1.size)))).mono ?_;rintro e w5 ⟨rfl,hb5⟩;have hk5:Below V3.heap.size V3 w5:=(hal _).trans (hb5.mono (by simp));have hres:=(hk5.block w.heap.size hlr).trans E1.out))|(refine wpList_store_row rfl _ _ _ rfl w.heap.size _ rfl rfl _ _ hres (hi32 _) (by rw[aA];exact e2) (aL _ _ _) ?_));exact bodyPost_ret (results_cell_row rfl _ _ w.heap.size _ _ (0,0) _ rfl (setRow_heap _ w.heap.size _ _ _ (0,0) hres) rfl rfl (hi32 _)) rfl ⟨by rw[HH.out,HJ.out],below_setRow (G.out.2.1.trans (hk5.mono G.out.2.1.size)) (Nat.le_refl _) _⟩
end Go.Proofs.YtcoolgnlhheaiaaGreatDoor
namespace Go.Proofs.YtcoolgnlhheaiaaGreatDoor
open Go.RowKit Go.Deep
set_option linter.all false
set_option maxRecDepth 100000
set_option maxHeartbeats 4000000
def j7 (l:List Nat):ByteArray:=strOfNums (l.map Int.ofNat)
theorem iA {w:World} {v:Value} {l:List Nat} (h:Rs w v l):(convert 39 9 v).run Tryz.prog w= .ok (.string (j7 l)) w:=by
 rcases h.2.2 with ⟨rfl,rfl⟩|⟨x,cap,rfl,_,hc⟩
 ·exact run_convert_bytes_nil w 39 5 Tryz.underlying39 Tryz.underlying5 0 0 9 Tryz.underlying9
 ·have hl:(loadCells x l.length).run Tryz.prog w= .ok ((l.map Int.ofNat).map (Value.int .u8)).toArray w:=by
   have:=run_loadCells_list (P:=Tryz.prog) w x (l.map bv) (fun j v hj=>by
    have hjl:j<l.length:=by
     rcases Nat.lt_or_ge j l.length with h'|h'
     ·exact h'
     ·rw[List.getElem?_eq_none (by simpa using h')] at hj;cases hj
    rw[hc j hjl];simp[hjl] at hj
    simp[List.getD,hjl,hj])
   rw[List.length_map] at this;rw[this,List.map_map];rfl
  rw[run_convert_bytes_string w 39 9 5 _ l.length cap Tryz.underlying39 Tryz.underlying5 Tryz.underlying9,run_bytesToString w _ l.length cap (l.map Int.ofNat) hl,foldl_push_bytes];simp[j7,strOfNums,ByteArray.empty,ByteArray.emptyWithCapacity];rfl
theorem aE9 {l m:List Nat} (hl:AllB l) (hm:AllB m) (h:j7 l=j7 m):l=m:=by
 have e:=congrArg (fun s:ByteArray=>s.data.toList) h;simp only[j7,strOfNums_data,List.map_map] at e;have key:∀l m:List Nat,AllB l→AllB m→l.map ((fun n:Int=>UInt8.ofNat n.toNat)∘Int.ofNat)=m.map ((fun n:Int=>UInt8.ofNat n.toNat)∘Int.ofNat)→l=m:=by
  intro l
  induction l with
  |nil=>intro m _ _ h;cases m with
   |nil=>rfl
   |cons=>simp at h
  |cons x l ih=>
   intro m hl hm h
   cases m with
   |nil=>simp at h
   |cons y m=>
    simp only[List.map_cons,List.cons.injEq,Function.comp] at h;have hx:=hl x (by simp);have hy:=hm y (by simp);have e1:=congrArg UInt8.toNat h.1;simp[UInt8.toNat_ofNat'] at e1;rw[Nat.mod_eq_of_lt hx,Nat.mod_eq_of_lt hy] at e1;rw[e1,ih m (fun z hz=>hl z (by simp[hz])) (fun z hz=>hm z (by simp[hz])) h.2]
 exact key l m hl hm e
theorem pM {l m:List Nat} (hl:AllB l) (hm:AllB m):((j7 l).toList==(j7 m).toList)=fS l m:=by
 unfold fS;simp only[ByteArray.toList_eq]
 by_cases h:l=m
 ·subst h;simp
 ·have:(j7 l).data.toList≠(j7 m).data.toList:=fun e=>h (aE9 hl hm (by
   have e2:(j7 l).data=(j7 m).data:=Array.toList_inj.1 e;rcases hx:j7 l with ⟨x⟩
   rcases hy:j7 m with ⟨y⟩
   rw[hx,hy] at e2
   exact congrArg ByteArray.mk e2))
  simp only[h,decide_false];exact beq_eq_false_iff_ne.2 this
theorem oK (va vb:Value) (l m:List Nat) (w:World) (ha:Rs w va l) (hb:Rs w vb m):
 Calls Tryz.prog 275 #[va,vb] w fun e w'=>e= .returned (.bool (fS l m))∧w=w':=by
 have c1:=iA ha;have c2:=iA hb;have hs:=aD (pM ha.all hb.all);clear ha hb;generalize j7 l=s at c1 hs;generalize j7 m=t at c2 hs;go_enter Tryz.func275,Tryz.ntmps275;go_wp2_with fail;go_ret;exact⟨by rw[hs.out];rfl,rfl⟩
theorem aC6 (va vb:Value) (l m:List Nat) (w:World) (ha:Rs w va l) (hb:Rs w vb m):
 Calls Tryz.prog 265 #[va,vb] w fun e w'=>e= .returned (.bool (fS l m))∧w=w':=by
 have HA:=aD ha;clear ha;have HB:=aD hb;clear hb;go_enter Tryz.func265,Tryz.ntmps265;go_wp2_with (go_at_call 275;refine(oK va vb l m _ HA.out HB.out).mono ?_;rintro e w2 ⟨rfl,rfl⟩);go_ret;exact⟨rfl,rfl⟩
theorem lZ {w:World} {b n m:Nat} {t:TypeId} {f:Nat→Nat} (h:isArr w b t .u8 n f) (hf:∀i,i<n→f i<256) (hm:m≤n) (hn:n≤9223372036854775807):Rs w (.slice (some ⟨b,0,none⟩) m n) ((List.range m).map f):=by
 refine⟨fun x hx=>?_,by simp;omega,.inr ⟨⟨b,0,none⟩,n,by rw[List.length_map,List.length_range],by rw[List.length_map,List.length_range];exact⟨hm,hn⟩,fun i hi=>?_⟩⟩
 ·obtain⟨i,hi,rfl⟩:=List.mem_map.1 hx
  exact hf i (by simp at hi;omega)
 ·have hi':i<m:=by simpa using hi
  rw[Addr.add_lit,Nat.zero_add,h.cell (by omega)];simp[List.getD,hi',bv]
theorem aIL (w:World) (b u:Nat) (hu:u≤32):(Instr.sliceAt 35 (.pointer (some ⟨b,0,none⟩)) none (some (.int .i64 (u:Int))) none).run Tryz.prog w= .ok (.slice (some ⟨b,0,none⟩) u 32) w:=by
 have hal:(Tryz.prog).arrayLen 35=32:=by go_simp
 rw[run_sliceAt_array_h w _ ⟨b,0,none⟩ (by go_simp) .i64 _ (by omega) (by rw[hal];omega)]
 go_simp
def Mac.ok (key code msg:List Nat):Bool:=decide (16≤code.length∧code.length≤32)&&fS code ((List.range code.length).map (Mac.hm key msg))
theorem Mac.hm_lt (key msg:List Nat) (i:Nat):Mac.hm key msg i<256:=Sha.dig_lt _ _
attribute [irreducible] Mac.ok
theorem aB9 (key code:List Nat) (kv cv v:Value) (ll:List (List Nat)) (w:World) (hk:Rs w kv key) (hkl:key.length≤140737488354000) (hc:Rs w cv code) (hb:Bss w v ll) (hlen:(Wir.join ll).length≤140737488354000) (hn:ll.length≤1000000) (hK:Consts w Sha.tab):
 Calls Tryz.prog 228 #[kv,cv,v] w (kY (Mac.ok key code (Wir.join ll)) w):=by
 have HK:=aD hK;clear hK;have HB:=aD hb;clear hb;have HQ:=aD hk;clear hk;have hcl:=hc.len;obtain⟨ca,ccap,rfl⟩:=hc.form;have HC:=aD hc;clear hc;obtain⟨m,hm⟩:∃m,m=code.length:=⟨_,rfl⟩;rw[←hm] at HC hcl ⊢;have HO:=aD (show Mac.ok key code (Wir.join ll)=(decide (16≤m∧m≤32)&&fS code ((List.range m).map (Mac.hm key (Wir.join ll)))) from by unfold Mac.ok;rw[hm]);have HM:=aD hm;clear hm;have hi32:∀f,((Tryz.prog).info? 35).map (·.size)=some (aH .u8 32 f).size:=by intro f;rw[aA];rfl
 go_enter Tryz.func228,Tryz.ntmps228
 by_cases hin:16≤m∧m≤32
 ·have d1:decide ((m:Int)<16)=false:=by simp;omega
  have d2:decide ((32:Int)<(m:Int))=false:=by simp;omega
  go_upto_region 4 with (first|(go_at_call 264;go_must (refine(nS key kv v ll _ HQ.out hkl HB.out hlen hn HK.out).mono ?_;rintro e w3 ⟨rfl,hb3⟩))|(refine wpList_store_rowTo rfl _ _ _ rfl rfl w3.heap.size _ rfl rfl _ _ (heap_alloc_new _ _) (hi32 _) (by rw[aA];rfl) (aL _ _ _) ?_;generalize hV3:World.setRow _ w3.heap.size _=V3));have hbV:Below w.heap.size w V3:=by rw[←hV3];exact below_setRow (hb3.alloc hb3.size _) hb3.size _
  have hA:isArr V3 w3.heap.size 35 .u8 32 (Mac.hm key (Wir.join ll)):=by rw[←hV3];exact setRow_heap _ _ _ _ _ _ (heap_alloc_new _ _)
  have hr:=lZ hA (fun i _=>Mac.hm_lt _ _ i) hin.2 (by omega);have HR:=aD (aQ hbV (aQ hr (HC.out.below hbV)));clear hV3 hb3 hA hr hbV;have hsl:=fun wx=>aIL wx w3.heap.size m hin.2
  go_wp2_with (go_at_call 265;go_must (refine(aC6 _ _ _ _ _ HR.out.2.2 HR.out.2.1).mono ?_;rintro e w4 ⟨rfl,rfl⟩));go_ret;refine⟨by rw[HO.out,decide_eq_true hin,Bool.true_and];rfl,HR.out.1⟩
 ·by_cases h16:m<16
  ·have d1:decide ((m:Int)<16)=true:=by simp;omega
   go_wp2_with fail;go_ret;exact⟨by rw[HO.out];simp[hin],Below.refl _ _⟩
  ·have d1:decide ((m:Int)<16)=false:=by simp;omega
   have d2:decide ((32:Int)<(m:Int))=true:=by simp;omega
   go_wp2_with fail;go_ret;exact⟨by rw[HO.out];simp[hin],Below.refl _ _⟩
end Go.Proofs.YtcoolgnlhheaiaaGreatDoor
namespace Go.Proofs.YtcoolgnlhheaiaaGreatDoor
open Go.RowKit Go.Deep
set_option linter.all false
set_option maxRecDepth 100000
set_option maxHeartbeats 4000000
namespace Mac
def fp (p:Nat→Nat) (x j:Nat):List Nat:=(List.range j).map fun i=>p i ^^^ x
theorem fp_succ (p:Nat→Nat) (x j:Nat):fp p x (j+1)=fp p x j++[p j ^^^ x]:=by simp[fp,List.range_succ]
theorem fp_length (p:Nat→Nat) (x j:Nat):(fp p x j).length=j:=by simp[fp]
theorem fp_full (p:Nat→Nat) (x:Nat):fp p x 64=fr p x:=rfl
attribute [irreducible] fp
end Mac
def aC7 (p:Nat→Nat) (V:World) (vi vo:Value) (wr:World) (j:Nat):Prop:=Own wr V.heap.size vi (Mac.fp p 54 j)∧Own wr V.heap.size vo (Mac.fp p 92 j)∧Apart vi vo∧Below V.heap.size V wr
theorem nJ (key msg:List Nat) (kv mv:Value) (w:World) (hk:Rs w kv key) (hkl:key.length≤140737488354000) (hb:Rs w mv msg) (hlen:msg.length≤140737488354000):
 Calls Tryz.prog 127 #[kv,mv] w fun e w'=>e= .returned (.agg (aH .u8 32 (Mac.hm key msg)))∧Below w.heap.size w w':=by
 have HB:=aD hb;clear hb;have HQ:=aD hk;have hall:=aD hk.all;clear hk;have hi32:∀f,((Tryz.prog).info? 35).map (·.size)=some (aH .u8 32 f).size:=by intro f;rw[aA];rfl
 go_enter Tryz.func127,Tryz.ntmps127;go_upto_region 1 with fail;generalize hU:w.alloc _=U;have hUs:U.heap.size=w.heap.size+1:=by rw[←hU];simp
 have hUb:Below w.heap.size w U:=by rw[←hU];exact(Below.refl _ _).alloc (Nat.le_refl _) _
 have hUr:∃c:Array Value,U.heap[w.heap.size]? =some (.cells c 35 (0,0))∧c.size=32:=by
  rw[←hU];exact⟨_,heap_alloc_new _ _,rfl⟩
 have HU:=aD (aQ hUs (aQ hUb hUr));clear hU hUs hUb hUr;go_upto_region 2 with (at_builtin;go_must (refine bB rfl _ _ rfl U.heap.size _ [] rfl (bL U U.heap.size [] AllB.nil (Nat.le_refl _) (by simp)) _ key rfl (HQ.out.below (HU.out.2.1.alloc HU.out.2.1.size _)) (by simp;omega) (by simp) ?_;intro v2 w2 hown2 hgr2));have hbU2:Below U.heap.size U w2:=aP ((Below.refl _ _).alloc (Nat.le_refl _) _) (Nat.le_refl _) hgr2 (fun g hg=>by have:U.heap.size=g:=Option.some.inj hg;omega);rw[List.nil_append] at hown2;obtain⟨va,vc,rfl⟩:=hown2.form;have O2:=aD (aQ hown2 hbU2);clear hown2 hgr2 hbU2;obtain⟨m,hm⟩:∃m,m=key.length:=⟨_,rfl⟩;rw[←hm] at O2 hkl ⊢;have HM:=aD hm;clear hm
 by_cases hlong:64<m
 ·have hd:decide ((64:Int)<(m:Int))=true:=by simp;omega
  go_upto_region 5 with (first|(go_at_call 57;go_must (refine(fE _ key _ O2.out.1.bs.rs (by have:=HM.out;omega)).mono ?_;rintro e w3 ⟨rfl,hb3⟩))|(refine wpList_store_rowTo rfl _ _ _ rfl rfl w3.heap.size _ rfl rfl _ _ (heap_alloc_new _ _) (hi32 _) (by rw[aA];rfl) (aL _ _ _) ?_;generalize hV:World.setRow _ w3.heap.size _=V));have hA:isArr V w3.heap.size 35 .u8 32 (Sha.dig key):=by rw[←hV];exact setRow_heap _ _ _ _ _ _ (heap_alloc_new _ _)
  have hbV:Below U.heap.size U V:=by
   have h3:Below w2.heap.size w2 V:=by rw[←hV];exact below_setRow (hb3.alloc hb3.size _) hb3.size _
   exact O2.out.2.trans (h3.mono O2.out.2.size)
  have hrs:Rs V (.slice (some ⟨w3.heap.size,0,none⟩) 32 32) (Mac.k0 key):=by
   have e:Mac.k0 key=Mac.dl key:=by unfold Mac.k0;rw[if_pos (by have:=HM.out;omega)]
   rw[e];exact iS hA (fun i _=>Sha.dig_lt _ _) (by omega)
  have hL:32=(Mac.k0 key).length:=by unfold Mac.k0;rw[if_pos (by have:=HM.out;omega)];rw[Mac.dl_length]
  clear hV hA hb3;generalize w3.heap.size=gd at hrs ⊢;have R:=aD (aQ hrs hbV);have HL:=aD hL;obtain⟨n,hn⟩:∃n:Nat,n=(Mac.k0 key).length:=⟨_,rfl⟩;have HN:=aD hn;clear hrs hbV hn hd hL;have hp:=fun i=>Mac.p0_lt hall.out i
  have hpd:Mac.p0 key=fun i=>(Mac.k0 key).getD i 0:=rfl
  have HH:=aD (show Mac.hm key msg=Sha.dig (Mac.fr (Mac.p0 key) 92++Mac.dl (Mac.fr (Mac.p0 key) 54++msg)) from rfl);generalize hpk:Mac.p0 key=pk at hp HH hpd;have HP:=aD hpd;clear hpk hpd;go_wp2_with fail
  go_loopw [7,8,9] (fun vi vo i wr=>∃j:Nat,j≤64∧i= .int .i64 j∧aC7 pk V vi vo wr j) (fun _ _ i _=>64 - (intOf i).toNat)
  case atStart=>exact⟨0,by omega,rfl,by unfold Mac.fp;exact Own.nil _ _,by unfold Mac.fp;exact Own.nil _ _,.inl rfl,Below.refl _ _⟩
  case round=>
   obtain⟨j,hj,rfl,hI⟩:=hrel
   by_cases hlt:j<64
   ·have d64:decide ((j:Int)<64)=true:=by simp;omega
    obtain⟨hoi,hoo,hap,hbl⟩:=hI;have hsz:=hbl.size;have hy:=hp j;have s1:=Mac.fp_succ pk 54 j;have s2:=Mac.fp_succ pk 92 j;have hcell:∀(wx:World) (t:TypeId) (a i:Nat),i<[a].length→(wx.alloc (.cells #[Value.int .u8 (a:Int)] t)).cell? ⟨wx.heap.size,0+i,none⟩=some (bv ([a].getD i 0)):=by
     intro wx t a i hi;obtain rfl:i=0:=by simp at hi;omega
     exact d7 _ _ _ 0 _ rfl
    have HI:=aD (aQ hoi (aQ hoo (aQ hap hbl)))
    by_cases hjk:j<32
    ·have dk:decide ((j:Int)<(32:Int))=true:=by simp;omega
     have hrk:=R.out.1.below hbl;obtain⟨bk,ok,ek,ck⟩:=hrk.at (k:=j) (by rw[←HL.out];exact hjk);simp only[Option.some.injEq,Addr.mk.injEq,and_true] at ek;obtain⟨rfl,rfl⟩:=ek;have ck:=ck j (by rw[←HL.out];exact hjk);rw[Nat.zero_add] at ck;rw[show(Mac.k0 key).getD j 0=pk j from by rw[HP.out]] at ck;clear hrk hoi hoo hap hbl;generalize pk j=y at ck hy s1 s2;have h54:bits BinOp.xor IntKind.u8 (y:Int) 54=((y ^^^ 54:Nat):Int):=u8_xor_nat y 54 hy (by omega);have h92:bits BinOp.xor IntKind.u8 (y:Int) 92=((y ^^^ 92:Nat):Int):=u8_xor_nat y 92 hy (by omega);have ha:y ^^^ 54<256:=Nat.xor_lt_two_pow (n:=8) hy (by omega);have hb:y ^^^ 92<256:=Nat.xor_lt_two_pow (n:=8) hy (by omega);generalize y ^^^ 54=a at h54 ha s1;generalize y ^^^ 92=b at h92 hb s2;have S1:=aD s1;have S2:=aD s2;clear s1 s2;go_upto_region 14 with (at_builtin;go_must (refine bN rfl _ _ rfl V.heap.size _ _ rfl (HI.out.1.alloc _) wr.heap.size 0 1 [a] rfl (AllB.one ha) (by simp) (hcell _ _ a) (by rw[Mac.fp_length];simp;omega) (Nat.le_trans hsz (by simp)) ?_;intro v3 w3 h3 m3 g3));have hoo3:=(HI.out.2.1.alloc (.cells #[Value.int .u8 (a:Int)] 5)).only g3 HI.out.2.2.1.symm;have hbl3:=aP (HI.out.2.2.2.alloc hsz (.cells #[Value.int .u8 (a:Int)] 5)) (Nat.le_refl _) g3 (fun g hg=>(HI.out.1.lt g hg).1);have hap3:Apart _ v3:=HI.out.2.2.1.symm.moved m3 (fun g hg=>by have:=(HI.out.2.1.lt g hg).2;simp;omega);have hs3:=hbl3.size;have T:=aD (aQ h3 (aQ hoo3 (aQ hap3 hbl3)));clear h3 hoo3 hap3 hbl3 m3 g3;go_wp2_with (at_builtin;go_must (refine bN rfl _ _ rfl V.heap.size _ _ rfl (T.out.2.1.alloc _) w3.heap.size 0 1 [b] rfl (AllB.one hb) (by simp) (hcell _ _ b) (by rw[Mac.fp_length];simp;omega) (Nat.le_trans hs3 (by simp)) ?_;intro v4 w4 h4 m4 g4;have hoi4:=(T.out.1.alloc (.cells #[Value.int .u8 (b:Int)] 5)).only g4 T.out.2.2.1.symm;have hap4:Apart v3 v4:=T.out.2.2.1.symm.moved m4 (fun g hg=>by have:=(T.out.1.lt g hg).2;simp;omega);have hbl4:=aP (T.out.2.2.2.alloc hs3 (.cells #[Value.int .u8 (b:Int)] 5)) (Nat.le_refl _) g4 (fun g hg=>(T.out.2.1.lt g hg).1);have Y:Hid (aC7 pk V v3 v4 w4 (j+1)):=aD ⟨by rw[S1.out];exact hoi4,by rw[S2.out];exact h4,hap4,hbl4⟩;clear h4 m4 g4 hoi4 hap4 hbl4));go_roundw
     case rel=>exact⟨j+1,by omega,by go_num,Y.out⟩
     case measure=>simp[intOf];omega
    ·have dk:decide ((j:Int)<(32:Int))=false:=by simp;omega
     have e0:pk j=0:=by
      rw[HP.out];simp[List.getD,List.getElem?_eq_none (show(Mac.k0 key).length≤j by have:=HL.out;omega)]
     rw[e0] at s1 s2;have h54:bits BinOp.xor IntKind.u8 0 54=((54:Nat):Int):=by decide
     have h92:bits BinOp.xor IntKind.u8 0 92=((92:Nat):Int):=by decide
     obtain⟨a,hae⟩:∃a,a=(54:Nat):=⟨_,rfl⟩;obtain⟨b,hbe⟩:∃b,b=(92:Nat):=⟨_,rfl⟩;rw[←hae] at h54;rw[←hbe] at h92;rw[show(0 ^^^ 54:Nat)=a from by rw[hae];rfl] at s1;rw[show(0 ^^^ 92:Nat)=b from by rw[hbe];rfl] at s2;have ha:a<256:=by omega
     have hb:b<256:=by omega
     have S1:=aD s1;have S2:=aD s2;clear s1 s2 hoi hoo hap hbl hae hbe e0 hy;go_upto_region 14 with (at_builtin;go_must (refine bN rfl _ _ rfl V.heap.size _ _ rfl (HI.out.1.alloc _) wr.heap.size 0 1 [a] rfl (AllB.one ha) (by simp) (hcell _ _ a) (by rw[Mac.fp_length];simp;omega) (Nat.le_trans hsz (by simp)) ?_;intro v3 w3 h3 m3 g3));have hoo3:=(HI.out.2.1.alloc (.cells #[Value.int .u8 (a:Int)] 5)).only g3 HI.out.2.2.1.symm;have hbl3:=aP (HI.out.2.2.2.alloc hsz (.cells #[Value.int .u8 (a:Int)] 5)) (Nat.le_refl _) g3 (fun g hg=>(HI.out.1.lt g hg).1);have hap3:Apart _ v3:=HI.out.2.2.1.symm.moved m3 (fun g hg=>by have:=(HI.out.2.1.lt g hg).2;simp;omega);have hs3:=hbl3.size;have T:=aD (aQ h3 (aQ hoo3 (aQ hap3 hbl3)));clear h3 hoo3 hap3 hbl3 m3 g3;go_wp2_with (at_builtin;go_must (refine bN rfl _ _ rfl V.heap.size _ _ rfl (T.out.2.1.alloc _) w3.heap.size 0 1 [b] rfl (AllB.one hb) (by simp) (hcell _ _ b) (by rw[Mac.fp_length];simp;omega) (Nat.le_trans hs3 (by simp)) ?_;intro v4 w4 h4 m4 g4;have hoi4:=(T.out.1.alloc (.cells #[Value.int .u8 (b:Int)] 5)).only g4 T.out.2.2.1.symm;have hap4:Apart v3 v4:=T.out.2.2.1.symm.moved m4 (fun g hg=>by have:=(T.out.1.lt g hg).2;simp;omega);have hbl4:=aP (T.out.2.2.2.alloc hs3 (.cells #[Value.int .u8 (b:Int)] 5)) (Nat.le_refl _) g4 (fun g hg=>(T.out.2.1.lt g hg).1);have Y:Hid (aC7 pk V v3 v4 w4 (j+1)):=aD ⟨by rw[S1.out];exact hoi4,by rw[S2.out];exact h4,hap4,hbl4⟩;clear h4 m4 g4 hoi4 hap4 hbl4));go_roundw
     case rel=>exact⟨j+1,by omega,by go_num,Y.out⟩
     case measure=>simp[intOf];omega
   ·obtain rfl:j=64:=by omega
    have d64:decide (((64:Nat):Int)<64)=false:=by decide
    obtain⟨hoi,hoo,hap,hbl⟩:=hI;rw[Mac.fp_full] at hoi hoo;have HI:=aD (aQ hoi (aQ hoo (aQ hap hbl)));have hsz:=hbl.size;clear hoi hoo hap hbl hlt hj;have hbw:Below w.heap.size w wr:=(HU.out.2.1.trans (R.out.2.mono HU.out.2.1.size)).trans (HI.out.2.2.2.mono (by have:=HU.out.2.1.size;have:=R.out.2.size;omega));have HBW:=aD hbw;clear hbw;go_upto_region 16 with (first|(at_builtin;go_must (refine bB rfl _ _ rfl V.heap.size _ _ rfl HI.out.1 _ msg rfl (HB.out.below HBW.out) (by rw[Mac.fr_length];omega) hsz ?_;intro v5 w5 h5 g5))|(go_at_call 57;go_must (refine(fE _ (Mac.fr pk 54++msg) _ h5.bs.rs (by rw[List.length_append,Mac.fr_length];omega)).mono ?_;rintro e w6 ⟨rfl,hb6⟩))|(refine wpList_store_rowTo rfl _ _ _ rfl rfl w6.heap.size _ rfl rfl _ _ (heap_alloc_new _ _) (hi32 _) (by rw[aA];rfl) (aL _ _ _) ?_;generalize hV6:World.setRow _ w6.heap.size _=V6));have hA6:isArr V6 w6.heap.size 35 .u8 32 (Sha.dig (Mac.fr pk 54++msg)):=by rw[←hV6];exact setRow_heap _ _ _ _ _ _ (heap_alloc_new _ _)
    have hr6:Rs V6 (.slice (some ⟨w6.heap.size,0,none⟩) 32 32) (Mac.dl (Mac.fr pk 54++msg)):=iS hA6 (fun i _=>Sha.dig_lt _ _) (by omega);have hb56:Below w5.heap.size w5 V6:=by rw[←hV6];exact below_setRow (hb6.alloc hb6.size _) hb6.size _
    have ho6:Own V6 V.heap.size _ (Mac.fr pk 92):=(HI.out.2.1.only g5 HI.out.2.2.1.symm).below hb56;have hbV5:Below V.heap.size V w5:=aP HI.out.2.2.2 (Nat.le_refl _) g5 (fun g hg=>(HI.out.1.lt g hg).1);have hbV6:Below V.heap.size V V6:=hbV5.trans (hb56.mono hbV5.size);have hbU6:Below U.heap.size U V6:=R.out.2.trans (hbV6.mono R.out.2.size);have Z:=aD (aQ hr6 (aQ ho6 hbU6));have hs6:=hbV6.size;clear hV6 hA6 hr6 hb56 ho6 hbV5 hbU6 hb6 h5 g5;generalize w6.heap.size=g6 at Z ⊢;obtain⟨cres,e1,e2⟩:=HU.out.2.2;have E1:=aD e1;have hlr:=lt_of_block e1;clear e1;go_wp2_with (first|(at_builtin;go_must (refine bB rfl _ _ rfl V.heap.size _ _ rfl Z.out.2.1 _ (Mac.dl (Mac.fr pk 54++msg)) rfl Z.out.1 (by rw[Mac.fr_length,Mac.dl_length];omega) hs6 ?_;intro v7 w7 h7 g7))|(go_at_call 57;go_must (refine(fE _ (Mac.fr pk 92++Mac.dl (Mac.fr pk 54++msg)) _ h7.bs.rs (by rw[List.length_append,Mac.fr_length,Mac.dl_length];omega)).mono ?_;rintro e w8 ⟨rfl,hb8⟩;have hbU7:Below U.heap.size U w7:=aP Z.out.2.2 (Nat.le_refl _) g7 (fun g hg=>Nat.le_trans R.out.2.size (Z.out.2.1.lt g hg).1);have hbU8:Below U.heap.size U w8:=hbU7.trans (hb8.mono hbU7.size);have hres:=(hbU8.block w.heap.size hlr).trans E1.out))|(refine wpList_store_row rfl _ _ _ rfl w.heap.size _ rfl rfl _ _ hres (hi32 _) (by rw[aA];exact e2) (aL _ _ _) ?_));exact bodyPost_ret (results_cell_row rfl _ _ w.heap.size _ _ (0,0) _ rfl (setRow_heap _ w.heap.size _ _ _ (0,0) hres) rfl rfl (hi32 _)) rfl ⟨by rw[HH.out],below_setRow (HU.out.2.1.trans (hbU8.mono HU.out.2.1.size)) (Nat.le_refl _) _⟩
 ·have hd:decide ((64:Int)<(m:Int))=false:=by simp;omega
  go_upto_region 5 with fail;have hrs:Rs w2 (.slice va m vc) (Mac.k0 key):=by
   have e:Mac.k0 key=key:=by unfold Mac.k0;rw[if_neg (by have:=HM.out;omega)]
   rw[e];exact O2.out.1.bs.rs
  have hL:m=(Mac.k0 key).length:=by unfold Mac.k0;rw[if_neg (by have:=HM.out;omega)];exact HM.out
  have hbV:=O2.out.2
  rename World=>V
  have R:=aD (aQ hrs hbV);have HL:=aD hL;obtain⟨n,hn⟩:∃n:Nat,n=(Mac.k0 key).length:=⟨_,rfl⟩;have HN:=aD hn;clear hrs hbV hn hd hL;have hp:=fun i=>Mac.p0_lt hall.out i
  have hpd:Mac.p0 key=fun i=>(Mac.k0 key).getD i 0:=rfl
  have HH:=aD (show Mac.hm key msg=Sha.dig (Mac.fr (Mac.p0 key) 92++Mac.dl (Mac.fr (Mac.p0 key) 54++msg)) from rfl);generalize hpk:Mac.p0 key=pk at hp HH hpd;have HP:=aD hpd;clear hpk hpd;go_wp2_with fail
  go_loopw [7,8,9] (fun vi vo i wr=>∃j:Nat,j≤64∧i= .int .i64 j∧aC7 pk V vi vo wr j) (fun _ _ i _=>64 - (intOf i).toNat)
  case atStart=>exact⟨0,by omega,rfl,by unfold Mac.fp;exact Own.nil _ _,by unfold Mac.fp;exact Own.nil _ _,.inl rfl,Below.refl _ _⟩
  case round=>
   obtain⟨j,hj,rfl,hI⟩:=hrel
   by_cases hlt:j<64
   ·have d64:decide ((j:Int)<64)=true:=by simp;omega
    obtain⟨hoi,hoo,hap,hbl⟩:=hI;have hsz:=hbl.size;have hy:=hp j;have s1:=Mac.fp_succ pk 54 j;have s2:=Mac.fp_succ pk 92 j;have hcell:∀(wx:World) (t:TypeId) (a i:Nat),i<[a].length→(wx.alloc (.cells #[Value.int .u8 (a:Int)] t)).cell? ⟨wx.heap.size,0+i,none⟩=some (bv ([a].getD i 0)):=by
     intro wx t a i hi;obtain rfl:i=0:=by simp at hi;omega
     exact d7 _ _ _ 0 _ rfl
    have HI:=aD (aQ hoi (aQ hoo (aQ hap hbl)))
    by_cases hjk:j<m
    ·have dk:decide ((j:Int)<(m:Int))=true:=by simp;omega
     have hrk:=R.out.1.below hbl;obtain⟨bk,ok,rfl,ck⟩:=hrk.at (k:=j) (by rw[←HL.out];exact hjk);have ck:=ck j (by rw[←HL.out];exact hjk);rw[show(Mac.k0 key).getD j 0=pk j from by rw[HP.out]] at ck;clear hrk hoi hoo hap hbl;generalize pk j=y at ck hy s1 s2;have h54:bits BinOp.xor IntKind.u8 (y:Int) 54=((y ^^^ 54:Nat):Int):=u8_xor_nat y 54 hy (by omega);have h92:bits BinOp.xor IntKind.u8 (y:Int) 92=((y ^^^ 92:Nat):Int):=u8_xor_nat y 92 hy (by omega);have ha:y ^^^ 54<256:=Nat.xor_lt_two_pow (n:=8) hy (by omega);have hb:y ^^^ 92<256:=Nat.xor_lt_two_pow (n:=8) hy (by omega);generalize y ^^^ 54=a at h54 ha s1;generalize y ^^^ 92=b at h92 hb s2;have S1:=aD s1;have S2:=aD s2;clear s1 s2;go_upto_region 14 with (at_builtin;go_must (refine bN rfl _ _ rfl V.heap.size _ _ rfl (HI.out.1.alloc _) wr.heap.size 0 1 [a] rfl (AllB.one ha) (by simp) (hcell _ _ a) (by rw[Mac.fp_length];simp;omega) (Nat.le_trans hsz (by simp)) ?_;intro v3 w3 h3 m3 g3));have hoo3:=(HI.out.2.1.alloc (.cells #[Value.int .u8 (a:Int)] 5)).only g3 HI.out.2.2.1.symm;have hbl3:=aP (HI.out.2.2.2.alloc hsz (.cells #[Value.int .u8 (a:Int)] 5)) (Nat.le_refl _) g3 (fun g hg=>(HI.out.1.lt g hg).1);have hap3:Apart _ v3:=HI.out.2.2.1.symm.moved m3 (fun g hg=>by have:=(HI.out.2.1.lt g hg).2;simp;omega);have hs3:=hbl3.size;have T:=aD (aQ h3 (aQ hoo3 (aQ hap3 hbl3)));clear h3 hoo3 hap3 hbl3 m3 g3;go_wp2_with (at_builtin;go_must (refine bN rfl _ _ rfl V.heap.size _ _ rfl (T.out.2.1.alloc _) w3.heap.size 0 1 [b] rfl (AllB.one hb) (by simp) (hcell _ _ b) (by rw[Mac.fp_length];simp;omega) (Nat.le_trans hs3 (by simp)) ?_;intro v4 w4 h4 m4 g4;have hoi4:=(T.out.1.alloc (.cells #[Value.int .u8 (b:Int)] 5)).only g4 T.out.2.2.1.symm;have hap4:Apart v3 v4:=T.out.2.2.1.symm.moved m4 (fun g hg=>by have:=(T.out.1.lt g hg).2;simp;omega);have hbl4:=aP (T.out.2.2.2.alloc hs3 (.cells #[Value.int .u8 (b:Int)] 5)) (Nat.le_refl _) g4 (fun g hg=>(T.out.2.1.lt g hg).1);have Y:Hid (aC7 pk V v3 v4 w4 (j+1)):=aD ⟨by rw[S1.out];exact hoi4,by rw[S2.out];exact h4,hap4,hbl4⟩;clear h4 m4 g4 hoi4 hap4 hbl4));go_roundw
     case rel=>exact⟨j+1,by omega,by go_num,Y.out⟩
     case measure=>simp[intOf];omega
    ·have dk:decide ((j:Int)<(m:Int))=false:=by simp;omega
     have e0:pk j=0:=by
      rw[HP.out];simp[List.getD,List.getElem?_eq_none (show(Mac.k0 key).length≤j by have:=HL.out;omega)]
     rw[e0] at s1 s2;have h54:bits BinOp.xor IntKind.u8 0 54=((54:Nat):Int):=by decide
     have h92:bits BinOp.xor IntKind.u8 0 92=((92:Nat):Int):=by decide
     obtain⟨a,hae⟩:∃a,a=(54:Nat):=⟨_,rfl⟩;obtain⟨b,hbe⟩:∃b,b=(92:Nat):=⟨_,rfl⟩;rw[←hae] at h54;rw[←hbe] at h92;rw[show(0 ^^^ 54:Nat)=a from by rw[hae];rfl] at s1;rw[show(0 ^^^ 92:Nat)=b from by rw[hbe];rfl] at s2;have ha:a<256:=by omega
     have hb:b<256:=by omega
     have S1:=aD s1;have S2:=aD s2;clear s1 s2 hoi hoo hap hbl hae hbe e0 hy;go_upto_region 14 with (at_builtin;go_must (refine bN rfl _ _ rfl V.heap.size _ _ rfl (HI.out.1.alloc _) wr.heap.size 0 1 [a] rfl (AllB.one ha) (by simp) (hcell _ _ a) (by rw[Mac.fp_length];simp;omega) (Nat.le_trans hsz (by simp)) ?_;intro v3 w3 h3 m3 g3));have hoo3:=(HI.out.2.1.alloc (.cells #[Value.int .u8 (a:Int)] 5)).only g3 HI.out.2.2.1.symm;have hbl3:=aP (HI.out.2.2.2.alloc hsz (.cells #[Value.int .u8 (a:Int)] 5)) (Nat.le_refl _) g3 (fun g hg=>(HI.out.1.lt g hg).1);have hap3:Apart _ v3:=HI.out.2.2.1.symm.moved m3 (fun g hg=>by have:=(HI.out.2.1.lt g hg).2;simp;omega);have hs3:=hbl3.size;have T:=aD (aQ h3 (aQ hoo3 (aQ hap3 hbl3)));clear h3 hoo3 hap3 hbl3 m3 g3;go_wp2_with (at_builtin;go_must (refine bN rfl _ _ rfl V.heap.size _ _ rfl (T.out.2.1.alloc _) w3.heap.size 0 1 [b] rfl (AllB.one hb) (by simp) (hcell _ _ b) (by rw[Mac.fp_length];simp;omega) (Nat.le_trans hs3 (by simp)) ?_;intro v4 w4 h4 m4 g4;have hoi4:=(T.out.1.alloc (.cells #[Value.int .u8 (b:Int)] 5)).only g4 T.out.2.2.1.symm;have hap4:Apart v3 v4:=T.out.2.2.1.symm.moved m4 (fun g hg=>by have:=(T.out.1.lt g hg).2;simp;omega);have hbl4:=aP (T.out.2.2.2.alloc hs3 (.cells #[Value.int .u8 (b:Int)] 5)) (Nat.le_refl _) g4 (fun g hg=>(T.out.2.1.lt g hg).1);have Y:Hid (aC7 pk V v3 v4 w4 (j+1)):=aD ⟨by rw[S1.out];exact hoi4,by rw[S2.out];exact h4,hap4,hbl4⟩;clear h4 m4 g4 hoi4 hap4 hbl4));go_roundw
     case rel=>exact⟨j+1,by omega,by go_num,Y.out⟩
     case measure=>simp[intOf];omega
   ·obtain rfl:j=64:=by omega
    have d64:decide (((64:Nat):Int)<64)=false:=by decide
    obtain⟨hoi,hoo,hap,hbl⟩:=hI;rw[Mac.fp_full] at hoi hoo;have HI:=aD (aQ hoi (aQ hoo (aQ hap hbl)));have hsz:=hbl.size;clear hoi hoo hap hbl hlt hj;have hbw:Below w.heap.size w wr:=(HU.out.2.1.trans (R.out.2.mono HU.out.2.1.size)).trans (HI.out.2.2.2.mono (by have:=HU.out.2.1.size;have:=R.out.2.size;omega));have HBW:=aD hbw;clear hbw;go_upto_region 16 with (first|(at_builtin;go_must (refine bB rfl _ _ rfl V.heap.size _ _ rfl HI.out.1 _ msg rfl (HB.out.below HBW.out) (by rw[Mac.fr_length];omega) hsz ?_;intro v5 w5 h5 g5))|(go_at_call 57;go_must (refine(fE _ (Mac.fr pk 54++msg) _ h5.bs.rs (by rw[List.length_append,Mac.fr_length];omega)).mono ?_;rintro e w6 ⟨rfl,hb6⟩))|(refine wpList_store_rowTo rfl _ _ _ rfl rfl w6.heap.size _ rfl rfl _ _ (heap_alloc_new _ _) (hi32 _) (by rw[aA];rfl) (aL _ _ _) ?_;generalize hV6:World.setRow _ w6.heap.size _=V6));have hA6:isArr V6 w6.heap.size 35 .u8 32 (Sha.dig (Mac.fr pk 54++msg)):=by rw[←hV6];exact setRow_heap _ _ _ _ _ _ (heap_alloc_new _ _)
    have hr6:Rs V6 (.slice (some ⟨w6.heap.size,0,none⟩) 32 32) (Mac.dl (Mac.fr pk 54++msg)):=iS hA6 (fun i _=>Sha.dig_lt _ _) (by omega);have hb56:Below w5.heap.size w5 V6:=by rw[←hV6];exact below_setRow (hb6.alloc hb6.size _) hb6.size _
    have ho6:Own V6 V.heap.size _ (Mac.fr pk 92):=(HI.out.2.1.only g5 HI.out.2.2.1.symm).below hb56;have hbV5:Below V.heap.size V w5:=aP HI.out.2.2.2 (Nat.le_refl _) g5 (fun g hg=>(HI.out.1.lt g hg).1);have hbV6:Below V.heap.size V V6:=hbV5.trans (hb56.mono hbV5.size);have hbU6:Below U.heap.size U V6:=R.out.2.trans (hbV6.mono R.out.2.size);have Z:=aD (aQ hr6 (aQ ho6 hbU6));have hs6:=hbV6.size;clear hV6 hA6 hr6 hb56 ho6 hbV5 hbU6 hb6 h5 g5;generalize w6.heap.size=g6 at Z ⊢;obtain⟨cres,e1,e2⟩:=HU.out.2.2;have E1:=aD e1;have hlr:=lt_of_block e1;clear e1;go_wp2_with (first|(at_builtin;go_must (refine bB rfl _ _ rfl V.heap.size _ _ rfl Z.out.2.1 _ (Mac.dl (Mac.fr pk 54++msg)) rfl Z.out.1 (by rw[Mac.fr_length,Mac.dl_length];omega) hs6 ?_;intro v7 w7 h7 g7))|(go_at_call 57;go_must (refine(fE _ (Mac.fr pk 92++Mac.dl (Mac.fr pk 54++msg)) _ h7.bs.rs (by rw[List.length_append,Mac.fr_length,Mac.dl_length];omega)).mono ?_;rintro e w8 ⟨rfl,hb8⟩;have hbU7:Below U.heap.size U w7:=aP Z.out.2.2 (Nat.le_refl _) g7 (fun g hg=>Nat.le_trans R.out.2.size (Z.out.2.1.lt g hg).1);have hbU8:Below U.heap.size U w8:=hbU7.trans (hb8.mono hbU7.size);have hres:=(hbU8.block w.heap.size hlr).trans E1.out))|(refine wpList_store_row rfl _ _ _ rfl w.heap.size _ rfl rfl _ _ hres (hi32 _) (by rw[aA];exact e2) (aL _ _ _) ?_));exact bodyPost_ret (results_cell_row rfl _ _ w.heap.size _ _ (0,0) _ rfl (setRow_heap _ w.heap.size _ _ _ (0,0) hres) rfl rfl (hi32 _)) rfl ⟨by rw[HH.out],below_setRow (HU.out.2.1.trans (hbU8.mono HU.out.2.1.size)) (Nat.le_refl _) _⟩
end Go.Proofs.YtcoolgnlhheaiaaGreatDoor
namespace Go.Proofs.YtcoolgnlhheaiaaGreatDoor
open Go.RowKit Go.Deep
set_option linter.all false
set_option maxRecDepth 100000
set_option maxHeartbeats 4000000
def lb (s:ByteArray):List Nat:=s.data.toList.map UInt8.toNat
theorem eG (s:ByteArray):(lb s).length=s.size:=by unfold lb;rw[List.length_map];rfl
theorem aF0 (s:ByteArray):AllB (lb s):=fun x hx=>by
 obtain⟨b,_,rfl⟩:=List.mem_map.1 hx;exact UInt8.toNat_lt b
theorem mK {w:World} {ops:Array Oper} {rest:List Oper} {o:Oper} {a:Act} {Q:Exit→Act→World→Prop} (hgd:o.guard=none) (x:Operand)
 (ho:o.op= .convert 9 39 x) (s:ByteArray) (hx:a.eval x= .string s) (hs:s.size≤maxLen)
 (h:∀v' w',Rs w' v' (lb s)→Below w.heap.size w w'→wpList Tryz.prog ops Q rest (a.put o.dst v') w'):wpList Tryz.prog ops Q (o::rest) a w:=by
 refine wpList_plain hgd fun K hK=>?_
 have hr:=run_bytes_of_string (P:=Tryz.prog) w 9 39 5 s Tryz.underlying9 Tryz.underlying39 Tryz.underlying5;have h1:=grownCap_ge w s.size 0 5;have h2:=grownCap_le_maxLen w s.size 0 5 hs;generalize grownCap w s.size 0 5=gc at hr h1 h2;unfold Oper.wp execOp;simp only[ho,Sem.run_bind,Sem.run_pure,Result.andThen_ok,hx,hr];refine hK _ _ (h _ _ ⟨aF0 s,by rw[eG];unfold maxLen at hs;omega,.inr ⟨⟨w.heap.size,0,none⟩,gc,by rw[eG],⟨by rw[eG];exact h1,by unfold maxLen at h2;omega⟩,fun i hi=>?_⟩⟩ ((aU (Below.refl _ _) 1).alloc (Nat.le_refl _) _));rw[eG] at hi;have hi':i<s.data.size:=hi;rw[Addr.add_lit,Nat.zero_add];show World.cell? ((w.drewN 1).alloc _) ⟨(w.drewN 1).heap.size,i,none⟩=_;rw[World.cell?_alloc_mark];simp[bytesRow,lb,List.getD,Array.getElem?_append];rw[if_pos hi,Array.getElem?_eq_getElem hi'];rfl
namespace Mac
def bk (key lab:List Nat) (i:Nat):List Nat:=(List.range 32).map (hm key (i::lab))
theorem bk_length (key lab:List Nat) (i:Nat):(bk key lab i).length=32:=by simp[bk]
def dv (key lab:List Nat):Nat→List Nat
 |0=>[]
 |j+1=>dv key lab j++bk key lab (j+1)
theorem dv_length (key lab:List Nat) (j:Nat):(dv key lab j).length=32*j:=by
 induction j with
 |zero=>rfl
 |succ j ih=>rw[dv,List.length_append,ih,bk_length];omega
def dn (key lab:List Nat) (n:Nat):List Nat:=(dv key lab ((n+31) / 32)).take n
theorem dv_take (key lab:List Nat) (n d:Nat):∀j,n≤32*j→(dv key lab (j+d)).take n=(dv key lab j).take n:=by
 induction d with
 |zero=>intro j _;rfl
 |succ d ih=>
  intro j h;rw[show j+(d+1)=(j+d)+1 from rfl,dv,List.take_append_of_le_length (by rw[dv_length];omega),ih j h]
theorem dn_of (key lab:List Nat) (n j:Nat) (h:n≤32*j):(dv key lab j).take n=dn key lab n:=by
 unfold dn;have:=dv_take key lab n (j - (n+31) / 32) ((n+31) / 32) (by omega);rw[show(n+31) / 32+(j - (n+31) / 32)=j by omega] at this;exact this
theorem dn_length (key lab:List Nat) (n:Nat):(dn key lab n).length=n:=by
 unfold dn;rw[List.length_take,dv_length];omega
theorem dv_next (key lab:List Nat) (n j r:Nat) (h:32*j≤n) (hr:r=min 32 (n - 32*j)):dv key lab j++(bk key lab (j+1)).take r=(dv key lab (j+1)).take n:=by
 have e1:(dv key lab j).take n=dv key lab j:=List.take_of_length_le (by rw[dv_length];exact h);rw[dv,List.take_append,dv_length,e1];congr 1;subst hr;rcases Nat.le_total 32 (n - 32*j) with h'|h'
 ·rw[Nat.min_eq_left h',List.take_of_length_le (by rw[bk_length];omega),List.take_of_length_le (by rw[bk_length];exact h')]
 ·rw[Nat.min_eq_right h']
end Mac
theorem pO (key:List Nat) (kv:Value) (s:ByteArray) (n:Nat) (w:World) (hn:n≤8160) (hk:Rs w kv key) (hkl:key.length≤140737488354000) (hs:s.size≤140737488353000) (hK:Consts w Sha.tab):
 Calls Tryz.prog 262 #[kv,.string s,.int .i64 n] w (cG (Mac.dn key (lb s) n) w):=by
 have HK:=aD hK;clear hK;have HQ:=aD hk;clear hk;have hi32:∀f,((Tryz.prog).info? 35).map (·.size)=some (aH .u8 32 f).size:=by intro f;rw[aA];rfl
 have d1:decide ((n:Int)<0)=false:=by simp
 have d2:decide ((8160:Int)<(n:Int))=false:=by simp;omega
 go_enter Tryz.func262,Tryz.ntmps262;go_upto_region 5 with (refine iO rfl _ _ rfl w.heap.size _ _ _ n rfl rfl rfl (by omega) (Nat.le_refl _) ?_;intro w1 ho1 hg1);have hb1:=aB hg1;have I:=aD (aQ ho1 hb1);clear ho1 hg1 hb1;go_wp2_with fail
 go_loopw [7,8] (fun v i wr=>∃t:Nat,1≤t∧32*t<n+64∧i= .int .i64 t∧Own wr w.heap.size v ((Mac.dv key (lb s) (t - 1)).take n)∧Below w.heap.size w wr) (fun _ i _=>300 - (intOf i).toNat)
 case atStart=>exact⟨1,by omega,by omega,rfl,by rw[show(Mac.dv key (lb s) (1 - 1)).take n=[] from by simp[Mac.dv]];exact I.out.1,I.out.2⟩
 case round=>
  clear I;obtain⟨t,ht1,ht2,rfl,hown,hbl⟩:=hrel;obtain⟨j,rfl⟩:∃j,t=j+1:=⟨t - 1,by omega⟩;rw[Nat.add_sub_cancel] at hown;obtain⟨va,vcap,rfl⟩:=hown.form
  by_cases hlt:32*j<n
  ·have e1:(Mac.dv key (lb s) j).take n=Mac.dv key (lb s) j:=List.take_of_length_le (by rw[Mac.dv_length];omega)
   rw[e1] at hown ⊢;rw[Mac.dv_length] at hown ⊢;obtain⟨q,hq⟩:∃q,q=32*j:=⟨_,rfl⟩;rw[←hq] at hown ⊢;obtain⟨t,ht⟩:∃t,t=j+1:=⟨_,rfl⟩;rw[←ht];have hqn:q<n:=by omega
   have dq:decide ((q:Int)<(n:Int))=true:=by simp;omega
   have hw:(t:Int) % 256=(t:Int):=by omega
   have htb:t<256:=by omega
   obtain⟨r,hr⟩:∃r,r=min 32 (n - q):=⟨_,rfl⟩;have hr32:r≤32:=by omega
   have hrm:(if (n:Int) - (q:Int)<32 then (n:Int) - (q:Int) else 32)=(r:Int):=by split<;>omega
   have HN:=aD (show Mac.dv key (lb s) j++(Mac.bk key (lb s) t).take r=(Mac.dv key (lb s) t).take n from by rw[ht];exact Mac.dv_next key (lb s) n j r (by omega) (by rw[hr,hq]));have HT:=aD (aQ ht hq);have HI:=aD (aQ hown hbl);have hsz:=hbl.size;clear hown hbl ht hq hr e1 ht1 ht2 hlt;go_upto_region 8 with (first|(refine mK rfl _ rfl s rfl (by unfold maxLen;omega) ?_;intro vb w2 hrb hb2;obtain⟨vba,vbc,rfl⟩:=hrb.form)|(go_at_call 264;go_must (refine(nS key kv _ [[t],lb s] _ (HQ.out.below (HI.out.2.trans ((((Below.refl _ _).alloc (Nat.le_refl _) _).trans (hb2.mono (by simp))).mono hsz |>.alloc (Nat.le_trans hsz (by have:=hb2.size;simp at this;omega)) _))) hkl (jA ((tV wr _ rfl [t] (AllB.one htb) (by simp)).below hb2) hrb) (by simp[Wir.join,eG];omega) (by simp) (HK.out.below (HI.out.2.trans ((((Below.refl _ _).alloc (Nat.le_refl _) _).trans (hb2.mono (by simp))).mono hsz |>.alloc (Nat.le_trans hsz (by have:=hb2.size;simp at this;omega)) _)))).mono ?_;rintro e w3 ⟨rfl,hb3⟩))|(refine wpList_store_rowTo rfl _ _ _ rfl rfl w3.heap.size _ rfl rfl _ _ (heap_alloc_new _ _) (hi32 _) (by rw[aA];rfl) (aL _ _ _) ?_;generalize hV:World.setRow _ w3.heap.size _=V));have hz2:=hb2.size;have hb12:Below wr.heap.size wr w2:=((Below.refl _ _).alloc (Nat.le_refl _) _).trans (hb2.mono (by simp));have hb13:Below wr.heap.size wr w3:=(hb12.alloc hb12.size _).trans (hb3.mono (by have:=hb12.size;simp;omega));have hbV:Below wr.heap.size wr V:=by rw[←hV];exact below_setRow (hb13.alloc hb13.size _) hb13.size _
   have hA:isArr V w3.heap.size 35 .u8 32 (Mac.hm key (t::lb s)):=by
    have:Wir.join [[t],lb s]=t::lb s:=by simp[Wir.join]
    rw[←hV,←this];exact setRow_heap _ _ _ _ _ _ (heap_alloc_new _ _)
   have hrr:Rs V (.slice (some ⟨w3.heap.size,0,none⟩) r 32) ((Mac.bk key (lb s) t).take r):=by
    have:=lZ (m:=r) hA (fun i _=>Mac.hm_lt _ _ i) hr32 (by omega);have e:(Mac.bk key (lb s) t).take r=(List.range r).map (Mac.hm key (t::lb s)):=by
     unfold Mac.bk;rw[←List.map_take,List.take_range,Nat.min_eq_left hr32]
    rw[e];exact this
   have Z:=aD (aQ hrr (aQ (HI.out.1.below hbV) (HI.out.2.trans (hbV.mono hsz))));have hzV:=Z.out.2.2.size;have hsl:=fun wx=>aIL wx w3.heap.size r hr32
   clear hz2 hb12 hb13 hbV hV hA hrr hb3 hrb hb2;generalize w3.heap.size=gi at Z hsl ⊢;go_wp2_with (at_builtin;go_must (refine bB rfl _ _ rfl w.heap.size _ _ rfl Z.out.2.1 _ _ rfl Z.out.1 (by rw[Mac.dv_length,List.length_take,Mac.bk_length];have:=HT.out;omega) hzV ?_;intro v4 w4 h4 g4;have hb4:=aP Z.out.2.2 (Nat.le_refl _) g4 (fun g hg=>(Z.out.2.1.lt g hg).1);rw[HN.out] at h4;have Y:=aD (aQ h4 hb4);clear h4 g4 hb4));go_roundw
   case rel=>exact⟨t+1,by omega,by have:=HT.out;omega,by go_num,by rw[Nat.add_sub_cancel];exact Y.out.1,Y.out.2⟩
   case measure=>simp[intOf];omega
  ·rw[Mac.dn_of key (lb s) n j (by omega)] at hown ⊢
   rw[Mac.dn_length] at hown ⊢;have dq:decide ((n:Int)<(n:Int))=false:=by simp
   have HI:=aD (aQ hown hbl);clear hown hbl hlt ht1 ht2;go_wp2_with fail;go_ret;exact⟨_,rfl,HI.out.1,HI.out.2⟩
end Go.Proofs.YtcoolgnlhheaiaaGreatDoor
namespace Go.Proofs.YtcoolgnlhheaiaaGreatDoor
open Go.RowKit Go.Deep
set_option linter.all false
set_option maxRecDepth 100000
set_option maxHeartbeats 4000000
theorem uJ (s:ByteArray):Lib.strCells s=(lb s).map bv:=by
 unfold lb Lib.strCells;rw[List.map_map];rfl
theorem j4 {w:World} {ops:Array Oper} {rest:List Oper} {o:Oper} {a:Act} {Q:Exit→Act→World→Prop} (hgd:o.guard=none) (sl x:Operand)
 (ho:o.op= .call { callee:=.builtin .append,args:=#[sl,x],argTypes:=#[39,9]})
 (base:Nat) (v:Value) (l:List Nat) (hs:a.eval sl=v) (hown:Own w base v l) (s:ByteArray) (hx:a.eval x= .string s)
 (hbytes:l.length+s.size≤140737488355328) (hbase:base≤w.heap.size)
 (h:∀v' w',Own w' base v' (l++lb s)→w.grownBy w' v.ownBlock→wpList Tryz.prog ops Q rest (a.put o.dst v') w'):wpList Tryz.prog ops Q (o::rest) a w:=by
 obtain⟨i0,hi,hz0,hz1,hz2⟩:=info_parts dC;refine Lib.wpList_append_own_string w hgd sl x 39 9 ho base 5 i0 Tryz.underlying39 Tryz.underlying9 hi hz0 hz1 hz2 v l.length (l.map bv) hs hown.2 s hx (by unfold maxLen;omega) hbytes hbase ?_;intro v' w' h1 h2 _;refine h v' w' ⟨hown.1.append (aF0 s),?_⟩ h2;rw[List.length_append,List.map_append,eG,←uJ];exact h1
theorem Own.take {w:World} {base g c n:Nat} {l:List Nat} (h:Own w base (.slice (some ⟨g,0,none⟩) l.length c) l) (hn:n≤l.length):Own w base (.slice (some ⟨g,0,none⟩) n c) (l.take n):=by
 obtain⟨h0,h1,h2⟩:=h;refine⟨h0.take n,?_⟩;have hl:(l.take n).length=n:=by rw[List.length_take];omega
 refine⟨by simp,?_⟩;rcases h2 with ⟨e,_⟩|⟨g',cap,cur,e,hb,hg,hnc,hc,hs,ht⟩
 ·cases e
 ·simp only[Value.slice.injEq,Option.some.injEq,Addr.mk.injEq,and_true,true_and] at e
  obtain⟨rfl,rfl⟩:=e;refine .inr ⟨g,c,cur,by rw[hl],hb,hg,by omega,hc,hs,?_⟩;rw[hl,List.map_take,←ht,List.take_take,Nat.mul_one,Nat.mul_one,Nat.min_eq_left (by omega)]
theorem kJ (key:List Nat) (kv:Value) (s:ByteArray) (n:Nat) (w:World) (hn:n≤8160) (hk:Rs w kv key) (hkl:key.length≤140737488354000) (hs:s.size≤140737488353000):
 Calls Tryz.prog 125 #[kv,.string s,.int .i64 n] w (cG (Mac.dn key (lb s) n) w):=by
 have HQ:=aD hk;clear hk;have hi32:∀f,((Tryz.prog).info? 35).map (·.size)=some (aH .u8 32 f).size:=by intro f;rw[aA];rfl
 have d1:decide ((n:Int)<0)=false:=by simp
 have d2:decide ((8160:Int)<(n:Int))=false:=by simp;omega
 go_enter Tryz.func125,Tryz.ntmps125;go_wp2_with fail
 go_loopw [7,8,9] (fun v i _ wr=>∃j:Nat,j≤n∧i= .int .i64 j∧Own wr w.heap.size v (Mac.dv key (lb s) ((j+31) / 32))∧Below w.heap.size w wr) (fun _ i _ _=>n - (intOf i).toNat)
 case atStart=>exact⟨0,by omega,rfl,Own.nil _ _,Below.refl _ _⟩
 case round=>
  obtain⟨j,hj,rfl,hown,hbl⟩:=hrel;obtain⟨va,vcap,rfl⟩:=hown.form;rw[Mac.dv_length] at hown ⊢
  by_cases hlt:j<n
  ·have hd:decide ((j:Int)<(n:Int))=true:=by simp;omega
   have nj:0≤(j:Int):=by omega
   have lj:(j:Int)<8160:=by omega
   by_cases hm:j % 32=0
   ·obtain⟨q,hq⟩:∃q,j=32*q:=⟨j / 32,by omega⟩
    have dm:((j:Int) % 32==0)=true:=by rw[beq_iff_eq];omega
    have e1:(j+31) / 32=q:=by omega
    rw[e1] at hown ⊢;obtain⟨t,ht⟩:∃t,t=q+1:=⟨_,rfl⟩;have e2:(j:Int) / 32=(q:Int):=by omega
    have e3:(q:Int)+1=(t:Int):=by omega
    have hw:(t:Int) % 256=(t:Int):=by omega
    have htb:t<256:=by omega
    have nq:0≤(q:Int):=by omega
    have lq:(q:Int)<255:=by omega
    have HN:=aD (show Mac.dv key (lb s) q++Mac.bk key (lb s) t=Mac.dv key (lb s) ((j+1+31) / 32) by rw[show(j+1+31) / 32=q+1 by omega,ht];rfl);have HQ2:=aD (aQ hq (aQ ht hlt));have hsz:=hbl.size;have HI:=aD (aQ hown hbl);have hln:=Mac.dv_length key (lb s) q;have hbk:=Mac.bk_length key (lb s) t;have HL:=aD (aQ hln hbk);clear hown hbl hq ht e1 hm hln hbk;go_upto_region 9 with (first|(at_builtin;refine j4 rfl (.tmp 29) (.tmp 30) rfl wr.heap.size _ [t] rfl (bL wr wr.heap.size [t] (AllB.one htb) (Nat.le_refl _) (by simp)) s rfl (by simp;omega) (by simp) ?_;intro vb w2 hob hgb)|(go_at_call 127;go_must (refine(nJ key ([t]++lb s) _ _ _ (HQ.out.below (HI.out.2.trans ((aP ((Below.refl _ _).alloc (Nat.le_refl _) _) (Nat.le_refl _) hgb (fun g hg=>((bL wr wr.heap.size [t] (AllB.one htb) (Nat.le_refl _) (by simp)).lt g hg).1)).mono hsz))) hkl hob.bs.rs (by simp[eG];omega)).mono ?_;rintro e w3 ⟨rfl,hb3⟩))|(refine wpList_store_rowTo rfl _ _ _ rfl rfl w3.heap.size _ rfl rfl _ _ (heap_alloc_new _ _) (hi32 _) (by rw[aA];rfl) (aL _ _ _) ?_;generalize hV:World.setRow _ w3.heap.size _=V));have hb2:Below wr.heap.size wr w2:=aP ((Below.refl _ _).alloc (Nat.le_refl _) _) (Nat.le_refl _) hgb (fun g hg=>((bL wr wr.heap.size [t] (AllB.one htb) (Nat.le_refl _) (by simp)).lt g hg).1);have hb13:Below wr.heap.size wr w3:=hb2.trans (hb3.mono hb2.size);have hbV:Below wr.heap.size wr V:=by rw[←hV];exact below_setRow (hb13.alloc hb13.size _) hb13.size _
    have hA:isArr V w3.heap.size 35 .u8 32 (Mac.hm key (t::lb s)):=by
     rw[←hV];exact setRow_heap _ _ _ _ _ _ (heap_alloc_new _ _)
    have hrr:Rs V (.slice (some ⟨w3.heap.size,0,none⟩) 32 32) (Mac.bk key (lb s) t):=iS hA (fun i _=>Mac.hm_lt _ _ i) (by omega);have Z:=aD (aQ hrr (aQ (HI.out.1.below hbV) (HI.out.2.trans (hbV.mono hsz))));have hzV:=Z.out.2.2.size;clear hbV hV hA hrr hb3 hgb hob hb2 hb13;generalize w3.heap.size=gi at Z ⊢;go_wp2_with (at_builtin;go_must (refine bB rfl _ _ rfl w.heap.size _ _ rfl Z.out.2.1 _ _ rfl Z.out.1 (by rw[HL.out.1,HL.out.2];have:=HQ2.out;omega) hzV ?_;intro v4 w4 h4 g4;have hb4:=aP Z.out.2.2 (Nat.le_refl _) g4 (fun g hg=>(Z.out.2.1.lt g hg).1);rw[HN.out] at h4;have Y:=aD (aQ h4 hb4);clear h4 g4 hb4));go_roundw
    case rel=>exact⟨j+1,by have:=HQ2.out;omega,by go_num,Y.out.1,Y.out.2⟩
    case measure=>simp[intOf];have:=HQ2.out;omega
   ·have dm:((j:Int) % 32==0)=false:=by rw[beq_eq_false_iff_ne];omega
    have e1:(j+31) / 32=(j+1+31) / 32:=by omega
    rw[e1] at hown ⊢;have HI:=aD (aQ hown hbl);have HLT:=aD hlt;clear hown hbl e1 hm;go_wp2_with fail;go_roundw
    case rel=>exact⟨j+1,by have:=HLT.out;omega,by go_num,HI.out.1,HI.out.2⟩
    case measure=>simp[intOf];have:=HLT.out;omega
  ·obtain rfl:j=n:=by omega
   have hd:decide ((j:Int)<(j:Int))=false:=by simp
   have hn31:j≤32*((j+31) / 32):=by omega
   have e:(Mac.dv key (lb s) ((j+31) / 32)).take j=Mac.dn key (lb s) j:=rfl;have hln:=Mac.dv_length key (lb s) ((j+31) / 32);have HB:=aD hbl;generalize Mac.dv key (lb s) ((j+31) / 32)=L at hown e hln;generalize 32*((j+31) / 32)=z at hown hn31 hln ⊢;have E:=aD e;rw[←hln] at hown hn31 ⊢;have HO:=aD hown;rcases hown.cases with ⟨h',hnil⟩|⟨g,cap,h',hb,hg,hl,hc,hcell,hf⟩
   ·simp only[Value.slice.injEq] at h'
    obtain⟨rfl,h0,rfl⟩:=h';have hj0:j=0:=by omega
    subst hj0;have ez:(L.length:Int)=0:=by omega
    have HE:Hid (Own wr w.heap.size (.slice none 0 0) (Mac.dn key (lb s) 0)):=aD (by rw[←E.out,List.take_zero];exact Own.nil _ _);rw[h0];clear hown hlt hbl hln hnil hn31 h0 ez e HO;go_wp2_with fail;go_ret;exact⟨_,rfl,HE.out,HB.out⟩
   ·simp only[Value.slice.injEq,true_and] at h'
    obtain⟨rfl,rfl⟩:=h';have nc:(j:Int)≤(vcap:Int):=by omega
    have nj:0≤(j:Int):=by omega
    have HE:Hid (Own wr w.heap.size (.slice (some ⟨g,0,none⟩) j vcap) (Mac.dn key (lb s) j)):=aD (by rw[←E.out];exact HO.out.take hn31);clear hown hlt hbl hln hn31 hcell hf e HO;go_wp2_with fail;go_ret;exact⟨_,rfl,HE.out,HB.out⟩
end Go.Proofs.YtcoolgnlhheaiaaGreatDoor
namespace Go.Proofs.YtcoolgnlhheaiaaGreatDoor
open Go.RowKit Go.Deep
set_option linter.all false
set_option maxRecDepth 100000
set_option maxHeartbeats 4000000
theorem sC (f:Nat→Nat):((Tryz.prog).info? 22).map (·.size)=some (aH .u8 16 f).size:=by rw[aA];rfl
def Mac.k16 (key lab:List Nat) (i:Nat):Nat:=(Mac.dn key lab 16).getD i 0
attribute [local irreducible] wpAnyH in
theorem yH (key:List Nat) (kv:Value) (s:ByteArray) (w:World) (hk:Rs w kv key) (hkl:key.length≤140737488354000) (hs:s.size≤140737488353000) (hK:Consts w Sha.tab):
 Calls Tryz.prog 263 #[kv,.string s] w fun e w'=>e= .returned (.agg (aH .u8 16 (Mac.k16 key (lb s))))∧Below w.heap.size w w':=by
 have HK:=aD hK;clear hK;have HQ:=aD hk;clear hk;go_enter Tryz.func263,Tryz.ntmps263;go_upto_region 2 with fail;generalize hW:(World.alloc _ _:World)=V;have INV:Below w.heap.size w V∧isArr V w.heap.size 22 .u8 16 (fun _=>0)∧isArr V (w.heap.size+1) 22 .u8 16 (fun _=>0):=by
  have z1:∀o:Obj,w.heap.size+1=(w.alloc o).heap.size:=fun _=>by simp
  have zz:∀u:World,isArr (u.alloc (.cells #[.int .u8 0,.int .u8 0,.int .u8 0,.int .u8 0,.int .u8 0,.int .u8 0,.int .u8 0,.int .u8 0,.int .u8 0,.int .u8 0,.int .u8 0,.int .u8 0,.int .u8 0,.int .u8 0,.int .u8 0,.int .u8 0] 22)) u.heap.size 22 .u8 16 (fun _=>0):=fun u=>
   cM _ _ _ _ _ _ rfl (fun i hi=>by
    obtain rfl|rfl|rfl|rfl|rfl|rfl|rfl|rfl|rfl|rfl|rfl|rfl|rfl|rfl|rfl|rfl:i=0∨i=1∨i=2∨i=3∨i=4∨i=5∨i=6∨i=7∨i=8∨i=9∨i=10∨i=11∨i=12∨i=13∨i=14∨i=15:=by omega
    all_goals rfl)
  rw[←hW];refine⟨((Below.refl _ _).alloc (Nat.le_refl _) _).alloc (by simp) _,(zz w).alloc _,?_⟩;rw[z1];exact zz _
 have I0:=aD INV;clear hW INV;obtain⟨g,hg⟩:∃g,g=w.heap.size+1:=⟨_,rfl⟩;rw[←hg] at I0 ⊢;have hgw:w.heap.size<g:=by omega
 have HG:=aD hg;clear hg;obtain⟨kx,kn,km,rfl⟩:∃a n c,kv= .slice a n c:=by obtain⟨a,c,e⟩:=HQ.out.form;exact⟨a,_,c,e⟩
 refine bO Tryz.f263 2 5 (fun w'=>Below w.heap.size w w') (by kernel_rfl) (by kernel_rfl) (by kernel_rfl) (aU I0.out.1 1) (fun K hK h0=>?_);refine aW (listed':=#[false,false,false,false,false]) (by kernel_rfl) rfl ?_;have HF:=aD hK;clear hK;refine aX 0 6 (.slice (some ⟨g,0,none⟩) 16 16) (fun _ _=>by kernel_rfl) h0 ?_;simp only[Act.put,aJ,aK,aI];refine aX 1 7 (.slice kx kn km) (fun _ _=>by kernel_rfl) h0 ?_;simp only[Act.put,aJ,aK,aI];refine aX 2 8 (.string s) (fun _ _=>by kernel_rfl) h0 ?_;simp only[Act.put,aJ,aK,aI];refine bE 3 9 262 #[.slice kx kn km,.string s,.int .i64 16] (by kernel_rfl) (by kernel_rfl) ?_;refine(pO key _ s 16 _ (by omega) (HQ.out.below h0) hkl hs (HK.out.below h0)).mono ?_;rintro e w6 ⟨v6,rfl,ho6,hb6⟩;have h1:Below w.heap.size w w6:=h0.trans (hb6.mono h0.size);have hA:=(I0.out.2.2.drewN 1).below hb6 I0.out.2.2.lt;have hR:=(I0.out.2.1.drewN 1).below hb6 I0.out.2.1.lt;have hln:=Mac.dn_length key (lb s) 16;refine⟨_,rfl,h1,?_⟩;simp only[Act.put,aJ,aK,aI];refine aR 4 (by kernel_rfl) (by kernel_rfl) (HStep.of_law #[] (by kernel_rfl) fun K' hK'=>?_);refine dK rfl (.tmp 6) (.tmp 9) (by kernel_rfl) g 16 _ _ (by kernel_rfl) hA v6 _ (by kernel_rfl) ho6.bs.rs ?_;intro w7 hA7 hg7;have h7:Below w.heap.size w w7:=aP h1 (Nat.le_refl _) hg7 (fun q hq=>by cases hq;omega);have hR7:=hR.of_block (hg7.block _ hR.lt (by simp;omega));have hA8:isArr w7 g 22 .u8 16 (Mac.k16 key (lb s)):=hA7.congr fun i hi=>by rw[if_pos (by omega)];rfl
 refine hK' _ _ h7 ?_;have hd:(opn (iJ Tryz.f263 2) 4).dst=some 10:=by kernel_rfl
 rw[show({ opn (iJ Tryz.f263 2) 4 with guard:=none}:Oper).dst=some 10 from hd];refine aZ (by kernel_rfl) (HF.out _ _ ?_);simp only[Act.put,aJ,aK,aI];clear HF h0 h1 hA hR hA7 hg7 I0;go_wp2_with (first|refine wpList_load_row rfl _ _ rfl g rfl _ _ (0,0) _ hA8 rfl rfl (sC _) ?_|(refine wpList_store_row rfl _ _ _ rfl w.heap.size _ rfl rfl _ _ hR7 (sC _) ((aA _ _ _).trans (aA _ _ _).symm) (aL _ _ _) ?_));exact bodyPost_ret (results_cell_row rfl _ _ w.heap.size _ _ (0,0) _ rfl (setRow_heap _ w.heap.size _ _ _ (0,0) hR7) rfl rfl (sC _)) rfl ⟨rfl,below_setRow h7 (Nat.le_refl _) _⟩
end Go.Proofs.YtcoolgnlhheaiaaGreatDoor
