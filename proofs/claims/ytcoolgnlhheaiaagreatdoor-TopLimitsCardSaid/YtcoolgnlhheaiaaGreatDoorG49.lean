import Derived.Test.YtcoolgnlhheaiaaGreatDoorG47
import Derived.Test.YtcoolgnlhheaiaaGreatDoorG48
namespace Go.Proofs.YtcoolgnlhheaiaaGreatDoor
open Go.RowKit Go.Deep Go.Maps Go.ChangeMaps Go.MapKept Go.WideShapes
set_option linter.all false
set_option maxRecDepth 100000
set_option maxHeartbeats 4000000
structure RunO where
 k:Nat
 n:Int
 x:Value
 y:Value
 f:Nat
 c:Int
def RunO.a (o:RunO):Array Value:=mS o.k o.n o.x o.y
theorem RunO.a_size (o:RunO):o.a.size=4:=rfl
def wU:Array Value:=#[.nilFunc,.func (.func 63) #[] #[],.func (.func 64) #[] #[],.func (.func 65) #[] #[],.func (.func 66) #[] #[],.func (.func 67) #[] #[],.func (.func 68) #[] #[]]
theorem aEQ:(Tryz.prog.info? 147).map (·.size)=some wU.size:=by kernel_rfl
theorem aH2:(#[.nilFunc,.nilFunc,.nilFunc,.nilFunc,.nilFunc,.nilFunc,.nilFunc]:Array Value).size=wU.size:=rfl
theorem aG8:wU.all (·.oneCell')=true:=by kernel_rfl
def fI (k:Nat) (c now:Int) (n:Nat) (f:Nat→Nat):Array Value:=#[.int .i64 k,.int .i64 c,.int .i64 now,.int .i64 n]++aH .u8 32 f
structure RunS where
 N:Nat
 D:Dsk.D
 V:Vf.V
def RunS.live (s:RunS):Nat:=(Vf.live s.D s.V).length
def zB (os:List RunO) (S:Nat→RunS) (es:List (List Value)):Prop:=∀i x,es[i]? =some x→∃o f,os[i]? =some o∧x=(fI o.k o.c (S (i+1)).V.now (S (i+1)).live f).toList
def sH (os:List RunO) (S:Nat→RunS) (w:World) (e:Ending) (w':World):Prop:=
 ∃rv d es,e= .returned (.tuple #[rv,.pointer (some ⟨d,0,none⟩),.nilIface])∧RowOf w' w.heap.size 38 36 rv es∧es.length=os.length∧zB os S es∧Below w.heap.size w w'
theorem aBB {w:World} {m:Nat} {sk n:Int} {key:Nat→Nat} {t:TypeId} (h:Hb w m (mP key sk n) t):∀j y,(aH .u8 16 key)[j]? =some y→w.cell? ((⟨m,0,none⟩:Addr).add j)=some y:=fun j y hj=>by
 rw[Addr.add_mid,Nat.zero_add];have hj':j<16:=by have:=(Array.getElem?_eq_some_iff.1 hj).1;rwa [aA] at this
 refine h.cell ?_;unfold mP;rw[Array.getElem?_append_left (by rw[aA];omega)];exact hj
theorem aEA:Tryz.prog.built 147 [(1,.func (.func 63) #[] #[]),(2,.func (.func 64) #[] #[]),(3,.func (.func 65) #[] #[]),(4,.func (.func 66) #[] #[]),(5,.func (.func 67) #[] #[]),(6,.func (.func 68) #[] #[])]=some wU:=by kernel_rfl
theorem aGT (o:Oper) (a:Act) (w:World) (ho:o.op= .build 147 #[(1,.func 63),(2,.func 64),(3,.func 65),(4,.func 66),(5,.func 67),(6,.func 68)]):(execOp a.eval o).run Tryz.prog w= .ok (.value (.agg wU)) w:=by
 unfold execOp;simp only[ho];rw[show(#[(1,.func 63),(2,.func 64),(3,.func 65),(4,.func 66),(5,.func 67),(6,.func 68)]:Array (Nat×Operand)).map (fun(i,x)=>(i,a.eval x))=#[(1,.func (.func 63) #[] #[]),(2,.func (.func 64) #[] #[]),(3,.func (.func 65) #[] #[]),(4,.func (.func 66) #[] #[]),(5,.func (.func 67) #[] #[]),(6,.func (.func 68) #[] #[])] by simp[Act.eval]];rw[Sem.run_bind,run_build w 147 _ _ aEA];rfl
theorem aDP (key:Nat→Nat) (d v:Nat):Tryz.prog.built 144 [(0,.agg (aH .u8 16 key)),(1,.pointer (some ⟨d,0,none⟩)),(2,.pointer (some ⟨v,0,none⟩))]=some (lK key d v):=by kernel_rfl
theorem aGX (o:Oper) (a:Act) (w:World) (i j k:Operand) (key:Nat→Nat) (d v:Nat) (ho:o.op= .build 144 #[(0,i),(1,j),(2,k)]) (hi:a.eval i= .agg (aH .u8 16 key)) (hj:a.eval j= .pointer (some ⟨d,0,none⟩)) (hk:a.eval k= .pointer (some ⟨v,0,none⟩)):
 (execOp a.eval o).run Tryz.prog w= .ok (.value (.agg (lK key d v))) w:=by
 unfold execOp;simp only[ho];rw[show(#[(0,i),(1,j),(2,k)]:Array (Nat×Operand)).map (fun(i,x)=>(i,a.eval x))=#[(0,.agg (aH .u8 16 key)),(1,.pointer (some ⟨d,0,none⟩)),(2,.pointer (some ⟨v,0,none⟩))] by simp[hi,hj,hk]];rw[Sem.run_bind,run_build w 144 _ _ (aDP key d v)];rfl
theorem aBS (o:Oper) (a:Act) (w:World) (i:Operand) (key:Nat→Nat) (d v:Nat) (ho:o.op= .box 144 i) (hi:a.eval i= .agg (lK key d v)):
 (execOp a.eval o).run Tryz.prog w= .ok (.value (.pointer (some ⟨w.heap.size,0,none⟩))) (w.alloc (.cells (lK key d v) 144)):=by
 unfold execOp;simp only[ho,hi]
 kernel_rfl
theorem RowOf.stp {w w':World} {base k:Nat} {e:TypeId} {v:Value} {es:List (List Value)} {F F':Nat→Prop} (h:RowOf w base e k v es) (st:Stp F F' w w') (hn:∀g,v.ownBlock=some g→¬F g):RowOf w' base e k v es:=
 h.of_block fun g hg=>st.keep g (h.lt hg).2 (hn g hg)
theorem RowOf.neO {w:World} {base k b:Nat} {e t:TypeId} {v:Value} {es:List (List Value)} {cs:Array Value} (h:RowOf w base e k v es) (hb:Hb w b cs t) (hne:t≠e):some b≠v.ownBlock:=fun e'=>h.ne hb hne b e'.symm rfl
theorem Vx.otherO {w w':World} {v d N:Nat} {key:Nat→Nat} {b:Dsk.B} {q:Vf.Q} {D:Dsk.D} {V:Vf.V} {r:Option Nat} (h:Vx w v d key b q N D V) (g:w.grownBy w' r) (hF:∀i,r=some i→¬VF v d b q i∧¬IntB w i):Vx w' v d key b q N D V:=by
 cases r with
 |none=>exact h.only g
 |some i=>exact h.other g (hF i rfl).1 (hF i rfl).2
theorem aIV {v d N:Nat} {key:Nat→Nat} {b:Dsk.B} {q:Vf.Q} {D:Dsk.D} {V:Vf.V} {now:Int} {W:World} (hu:D.down=false) (hn:now=V.now) (h:Vx W v d key b q N D V):
 Calls Tryz.prog 25 #[.pointer (some ⟨v,0,none⟩)] W fun e w'=>e= .returned (.int .i64 now)∧Vx w' v d key b q N D V∧W.grownBy w' (some v):=by
 have:=aHA v d key b q N D V W h;rw[Vf.look_up hu,show bQ D q=q by unfold bQ;rw[hu];rfl,←hn] at this;exact this
theorem aIA {v d N:Nat} {key:Nat→Nat} {b:Dsk.B} {q:Vf.Q} {D:Dsk.D} {V:Vf.V} {X:List bC} {W:World} (hu:D.down=false) (hX:X=Vf.live D V) (hN:N<1000000) (h:Vx W v d key b q N D V):
 Calls Tryz.prog 14 #[.pointer (some ⟨v,0,none⟩)] W fun e w'=>∃u,e= .returned u∧RowOf w' W.heap.size 73 33 u (X.map fJ)∧Vx w' v d key b q N D V∧W.grownBy w' (some v):=by
 have:=aCZ v d key b q N D V W h hN;rw[Vf.look_up hu,show bQ D q=q by unfold bQ;rw[hu];rfl,←hX] at this;exact this
theorem aC3 (k:Nat) (c now:Int) (n:Nat) (f:Nat→Nat):(fI k c now n f).size=36:=by unfold fI;rw[Array.size_append,aA];rfl
theorem aFN (k:Nat) (c now:Int) (n:Nat) (f:Nat→Nat):(fI k c now n f).all (·.oneCell')=true:=by
 unfold fI;rw[Array.all_append,aL];simp only[List.all_toArray,List.all_cons,List.all_nil];rfl
theorem aCJ (k n:Nat) (c now:Int) (f:Nat→Nat):Tryz.prog.built 38 [(0,.int .i64 (k:Int)),(1,.int .i64 c),(2,.int .i64 now),(3,.int .i64 (n:Int)),(4,.agg (aH .u8 32 f))]=some (fI k c now n f):=by kernel_rfl
theorem aBY (o:Oper) (a:Act) (w:World) (x0 x1 x2 x3 x4:Operand) (k n:Nat) (c now:Int) (f:Nat→Nat) (ho:o.op= .build 38 #[(0,x0),(1,x1),(2,x2),(3,x3),(4,x4)]) (h0:a.eval x0= .int .i64 (k:Int)) (h1:a.eval x1= .int .i64 c) (h2:a.eval x2= .int .i64 now) (h3:a.eval x3= .int .i64 (n:Int)) (h4:a.eval x4= .agg (aH .u8 32 f)):
 (execOp a.eval o).run Tryz.prog w= .ok (.value (.agg (fI k c now n f))) w:=by
 unfold execOp;simp only[ho];rw[show(#[(0,x0),(1,x1),(2,x2),(3,x3),(4,x4)]:Array (Nat×Operand)).map (fun(i,x)=>(i,a.eval x))=#[(0,.int .i64 (k:Int)),(1,.int .i64 c),(2,.int .i64 now),(3,.int .i64 (n:Int)),(4,.agg (aH .u8 32 f))] by simp[h0,h1,h2,h3,h4]];rw[Sem.run_bind,run_build w 38 _ _ (aCJ k n c now f)];rfl
theorem aDC (o:Oper) (a:Act) (w:World) (i:Operand) (k n:Nat) (c now:Int) (f:Nat→Nat) (ho:o.op= .buildSlice 28 1 #[(0,i)]) (hi:a.eval i= .agg (fI k c now n f)):
 (execOp a.eval o).run Tryz.prog w= .ok (.value (.slice (some ⟨w.heap.size,0,none⟩) 1 1)) (w.alloc (.cells (fI k c now n f) 38)):=by
 unfold execOp;simp only[ho];rw[show(#[(0,i)]:Array (Nat×Operand)).map (fun(i,x)=>(i,a.eval x))=#[(0,.agg (fI k c now n f))] by simp[hi]]
 kernel_rfl
theorem tR (o:Oper) (a:Act) (w:World) (s x:Operand) (v u v':Value) (w':World) (t:TypeId) (ho:o.op= .call { callee:=.builtin .append,args:=#[s,x],argTypes:=#[t,t]}) (hs:a.eval s=v) (hx:a.eval x=u)
 (hrun:(Builtin.append_ #[t,t] o.type #[v,u]).run Tryz.prog w= .ok v' w'):(execOp a.eval o).run Tryz.prog w= .ok (.value v') w':=by
 unfold execOp;simp only[ho,resolve,invoke,builtin,Sem.run_bind,Sem.run_pure,Result.andThen_ok,List.map_toArray,List.map_cons,List.map_nil,hs,hx,hrun]
theorem uT (o:Oper) (a:Act) (w:World) (ho:o.op= .alloc 36):(execOp a.eval o).run Tryz.prog w= .ok (.value (.pointer (some ⟨w.heap.size,0,none⟩))) (w.alloc (.cells (aH .u8 32 fun _=>0) 36)):=by
 unfold execOp;simp only[ho]
 kernel_rfl
theorem aIP {k f:Nat} (hk:k<7) (h:wU[k]? =some (.func (.func f) #[] #[])):f=63∨f=64∨f=65∨f=66∨f=67∨f=68:=by
 obtain rfl|rfl|rfl|rfl|rfl|rfl|rfl:k=0∨k=1∨k=2∨k=3∨k=4∨k=5∨k=6:=by omega
 all_goals (simp[wU] at h;try subst h;simp)
theorem zP (o:Oper) (a:Act) (w:World) (x p q:Operand) (f:Nat) (u v:Value) (hf:f=63∨f=64∨f=65∨f=66∨f=67∨f=68)
 (ho:o.op= .call { callee:=.value x,args:=#[p,q],argTypes:=#[142,42]}) (hx:a.eval x= .func (.func f) #[] #[]) (hp:a.eval p=u) (hq:a.eval q=v):(execOp a.eval o).run Tryz.prog w= .ok (.enter f #[u,v]) w:=by
 unfold execOp;simp only[ho,resolve,hx,hp,hq,List.map_toArray,List.map_cons,List.map_nil,Sem.run_bind,Sem.run_pure,Result.andThen_ok];rcases hf with rfl|rfl|rfl|rfl|rfl|rfl
 all_goals kernel_rfl
theorem aFB (o:Oper) (a:Act) (w:World) (x i:Operand) (g k:Nat) (hk:k<7) (ho:o.op= .indexAddr 147 x i) (hx:a.eval x= .pointer (some ⟨g,0,none⟩)) (hi:a.eval i= .int .i64 (k:Int)):
 (execOp a.eval o).run Tryz.prog w= .ok (.value (.pointer (some ⟨g,k,none⟩))) w:=by
 unfold execOp;simp only[ho,hx,hi];obtain rfl|rfl|rfl|rfl|rfl|rfl|rfl:k=0∨k=1∨k=2∨k=3∨k=4∨k=5∨k=6:=by omega
 all_goals kernel_rfl
theorem zV:j6 38 36 64:=rK (by decide) (by kernel_rfl)
theorem aCD {w:World} {ops:Array Oper} {rest:List Oper} {o:Oper} {a:Act} {Q:Exit→Act→World→Prop} (hgd:o.guard=none) (l c:Operand) (ho:o.op= .makeSlice 28 l c) (n:Nat) (hl:a.eval l= .int .i64 0) (hc:a.eval c= .int .i64 (n:Int)) (hn:n≤1000)
 (h:∀v w',RowOf w' w.heap.size 38 36 v []→w.grownBy w' none→wpList Tryz.prog ops Q rest (a.put o.dst v) w'):wpList Tryz.prog ops Q (o::rest) a w:=by
 obtain⟨i,z,hi,hz,hk,hb,_⟩:=zV.is;refine wpList_make_own w hgd l c _ ho w.heap.size 38 i z 36 Tryz.underlying28 hi hz hk .i64 .i64 _ n hl hc rfl (by rw[hb];omega) (by unfold maxLen;omega) (Nat.le_refl _) fun w' ho' hg=>?_
 exact h _ w' ⟨by simp,by simp,ho'⟩ hg
theorem kZ {ops:Array Oper} {S:World→Prop} {K:Act→World→Prop} {n:Nat} {listed:Array Bool} {a:Act} {w:World} (i:Nat) (d:Tmp) (v:Value) (w':World) (hr:Region.ready .any ops listed=[i]) (h1:Nat.blt i ops.size=true) (hw:Region.wanted (opn ops i) (yielded ops a.tmps)=true)
 (hd:(opn ops i).dst=some d) (hrun:(execOp a.eval { opn ops i with guard:=none}).run Tryz.prog w= .ok (.value v) w') (hS:S w') (h:wpAnyH Tryz.prog .any ops (nq K) S n (listed.setIfInBounds i true) (a.put (some d) v) w'):wpAnyH Tryz.prog .any ops (nq K) S (n+1) listed a w:=
 aR i hr h1 (HStep.of_law #[] hw fun _ hK=>cZ rfl v hrun (bH (hK _ _ hS (by rw[←hd] at h;exact h))))
theorem aHQ (key:Nat→Nat) (os:List RunO) (lv:Value) (base:Nat) (S:Nat→RunS) (w:World) (hos:RowOf w base 42 4 lv (os.map fun o=>o.a.toList)) (hn:os.length≤1000) (hS:S 0=⟨0,Dsk.fresh 8,⟨5,0,none⟩⟩) (hN:∀i,(S i).N<1000000) (hup:∀i,(S i).D.down=false)
 (hf:∀o∈os,o.k<7∧wU[o.k]? =some (.func (.func o.f) #[] #[])) (hone:∀o∈os,o.x.oneCell'=true∧o.y.oneCell'=true)
 (hr:∀o∈os,∀W,Calls Tryz.prog 61 #[.agg o.a] W fun e w'=>e= .returned (.bool true)∧W.grownBy w' none)
 (hs:∀i o,os[i]? =some o→∀m v d b q W,Below w.heap.size w W→(∀j,VF v d b q j→w.heap.size≤j)→Hb W m (lK key d v) 144→Vx W v d key b q (S i).N (S i).D (S i).V→
   Calls Tryz.prog o.f #[.pointer (some ⟨m,0,none⟩),.agg o.a] W (sN o.c v d key b q (S (i+1)).N (S (i+1)).D (S (i+1)).V W)):
 Calls Tryz.prog 37 #[.agg (mP key 5 8),lv] w (sH os S w):=by
 have hb:=Hb.new w (mP key 5 8) 33;have gr:=aG (aE w none) (.cells (mP key 5 8) 33);have hcz:=d8 key 5 8;obtain⟨la,lc,hl⟩:=hos.form;obtain⟨len,hlen⟩:∃n,n=os.length:=⟨_,rfl⟩;rw[List.length_map,←hlen] at hl;subst hl;have HL:=aD hlen;have hl5:len≤1000:=by omega
 have HH:=aD (aQ hS (aQ hN (aQ hup (aQ hf (aQ hr (aQ hs (aQ hone hos)))))));clear hlen hn hS hN hup hf hr hs hos hone;go_enter Tryz.func37,Tryz.ntmps37
 go_upto_region 3 with (first
  |refine aS (by kernel_rfl) _ _ rfl w.heap.size rfl _ _ (0,0) _ hb rfl rfl (by rw[d8];kernel_rfl) ?_
  |(go_at_call 60;refine(yL key _).mono ?_;rintro e w2 ⟨rfl,g2⟩))
 have G2:=aF gr g2;have hb2:=hb.only g2;have H2:=aD (aQ G2 hb2);clear gr hb g2 G2 hb2;go_upto_region 4 with fail
 go_loopw [23] (fun i wr=>∃k:Nat,k≤len∧i= .int .i64 k∧w2.grownBy wr none) (fun i _=>len - (intOf i).toNat)
 case atStart=>exact⟨0,by omega,rfl,aE _ _⟩
 case round=>
  obtain⟨k,hk,rfl,hg⟩:=hrel
  by_cases hlt:k<len
  ·obtain⟨y,hy⟩:∃y,os[k]? =some y:=⟨_,List.getElem?_eq_getElem (by have:=HL.out;omega)⟩
   have hmy:=List.mem_of_getElem? hy;have hry:=HH.out.2.2.2.2.1 y hmy;have hros:=HH.out.2.2.2.2.2.2.2;obtain⟨g,cap',hp,_,hgl⟩:=hros.pos (by rw[List.length_map,←HL.out];omega);obtain rfl:la=some ⟨g,0,none⟩:=by injection hp
   have hrg:=(hros.of_block (w':=wr) fun b hb=>(hg.block b (Nat.lt_of_lt_of_le (hros.lt hb).2 H2.out.1.size) (by simp)).trans (H2.out.1.block b (hros.lt hb).2 (by simp))).range (g:=g) rfl (i:=k) (x:=y.a.toList) (by rw[List.getElem?_map,hy];rfl);have HG:=aD hg;have hkz:(k:Int).toNat=k:=by omega
   have hes:=y.a_size;have ho1:y.a.all (·.oneCell')=true:=by
    have:=HH.out.2.2.2.2.2.2.1 y hmy;simp[RunO.a,mS,this.1,this.2];exact⟨rfl,rfl⟩
   clear hy hmy hg hp hros
   go_upto_region 6 with (first
    |refine wpList_load_mid rfl 42 _ rfl g (k*4) rfl y.a.toList _ hrg rfl rfl (by rw[Array.length_toList];kernel_rfl) ?_
    |(refine wpList_store_rowTo rfl _ _ _ rfl rfl wr.heap.size _ rfl rfl _ _ (heap_alloc_new _ _) (by kernel_rfl) (by rfl) ho1 ?_;generalize hV:World.setRow _ wr.heap.size _=V))
   obtain⟨hA,hgV⟩:=cK wr #[.int .i64 0,.int .i64 0,.slice none 0 0,.slice none 0 0] y.a 42;rw[hV] at hA hgV;have GV:=aD (aF HG.out hgV);clear hV hgV hrg
   go_wp2_with (first
    |refine aS (by kernel_rfl) _ _ rfl wr.heap.size rfl _ _ (0,0) _ hA rfl rfl (by kernel_rfl) ?_
    |(go_at_call 61;refine(hry _).mono ?_;clear hry;rintro e w3 ⟨rfl,g3⟩))
   all_goals first|omega|skip
   go_roundw
   case rel=>exact⟨k+1,by omega,by go_num,aF GV.out g3⟩
   case measure=>simp[intOf];omega
  ·have hkl:k=len:=by omega
   have HG:=aD hg;have HK:=aD hkl;clear hg hkl;go_upto_region 9 with fail
   all_goals first|omega|skip
   have hbc:Hb wr w.heap.size (mP key 5 8) 33:=H2.out.2.only HG.out;obtain⟨bc,hbcq⟩:∃x,x=w.heap.size:=⟨_,rfl⟩;rw[←hbcq] at hbc;simp only[←hbcq];have k16:=hbc.cell (aDI key 5 8);have k17:=hbc.cell (aIK key 5 8);have hdn:Calls Tryz.prog 32 #[.int .i64 8] wr (xW 8 wr):=tA 8 wr (by omega);have H9:=aD (aQ hbc (aF H2.out.1 HG.out));clear hbc hbcq;go_upto_region 10 with (go_at_call 32;refine hdn.mono ?_;clear hdn;rintro e W9 ⟨d,bd,rfl,dk9,g9,hnew9⟩);have k16:=g9.cell k16 (by simp);have hbc9:=H9.out.1.only g9;have HKR:=aD (aBB hbc9);have HVN:=aD (fun W' (hW:Below W9.heap.size W9 W')=>uX key d bd (Dsk.fresh 8) 5 W' (dk9.below hW) (by omega) (by omega));have HD9:=aD (aQ hnew9 (aF H9.out.2 g9));clear dk9 g9 hnew9 hbc9 k17;refine bO Tryz.f37 10 12 (fun w'=>Below W9.heap.size W9 w') (by kernel_rfl) (by kernel_rfl) (by kernel_rfl) (aU (Below.refl _ _) 1) (fun K hK h0=>?_);refine aW (listed':=#[false,false,false,false,false,false,false,false,false,false,false,false]) (by kernel_rfl) rfl ?_;have HF:=aD hK;clear hK;refine aX 0 37 (Value.pointer (some ⟨bc,0,none⟩)) (fun _ _=>by kernel_rfl) h0 ?_;simp only[Act.put,aJ,aK,aI];refine bG 1 38 (by kernel_rfl) 22 (.tmp 37) (by kernel_rfl) ⟨bc,0,none⟩ (by kernel_rfl) (aH .u8 16 key) _ (fun w' hw'=>fun j y hj=>((aC hw' none).cell (HKR.out j y hj) (by simp))) Tryz.underlying22 rfl (by kernel_rfl) h0 ?_;simp only[Act.put,aJ,aK,aI];refine aX 2 39 (Value.pointer (some ⟨d,0,none⟩)) (fun _ _=>by kernel_rfl) h0 ?_;simp only[Act.put,aJ,aK,aI];refine aX 3 40 (Value.pointer (some ⟨bc,0,none⟩)) (fun _ _=>by kernel_rfl) h0 ?_;simp only[Act.put,aJ,aK,aI];refine bG 4 41 (by kernel_rfl) 22 (.tmp 40) (by kernel_rfl) ⟨bc,0,none⟩ (by kernel_rfl) (aH .u8 16 key) _ (fun w' hw'=>fun j y hj=>((aC hw' none).cell (HKR.out j y hj) (by simp))) Tryz.underlying22 rfl (by kernel_rfl) h0 ?_;simp only[Act.put,aJ,aK,aI];refine aX 5 42 (Value.pointer (some ⟨bc,16,none⟩)) (fun _ _=>by kernel_rfl) h0 ?_;simp only[Act.put,aJ,aK,aI];refine bD 6 43 (by kernel_rfl) 2 (.tmp 42) (by kernel_rfl) ⟨bc,16,none⟩ (by kernel_rfl) (Value.int .i64 5) _ (fun w' hw'=>(aC hw' none).cell k16 (by simp)) Tryz.underlying2 rfl h0 ?_;simp only[Act.put,aJ,aK,aI];refine aX 7 44 (Value.pointer (some ⟨d,0,none⟩)) (fun _ _=>by kernel_rfl) h0 ?_;simp only[Act.put,aJ,aK,aI];refine bE 8 45 31 #[Value.agg (aH .u8 16 key),Value.int .i64 5,Value.pointer (some ⟨d,0,none⟩)] (by kernel_rfl) (by kernel_rfl) ?_;refine(HVN.out _ h0).mono ?_;rintro e wv ⟨v,rfl,hvz,vx,gv⟩;have h0:=bK h0 gv;refine⟨_,rfl,h0,?_⟩;simp only[Act.put,aJ,aK,aI];refine aX 9 46 (Value.agg (lK key d v)) (fun w' _=>aGX _ _ w' (.tmp 38) (.tmp 39) (.tmp 45) key d v (by kernel_rfl) (by kernel_rfl) (by kernel_rfl) (by kernel_rfl)) h0 ?_;simp only[Act.put,aJ,aK,aI];refine kZ 10 47 (Value.pointer (some ⟨wv.heap.size,0,none⟩)) (wv.alloc (.cells (lK key d v) 144)) (by kernel_rfl) (by kernel_rfl) (by kernel_rfl) (by kernel_rfl) (aBS _ _ wv (.tmp 46) key d v (by kernel_rfl) (by kernel_rfl)) (bK h0 (aG (aE wv none) _)) ?_;have h0:=bK h0 (aG (aE wv none) (.cells (lK key d v) 144));simp only[Act.put,aJ,aK,aI];refine aX 11 10 (Value.pointer (some ⟨wv.heap.size,0,none⟩)) (fun _ _=>by kernel_rfl) h0 ?_;simp only[Act.put,aJ,aK,aI];refine aZ (by kernel_rfl) (HF.out _ _ ?_);have hm:=Hb.new wv (lK key d v) 144;have gm:=aG (aE wv none) (.cells (lK key d v) 144);have vx1:=vx.only gm;obtain⟨m,hmq⟩:∃x,x=wv.heap.size:=⟨_,rfl⟩;rw[←hmq] at hm;simp only[←hmq];have hz9:W9.heap.size≤v:=hvz;generalize wv.alloc (.cells (lK key d v) 144)=W10 at*
   have HV:=aD (aQ vx1 (aQ hm (aQ (show ∀j,VF v d bd none j→w.heap.size≤j by
    rintro j (rfl|h|⟨x,hx,_⟩)
    ·have:=HD9.out.2.size;omega
    ·have:=HD9.out.1 j h;have:=H9.out.2.size;omega
    ·cases hx) (show Below w.heap.size w W10 from (aB HD9.out.2).trans (h0.mono HD9.out.2.size)))))
   clear hm gm vx1 hmq hz9 vx gv h0 hvz HF k16 HKR HVN
   go_upto_region 12 with (first
    |refine cZ rfl _ (aGT _ _ _ rfl) ?_
    |(refine wpList_store_rowTo rfl _ _ _ rfl rfl W10.heap.size wU rfl rfl _ _ (heap_alloc_new _ _) aEQ aH2 aG8 ?_;generalize hVd:World.setRow _ W10.heap.size _=W11))
   obtain⟨hdo,gdo⟩:=cK W10 #[.nilFunc,.nilFunc,.nilFunc,.nilFunc,.nilFunc,.nilFunc,.nilFunc] wU 147;rw[hVd] at hdo gdo;obtain⟨bt,hbt⟩:∃x,x=W10.heap.size:=⟨_,rfl⟩;rw[←hbt] at hdo;simp only[←hbt];have HD:=aD (aQ hdo gdo);clear hdo gdo hVd hbt;go_upto_region 14 with (refine aCD rfl _ _ rfl len rfl rfl hl5 ?_;intro rv0 W12 r12 g12);have hdo:=HD.out.1.only g12;obtain⟨vx1,hm1,hvf,hb10⟩:=HV.out;have g10:=aF HD.out.2 g12;have HI:=aD (aQ (vx1.only g10) (aQ (hm1.only g10) (aQ hvf (bK hb10 g10))));have hr12:=r12.mono (show w.heap.size≤W11.heap.size from Nat.le_trans hb10.size HD.out.2.size);clear vx1 hm1 hvf hb10 g10 r12 g12
   go_loopw [12,54] (fun r i wr=>∃(k:Nat) (b:Dsk.B) (q:Vf.Q) (es:List (List Value)),k≤len∧i= .int .i64 k∧RowOf wr w.heap.size 38 36 r es∧es.length=k∧zB os S es∧Vx wr v d key b q (S k).N (S k).D (S k).V∧Hb wr m (lK key d v) 144∧Hb wr bt wU 147∧(∀j,VF v d b q j→w.heap.size≤j)∧Below w.heap.size w wr) (fun r i _=>len - (intOf i).toNat)
   case atStart=>
    refine⟨0,bd,none,[],by omega,rfl,hr12,rfl,by intro i x h;simp at h,?_,HI.out.2.1,hdo,HI.out.2.2.1,HI.out.2.2.2⟩;rw[HH.out.1];exact HI.out.1
   case round=>
    obtain⟨k2,b,q,es,hk2,rfl,hrv,hesl,hok,hvx,hmx,hdx,hvf,hbw⟩:=hrel
    by_cases hlt2:k2<len
    ·obtain⟨y,hy⟩:∃y,os[k2]? =some y:=⟨_,List.getElem?_eq_getElem (by have:=HL.out;omega)⟩
     have hmy:=List.mem_of_getElem? hy;have hros:=HH.out.2.2.2.2.2.2.2;obtain⟨g,cap',hp,_,hgl⟩:=hros.pos (by rw[List.length_map,←HL.out];omega);obtain rfl:la=some ⟨g,0,none⟩:=by injection hp
     have hrg:=(hros.of_block (w':=wr) fun b hb=>hbw.block b (hros.lt hb).2).range (g:=g) rfl (i:=k2) (x:=y.a.toList) (by rw[List.getElem?_map,hy];rfl);have hkz:(k2:Int).toNat=k2:=by omega
     have hes:=y.a_size;have ho1:y.a.all (·.oneCell')=true:=by
      have:=HH.out.2.2.2.2.2.2.1 y hmy;simp[RunO.a,mS,this.1,this.2];exact⟨rfl,rfl⟩
     have HY:=aD (aQ hy hmy);have HF7:=aD (HH.out.2.2.2.1 y hmy);have HI2:=aD (aQ hrv (aQ hesl (aQ hok (aQ hvx (aQ hmx (aQ hdx (aQ hvf hbw)))))));clear hy hmy hp hros hrv hesl hok hvx hmx hdx hvf hbw
     go_upto_region 16 with (first
      |refine wpList_load_mid rfl 42 _ rfl g (k2*4) rfl y.a.toList _ hrg rfl rfl (by rw[Array.length_toList];kernel_rfl) ?_
      |(refine wpList_store_rowTo rfl _ _ _ rfl rfl wr.heap.size _ rfl rfl _ _ (heap_alloc_new _ _) (by kernel_rfl) (by rfl) ho1 ?_;generalize hV:World.setRow _ wr.heap.size _=W15))
     all_goals first|omega|skip
     obtain⟨hA,hgV⟩:=cK wr #[.int .i64 0,.int .i64 0,.slice none 0 0,.slice none 0 0] y.a 42;rw[hV] at hA hgV;obtain⟨b14,hb14⟩:∃x,x=wr.heap.size:=⟨_,rfl⟩;rw[←hb14] at hA;simp only[←hb14];obtain⟨hrv,hesl,hok,hvx,hmx,hdx,hvf,hbw⟩:=HI2.out;have gd:=aM (aE W15 none) 1;have VX:=aD (hvx.only hgV);have HM:=aD (hmx.only hgV);have HS:=aD (aQ hA (hdx.only hgV));have NF:=aD (aQ (VX.out.alien hA (by decide) (by decide) (by decide) (by decide) (by decide) (by decide) (by decide) (by decide)) (VX.out.alien HS.out.2 (by decide) (by decide) (by decide) (by decide) (by decide) (by decide) (by decide) (by decide)));have HC:=aD (fun W' (g:W15.grownBy W' none)=>HH.out.2.2.2.2.2.1 k2 y HY.out.1 m v d b q W' (bK (bK hbw hgV) g) hvf (HM.out.only g) (VX.out.only g));have H15:=aD (aQ (hrv.keep hgV fun _ _=>by simp) (bK hbw hgV));clear hV hgV hrg hb14 hA hrv hesl hok hvx hmx hdx hvf hbw;refine bO Tryz.f37 16 13 (fun w'=>Hb w' b14 y.a 42∧Hb w' bt wU 147) (by kernel_rfl) (by kernel_rfl) (by kernel_rfl) HS.out (fun K hK h0=>?_);refine aW (listed':=#[false,false,false,false,false,false,false,false,false,false,false,false,false]) (by kernel_rfl) rfl ?_;have HF:=aD hK;clear hK;refine aX 0 59 (Value.pointer (some ⟨b14,0,none⟩)) (fun _ _=>by kernel_rfl) h0 ?_;simp only[Act.put,aJ,aK,aI];refine bD 1 60 (by kernel_rfl) 3 (.tmp 59) (by kernel_rfl) ⟨b14,0,none⟩ (by kernel_rfl) (Value.int .i64 (y.k:Int)) _ (fun w' hw'=>hw'.1.cell rfl) Tryz.underlying3 rfl h0 ?_;simp only[Act.put,aJ,aK,aI];refine aX 2 61 (Value.pointer (some ⟨bt,y.k,none⟩)) (fun w' _=>aFB _ _ w' (.tmp 11) (.tmp 60) bt y.k HF7.out.1 (by kernel_rfl) (by kernel_rfl) (by kernel_rfl)) h0 ?_;simp only[Act.put,aJ,aK,aI];refine bD 3 62 (by kernel_rfl) 145 (.tmp 61) (by kernel_rfl) ⟨bt,y.k,none⟩ (by kernel_rfl) (Value.func (.func y.f) #[] #[]) _ (fun w' hw'=>hw'.2.cell HF7.out.2) Tryz.underlying145 rfl h0 ?_;simp only[Act.put,aJ,aK,aI];refine aX 4 63 (Value.pointer (some ⟨m,0,none⟩)) (fun _ _=>by kernel_rfl) h0 ?_;simp only[Act.put,aJ,aK,aI];refine bG 5 64 (by kernel_rfl) 42 (.tmp 14) (by kernel_rfl) ⟨b14,0,none⟩ (by kernel_rfl) (y.a) _ (fun w' hw'=>lJ hw'.1) Tryz.underlying42 rfl (by kernel_rfl) h0 ?_;simp only[Act.put,aJ,aK,aI];refine fA (α:=Dsk.B×Vf.Q×(Nat→Nat)×Nat) 1 #[true,true,true,true,true,true,true,true,true,true,true,true,false] (fun a x=>(Act.put (Act.put (Act.put (Act.put (Act.put (Act.put a (some 65) (Value.tuple #[.int .i64 y.c,.agg (aH .u8 32 x.2.2.1)])) (some 58) (Value.tuple #[.int .i64 y.c,.agg (aH .u8 32 x.2.2.1)])) (some 66) (Value.int .i64 y.c)) (some 67) (Value.agg (aH .u8 32 x.2.2.1))) (some 16) (Value.pointer (some ⟨x.2.2.2,0,none⟩))) (some 15) (Value.int .i64 y.c))) (fun x w'=>Vx w' v d key x.1 x.2.1 (S (k2+1)).N (S (k2+1)).D (S (k2+1)).V∧Stp (VF v d b q) (VF v d x.1 x.2.1) W15 w'∧Hb w' x.2.2.2 (aH .u8 32 fun _=>0) 36∧W15.heap.size≤x.2.2.2) (fun x w3 hc=>?_) (fun CUT=>?_);rotate_left
     ·simp only[Act.put,aJ,aK,aI] at CUT
      refine cU 6 10 (by kernel_rfl) (by kernel_rfl) (eF 65 y.f #[.pointer (some ⟨m,0,none⟩),.agg y.a] (by kernel_rfl) (zP _ _ _ (.tmp 62) (.tmp 63) (.tmp 64) y.f _ _ (aIP HF7.out.1 HF7.out.2) (by kernel_rfl) (by kernel_rfl) (by kernel_rfl) (by kernel_rfl)) _ (HC.out _ gd) (fun e wk hr=>?_)) (HStep.value (some 16) (by kernel_rfl) (by kernel_rfl) _ _ (uT _ _ _ (by kernel_rfl)) ⟨h0.1.only (aG (aE _ none) _),h0.2.only (aG (aE _ none) _)⟩ ?_)
      ·obtain⟨f16,rfl,b3,q3,vx3,st3⟩:=hr
       have h0:Hb wk b14 y.a 42∧Hb wk bt wU 147:=⟨st3.hb h0.1 NF.out.1,st3.hb h0.2 NF.out.2⟩;refine⟨_,rfl,h0,?_⟩;simp only[Act.put,aJ,aK,aI];refine aX 7 58 (Value.tuple #[.int .i64 y.c,.agg (aH .u8 32 f16)]) (fun _ _=>by kernel_rfl) h0 ?_;simp only[Act.put,aJ,aK,aI];refine aX 8 66 (Value.int .i64 y.c) (fun _ _=>by kernel_rfl) h0 ?_;simp only[Act.put,aJ,aK,aI];refine aX 9 67 (Value.agg (aH .u8 32 f16)) (fun _ _=>by kernel_rfl) h0 ?_;simp only[Act.put,aJ,aK,aI];have ga:=aG (aE wk none) (.cells (aH .u8 32 fun _=>0) 36);refine kZ 10 16 _ _ (by kernel_rfl) (by kernel_rfl) (by kernel_rfl) (by kernel_rfl) (uT _ _ _ (by kernel_rfl)) ⟨h0.1.only ga,h0.2.only ga⟩ ?_;simp only[Act.put,aJ,aK,aI];refine aX 11 15 (Value.int .i64 y.c) (fun _ _=>by kernel_rfl) ⟨h0.1.only ga,h0.2.only ga⟩ ?_;simp only[Act.put,aJ,aK,aI];exact aW (by kernel_rfl) rfl (CUT (b3,q3,f16,wk.heap.size) _ ⟨vx3.only ga,((Stp.of_only gd _).trans st3).trans (Stp.of_only ga _),Hb.new wk _ _,Nat.le_trans gd.size st3.size⟩)
      ·have ga:=aG gd (.cells (aH .u8 32 fun _=>0) 36)
       have hg:=Hb.new (W15.drewN 1) (aH .u8 32 fun _=>0) 36;have ng:=VX.out.only ga |>.alien hg (by decide) (by decide) (by decide) (by decide) (by decide) (by decide) (by decide) (by decide)
       have h0:Hb ((W15.drewN 1).alloc (.cells (aH .u8 32 fun _=>0) 36)) b14 y.a 42∧Hb ((W15.drewN 1).alloc (.cells (aH .u8 32 fun _=>0) 36)) bt wU 147:=⟨h0.1.only (aG (aE _ none) _),h0.2.only (aG (aE _ none) _)⟩;simp only[Act.put,aJ,aK,aI];refine aR 6 (by kernel_rfl) (by kernel_rfl) (eF 65 y.f #[.pointer (some ⟨m,0,none⟩),.agg y.a] (by kernel_rfl) (zP _ _ _ (.tmp 62) (.tmp 63) (.tmp 64) y.f _ _ (aIP HF7.out.1 HF7.out.2) (by kernel_rfl) (by kernel_rfl) (by kernel_rfl) (by kernel_rfl)) _ (HC.out _ ga) (fun e wk hr=>?_));obtain⟨f16,rfl,b3,q3,vx3,st3⟩:=hr;have h0:Hb wk b14 y.a 42∧Hb wk bt wU 147:=⟨st3.hb h0.1 NF.out.1,st3.hb h0.2 NF.out.2⟩;refine⟨_,rfl,h0,?_⟩;simp only[Act.put,aJ,aK,aI];refine aX 7 58 (Value.tuple #[.int .i64 y.c,.agg (aH .u8 32 f16)]) (fun _ _=>by kernel_rfl) h0 ?_;simp only[Act.put,aJ,aK,aI];refine aX 8 66 (Value.int .i64 y.c) (fun _ _=>by kernel_rfl) h0 ?_;simp only[Act.put,aJ,aK,aI];refine aX 9 67 (Value.agg (aH .u8 32 f16)) (fun _ _=>by kernel_rfl) h0 ?_;simp only[Act.put,aJ,aK,aI];refine aX 11 15 (Value.int .i64 y.c) (fun _ _=>by kernel_rfl) h0 ?_;simp only[Act.put,aJ,aK,aI];exact aW (by kernel_rfl) rfl (CUT (b3,q3,f16,(W15.drewN 1).heap.size) _ ⟨vx3,(Stp.of_only ga _).trans st3,st3.hb hg ng,Nat.le_refl _⟩)
     obtain⟨b3,q3,f16,g16⟩:=x;obtain⟨vx3,st3,hG,hGs⟩:=hc;dsimp only at vx3 st3 hG hGs ⊢;simp only[Act.put,aJ,aK,aI];have h0:Hb w3 b14 y.a 42∧Hb w3 bt wU 147:=⟨st3.hb HS.out.1 NF.out.1,st3.hb HS.out.2 NF.out.2⟩;have hr:=hG.row (aH .u8 32 f16);have n1:=Hb.neT h0.1 hG (by decide);have n2:=Hb.neT h0.2 hG (by decide);have h0:=aQ (h0.1.keep hr.2 (by simpa using n1)) (h0.2.keep hr.2 (by simpa using n2));refine kK 12 (by kernel_rfl) (by kernel_rfl) (by kernel_rfl) 36 (.tmp 16) (.tmp 67) (by kernel_rfl) (by kernel_rfl) g16 (aH .u8 32 f16) _ (by kernel_rfl) (by kernel_rfl) _ hG (bU _) (by rw[aA,aA]) (aL _ _ _) h0 ?_;refine aZ (by kernel_rfl) (HF.out _ _ ?_);have hG16:Hb (w3.setRow g16 (aH .u8 32 f16)) g16 (aH .u8 32 f16) 36:=hr.1;have hm3:Hb w3 m (lK key d v) 144:=st3.hb HM.out (VX.out.alien HM.out (by decide) (by decide) (by decide) (by decide) (by decide) (by decide) (by decide) (by decide));have hm16:=hm3.keep hr.2 (fun e=>Hb.neT hm3 hG (by decide) (Option.some.inj e));have vx16:=vx3.other hr.2 (vx3.alien hG (by decide) (by decide) (by decide) (by decide) (by decide) (by decide) (by decide) (by decide)) (vx3.dk.alien hG (by decide) (by decide) (by decide) (by decide)).2;have hrow3:=H15.out.1.stp st3 fun g hg=>by
      obtain⟨cs,hcs⟩:=H15.out.1.type hg;exact VX.out.alien hcs (by decide) (by decide) (by decide) (by decide) (by decide) (by decide) (by decide) (by decide)
     have hrow16:=hrow3.keep hr.2 (fun g hg e=>hrow3.ne hG (by decide) g hg e);have hvf3:∀j,VF v d b3 q3 j→w.heap.size≤j:=fun j hj=>(st3.sub j hj).elim (HI2.out.2.2.2.2.2.2.1 j) fun h=>Nat.le_trans H15.out.2.size h
     have hbw16:Below w.heap.size w (w3.setRow g16 (aH .u8 32 f16)):=aP (H15.out.2.trans (st3.below H15.out.2.size HI2.out.2.2.2.2.2.2.1)) (Nat.le_refl _) hr.2 fun g e=>by cases e;exact Nat.le_trans H15.out.2.size hGs
     obtain⟨now,hnow⟩:∃x,x=(S (k2+1)).V.now:=⟨_,rfl⟩;obtain⟨X,hX⟩:∃x,x=Vf.live (S (k2+1)).D (S (k2+1)).V:=⟨_,rfl⟩;have hupk:=HH.out.2.2.1 (k2+1);have HNOW:=aD (fun W' (hx:Vx W' v d key b3 q3 (S (k2+1)).N (S (k2+1)).D (S (k2+1)).V)=>aIV hupk hnow hx);have HLIV:=aD (fun W' (hx:Vx W' v d key b3 q3 (S (k2+1)).N (S (k2+1)).D (S (k2+1)).V)=>aIA hupk hX (HH.out.2.1 (k2+1)) hx);have NV:=aD (aQ (Hb.neT h0.1 vx16.blk (by decide)) (aQ (Hb.neT hm16 vx16.blk (by decide)) (Hb.neT hG16 vx16.blk (by decide))));have NR:=aD (fun g hg=>show g≠v from fun e=>hrow16.ne vx16.blk (by decide) g hg (by rw[e]));have H16:=aD (aQ hvf3 hbw16);have HXN:=aD (aQ hnow hX);have HES:=aD (show es.length≤1000 by have:=HI2.out.2.1;omega);have HD16:=aD h0.2;have h0':=h0.1;clear hr hm3 hrow3 hvf3 hbw16 hnow hX hupk vx3 st3 hG hGs n1 n2 h0 HF HC;generalize w3.setRow g16 (aH .u8 32 f16)=W16 at*;go_upto_region 17 with fail;have H17:=aD (show Hb (W16.drewN 1) b14 y.a 42∧Hb (W16.drewN 1) m (lK key d v) 144∧Hb (W16.drewN 1) g16 (aH .u8 32 f16) 36 from ⟨h0',hm16,hG16⟩);have gd:=aM (aE W16 none) 1;have vx17:=vx16.only gd;have hrow16:=hrow16.keep gd (fun _ _=>by simp);have HG17:∀{w17 w18 w19:World},(W16.drewN 1).grownBy w17 (some v)→w17.grownBy w18 (some v)→w18.grownBy w19 none→W16.grownBy w19 (some v):=fun a b c=>aF (aF (aF (aM (aE W16 (some v)) 1) a) b) (aC (aB c) _)
     refine bO Tryz.f37 17 20 (fun w'=>Hb w' b14 y.a 42∧Hb w' m (lK key d v) 144∧Hb w' g16 (aH .u8 32 f16) 36) (by kernel_rfl) (by kernel_rfl) (by kernel_rfl) H17.out (fun K hK h0=>?_);refine aW (listed':=#[false,false,false,false,false,false,false,false,false,false,false,false,false,false,false,false,false,false,false,false]) (by kernel_rfl) rfl ?_;have HF:=aD hK;clear hK;refine aX 0 68 (u12) (fun _ _=>by kernel_rfl) h0 ?_;simp only[Act.put,aJ,aK,aI];refine aX 1 69 (Value.pointer (some ⟨b14,0,none⟩)) (fun _ _=>by kernel_rfl) h0 ?_;simp only[Act.put,aJ,aK,aI];refine bD 2 70 (by kernel_rfl) 3 (.tmp 69) (by kernel_rfl) ⟨b14,0,none⟩ (by kernel_rfl) (Value.int .i64 (y.k:Int)) _ (fun w' hw'=>hw'.1.cell rfl) Tryz.underlying3 rfl h0 ?_;simp only[Act.put,aJ,aK,aI];refine aX 3 71 (Value.int .i64 y.c) (fun _ _=>by kernel_rfl) h0 ?_;simp only[Act.put,aJ,aK,aI];refine aX 4 72 (Value.pointer (some ⟨m,0,none⟩)) (fun _ _=>by kernel_rfl) h0 ?_;simp only[Act.put,aJ,aK,aI];refine aX 5 73 (Value.pointer (some ⟨m,0,none⟩)) (fun _ _=>by kernel_rfl) h0 ?_;simp only[Act.put,aJ,aK,aI];refine aX 6 74 (Value.pointer (some ⟨m,17,none⟩)) (fun _ _=>by kernel_rfl) h0 ?_;simp only[Act.put,aJ,aK,aI];refine bD 7 75 (by kernel_rfl) 49 (.tmp 74) (by kernel_rfl) ⟨m,17,none⟩ (by kernel_rfl) (Value.pointer (some ⟨v,0,none⟩)) _ (fun w' hw'=>hw'.2.1.cell (wT key d v)) Tryz.underlying49 rfl h0 ?_;simp only[Act.put,aJ,aK,aI];refine aX 9 77 (Value.pointer (some ⟨m,0,none⟩)) (fun _ _=>by kernel_rfl) h0 ?_;simp only[Act.put,aJ,aK,aI];refine aX 10 78 (Value.pointer (some ⟨m,0,none⟩)) (fun _ _=>by kernel_rfl) h0 ?_;simp only[Act.put,aJ,aK,aI];refine aX 11 79 (Value.pointer (some ⟨m,17,none⟩)) (fun _ _=>by kernel_rfl) h0 ?_;simp only[Act.put,aJ,aK,aI];refine bD 12 80 (by kernel_rfl) 49 (.tmp 79) (by kernel_rfl) ⟨m,17,none⟩ (by kernel_rfl) (Value.pointer (some ⟨v,0,none⟩)) _ (fun w' hw'=>hw'.2.1.cell (wT key d v)) Tryz.underlying49 rfl h0 ?_;simp only[Act.put,aJ,aK,aI];refine bG 15 83 (by kernel_rfl) 36 (.tmp 16) (by kernel_rfl) ⟨g16,0,none⟩ (by kernel_rfl) (aH .u8 32 f16) _ (fun w' hw'=>lJ hw'.2.2) Tryz.underlying36 rfl (by kernel_rfl) h0 ?_;simp only[Act.put,aJ,aK,aI];refine bE 8 76 25 #[Value.pointer (some ⟨v,0,none⟩)] (by kernel_rfl) (by kernel_rfl) ?_;refine(HNOW.out _ vx17).mono ?_;rintro e w17 ⟨rfl,vx17,g17⟩;have h0:=(show Hb w17 b14 y.a 42∧Hb w17 m (lK key d v) 144∧Hb w17 g16 (aH .u8 32 f16) 36 from ⟨Hb.keep h0.1 g17 (fun e=>NV.out.1 (Option.some.inj e)),Hb.keep h0.2.1 g17 (fun e=>NV.out.2.1 (Option.some.inj e)),Hb.keep h0.2.2 g17 (fun e=>NV.out.2.2 (Option.some.inj e))⟩);have hrow17:=hrow16.keep g17 (fun g hg e=>NR.out g hg (Option.some.inj e).symm);refine⟨_,rfl,h0,?_⟩;simp only[Act.put,aJ,aK,aI];refine bE 13 81 14 #[Value.pointer (some ⟨v,0,none⟩)] (by kernel_rfl) (by kernel_rfl) ?_;refine(HLIV.out _ vx17).mono ?_;rintro e w18 ⟨ul,rfl,rl,vx18,g18⟩;obtain⟨lp,lcap,hlq⟩:=rl.form;rw[List.length_map] at hlq;subst hlq;have h0:=(show Hb w18 b14 y.a 42∧Hb w18 m (lK key d v) 144∧Hb w18 g16 (aH .u8 32 f16) 36 from ⟨Hb.keep h0.1 g18 (fun e=>NV.out.1 (Option.some.inj e)),Hb.keep h0.2.1 g18 (fun e=>NV.out.2.1 (Option.some.inj e)),Hb.keep h0.2.2 g18 (fun e=>NV.out.2.2 (Option.some.inj e))⟩);have hrow18:=hrow17.keep g18 (fun g hg e=>NR.out g hg (Option.some.inj e).symm);refine⟨_,rfl,h0,?_⟩;simp only[Act.put,aJ,aK,aI];refine aX 14 82 (Value.int .i64 (X.length:Int)) (fun _ _=>by kernel_rfl) h0 ?_;simp only[Act.put,aJ,aK,aI];refine aX 16 84 (Value.agg (fI y.k y.c now X.length f16)) (fun w' _=>aBY _ _ w' (.tmp 70) (.tmp 71) (.tmp 76) (.tmp 82) (.tmp 83) y.k X.length y.c now f16 (by kernel_rfl) (by kernel_rfl) (by kernel_rfl) (by kernel_rfl) (by kernel_rfl) (by kernel_rfl)) h0 ?_;simp only[Act.put,aJ,aK,aI];refine kZ 17 85 (Value.slice (some ⟨w18.heap.size,0,none⟩) 1 1) (w18.alloc (.cells (fI y.k y.c now X.length f16) 38)) (by kernel_rfl) (by kernel_rfl) (by kernel_rfl) (by kernel_rfl) (aDC _ _ w18 (.tmp 84) y.k X.length y.c now f16 (by kernel_rfl) (by kernel_rfl)) (⟨Hb.only h0.1 (aG (aE _ none) _),Hb.only h0.2.1 (aG (aE _ none) _),Hb.only h0.2.2 (aG (aE _ none) _)⟩) ?_
     have g19:=aG (aE w18 none) (.cells (fI y.k y.c now X.length f16) 38);have hb19:=Hb.new w18 (fI y.k y.c now X.length f16) 38;have h0:=(show Hb (w18.alloc (.cells (fI y.k y.c now X.length f16) 38)) b14 y.a 42∧Hb (w18.alloc (.cells (fI y.k y.c now X.length f16) 38)) m (lK key d v) 144∧Hb (w18.alloc (.cells (fI y.k y.c now X.length f16) 38)) g16 (aH .u8 32 f16) 36 from ⟨Hb.only h0.1 g19,Hb.only h0.2.1 g19,Hb.only h0.2.2 g19⟩);have hrow19:=hrow18.keep g19 (fun _ _=>by simp);have vx19:=vx18.only g19;have G19:=(HG17 g17 g18 g19);simp only[Act.put,aJ,aK,aI];obtain⟨rv18,w20,hrun18,hr18,g20,mv20⟩:=(hrow19).run_append (fs:=[(fI y.k y.c now X.length f16).toList]) zV Tryz.underlying28 (opn (iJ Tryz.f37 17) 18).type ⟨w18.heap.size,0,none⟩ 1 (fun x hx=>by rw[List.mem_singleton.1 hx,Array.length_toList,aC3]) (fun x hx u hu=>by rw[List.mem_singleton.1 hx] at hu;exact Array.all_eq_true_iff_forall_mem.1 (aFN y.k y.c now X.length f16) u (by simpa using hu)) (fun j u hj=>by rw[Addr.add_mid,Nat.zero_add];exact Hb.cell hb19 (by simpa using hj)) (by have:=HES.out;simp;omega) (by omega) (Nat.le_trans H16.out.2.size G19.size);have h20:=(show Hb w20 b14 y.a 42∧Hb w20 m (lK key d v) 144∧Hb w20 g16 (aH .u8 32 f16) 36 from ⟨Hb.keep h0.1 g20 (hrow19.neO h0.1 (by decide)),Hb.keep h0.2.1 g20 (hrow19.neO h0.2.1 (by decide)),Hb.keep h0.2.2 g20 (hrow19.neO h0.2.2 (by decide))⟩);refine kZ 18 86 rv18 w20 (by kernel_rfl) (by kernel_rfl) (by kernel_rfl) (by kernel_rfl) (tR _ _ _ (.tmp 68) (.tmp 85) _ _ _ _ 28 (by kernel_rfl) (by kernel_rfl) (by kernel_rfl) hrun18) h20 ?_;have h0:=h20;simp only[Act.put,aJ,aK,aI];refine aX 19 12 (rv18) (fun _ _=>by kernel_rfl) h0 ?_;simp only[Act.put,aJ,aK,aI];refine aZ (by kernel_rfl) (HF.out _ _ ?_);have nrow:∀g,u12.ownBlock=some g→¬VF v d b3 q3 g∧¬IntB _ g:=fun g hg=>by
      obtain⟨cs,hcs⟩:=hrow19.type (g:=g) hg;exact aQ (vx19.alien hcs (by decide) (by decide) (by decide) (by decide) (by decide) (by decide) (by decide) (by decide)) (vx19.dk.alien hcs (by decide) (by decide) (by decide) (by decide)).2
     have vx20:=vx19.otherO g20 nrow;have hd19:=HD16.out.keep G19 (fun e=>Hb.neT HD16.out vx16.blk (by decide) (Option.some.inj e));have hd20:=hd19.keep g20 (hrow19.neO hd19 (by decide));have hbw19:=aP H16.out.2 (Nat.le_refl _) G19 fun x e=>by cases e;exact H16.out.1 v (.inl rfl)
     have hbw20:=aP hbw19 (Nat.le_refl _) g20 fun x e=>(hrow19.lt e).1
     have HE:=aD (aQ hr18 (aQ vx20 (aQ h20.2.1 (aQ hd20 (aQ H16.out.1 hbw20)))));clear vx20 hd19 hd20 hbw19 hbw20 hr18 h20 h0 nrow g20 mv20 hrow19 vx19 G19 hb19 g19 hrow18 hrow17 vx18 vx17 g18 g17 rl HG17 H17 hrow16 vx16 hG16 hm16 h0' hrun18 HF;go_wp2_with fail;go_roundw
     case rel=>
      obtain⟨hr20,vx20,hm20,hd20,hvf20,hbw20⟩:=HE.out;refine⟨k2+1,b3,q3,_,by omega,by go_num,hr20,by rw[List.length_append,HI2.out.2.1];rfl,fun i x hi=>?_,vx20,hm20,hd20,hvf20,hbw20⟩;rcases Nat.lt_or_ge i es.length with h1|h1
      ·rw[List.getElem?_append_left h1] at hi
       exact HI2.out.2.2.1 i x hi
      ·rw[List.getElem?_append_right h1] at hi
       have h2:i - es.length=0:=by
        rcases Nat.eq_zero_or_pos (i - es.length) with h2|h2
        ·exact h2
        ·rw[List.getElem?_eq_none (by simp;omega)] at hi;cases hi
       have h3:i=k2:=by have:=HI2.out.2.1;omega
       rw[h2] at hi;refine⟨y,f16,by rw[h3];exact HY.out.1,?_⟩;rw[←Option.some.inj hi,h3,HXN.out.1,HXN.out.2];rfl
     case measure=>simp[intOf];omega
    ·have hkl2:k2=len:=by omega
     have HE:=aD (aQ hrv (aQ hesl (aQ hok hbw)));have HK2:=aD hkl2;clear hrv hesl hok hvx hmx hdx hvf hbw hkl2;go_wp2_with fail
     all_goals first|omega|skip
     go_ret3;exact⟨u12,d,es,rfl,HE.out.1,by rw[HE.out.2.1,HK2.out,HL.out],HE.out.2.2.1,HE.out.2.2.2⟩
end Go.Proofs.YtcoolgnlhheaiaaGreatDoor
