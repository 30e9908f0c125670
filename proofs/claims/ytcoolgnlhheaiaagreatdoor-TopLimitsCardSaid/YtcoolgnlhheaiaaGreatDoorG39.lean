import Derived.Test.YtcoolgnlhheaiaaGreatDoorG36
import Derived.Test.YtcoolgnlhheaiaaGreatDoorG37
import Derived.Test.YtcoolgnlhheaiaaGreatDoorG38
namespace Go.Proofs.YtcoolgnlhheaiaaGreatDoor
open Go.RowKit Go.Deep Go.Maps Go.ChangeMaps Go.MapKept Go.WideShapes
set_option linter.all false
set_option maxRecDepth 100000
set_option maxHeartbeats 2000000
theorem aGB (e:bC):Tryz.prog.built 73 [(0,.agg (aH .u8 32 (aT e.dig))),(1,.int .i64 e.exp)]=some (ev e):=by kernel_rfl
theorem oT (o:Oper) (a:Act) (w:World) (i j:Operand) (e:bC) (ho:o.op= .build 73 #[(0,i),(1,j)]) (hi:a.eval i= .agg (aH .u8 32 (aT e.dig))) (hj:a.eval j= .int .i64 e.exp):
 (execOp a.eval o).run Tryz.prog w= .ok (.value (.agg (ev e))) w:=by
 unfold execOp;simp only[ho];rw[show(#[(0,i),(1,j)]:Array (Nat×Operand)).map (fun(i,x)=>(i,a.eval x))=#[(0,.agg (aH .u8 32 (aT e.dig))),(1,.int .i64 e.exp)] by simp[hi,hj]];rw[Sem.run_bind,run_build w 73 _ (ev e) (aGB e)];rfl
structure LiveI (X l L:List bC) (now:Int):Prop where
 one:l.Pairwise fun a b=>a.dig≠b.dig
 mem:∀e,e∈l↔e∈X∧now≤e.exp∧e ∉ L
 sub:∀e∈L,e∈X
 len:l.length+L.length≤X.length
theorem LiveI.start (X:List bC) (now:Int):LiveI X [] X now:=⟨.nil,fun e=>⟨fun h=>by simp at h,fun h=>absurd h.1 h.2.2⟩,fun _ h=>h,by simp⟩
theorem uO {L:List bC} {e:bC} (he:e∈L):(eW L e.dig).length<L.length:=by
 unfold eW;rw[←List.countP_eq_length_filter];refine Nat.lt_of_le_of_ne List.countP_le_length fun h=>?_
 have:=List.countP_eq_length.1 h e he;simp at this
theorem LiveI.skip {X l L:List bC} {now:Int} {e:bC} (h:LiveI X l L now) (hX:Idx.ok X) (he:e∈L) (hn:¬now≤e.exp):LiveI X l (eW L e.dig) now:=by
 refine⟨h.one,fun y=>?_,fun y hy=>h.sub y (bT.1 hy).1,by have:=uO he;have:=h.len;omega⟩;rw[h.mem y];refine⟨fun⟨a,b,c⟩=>⟨a,b,fun k=>c (bT.1 k).1⟩,fun⟨a,b,c⟩=>⟨a,b,fun k=>c (bT.2 ⟨k,fun hd=>?_⟩)⟩⟩;rw[kR hX a (h.sub e he) hd] at b;exact hn b
theorem LiveI.take {X l L:List bC} {now:Int} {e:bC} (h:LiveI X l L now) (hX:Idx.ok X) (he:e∈L) (hn:now≤e.exp):LiveI X (l++[e]) (eW L e.dig) now:=by
 refine⟨?_,fun y=>?_,fun y hy=>h.sub y (bT.1 hy).1,by have:=uO he;have:=h.len;simp;omega⟩
 ·rw[List.pairwise_append]
  refine⟨h.one,List.pairwise_singleton _ _,fun a ha b hb hd=>?_⟩;rw[List.mem_singleton.1 hb] at hd;obtain⟨h1,h2,h3⟩:=(h.mem a).1 ha;rw[kR hX h1 (h.sub e he) hd] at h3;exact h3 he
 ·rw[List.mem_append,List.mem_singleton,h.mem y]
  constructor
  ·rintro(⟨a,b,c⟩|rfl)
   ·exact⟨a,b,fun k=>c (bT.1 k).1⟩
   ·exact⟨h.sub y he,hn,fun k=>(bT.1 k).2 rfl⟩
  ·rintro⟨a,b,c⟩
   by_cases hd:y.dig=e.dig
   ·exact .inr (kR hX a (h.sub e he) hd)
   ·exact .inl ⟨a,b,fun k=>c (bT.2 ⟨k,hd⟩)⟩
theorem LiveI.done {X l:List bC} {now:Int} (h:LiveI X l [] now) (hX:Idx.ok X):(Idx.live X now).Perm l:=by
 refine(List.perm_ext_iff_of_nodup ((Idx.ok_live hX now).one.imp fun{a b} h e=>h (by rw[e])) (h.one.imp fun{a b} h e=>h (by rw[e]))).2 fun e=>?_
 rw[h.mem e];unfold Idx.live;simp
theorem Rng.row {w:World} {b r n cnt base k:Nat} {X L:List bC} {e:TypeId} {v:Value} {es:List (List Value)} (h:Rng w b r n X L cnt) (hr:RowOf w base e k v es):∀g,v.ownBlock=some g→some r≠some g∧some b≠some g:=fun g hg=>by
 obtain⟨cs,hcs⟩:=hr.type hg;obtain⟨_,_,hm⟩:=h.map.block;obtain⟨D,left,⟨_,_,_,_,_,_,_,_,_,h1,_⟩,_⟩:=h;refine⟨fun e=>?_,fun e=>?_⟩
 ·rw[Option.some.inj e,hcs] at h1;cases h1
 ·rw[Option.some.inj e,hcs] at hm;cases hm
def sM (X:List bC) (w:World) (e:Ending) (w':World):Prop:=∃v,e= .returned v∧RowOf w' w.heap.size 73 33 v (X.map fJ)∧w.grownBy w' none
theorem xU (x m n:Nat) (X:List bC) (now:Int) (w:World) (h:Ix w x m n X) (hn:n<1000000):
 Calls Tryz.prog 75 #[.pointer (some ⟨x,0,none⟩),.int .i64 now] w (sM (Idx.live X now) w):=by
 have c0:=h.blk.cell (i:=0) (v:=.map (some m)) rfl;have hmap:=h.map;have hB:∀e∈X,AllB e.dig:=fun e he=>(h.all e he).2
 have HI:=aD h;have hxl:x<w.heap.size:=h.blk.lt;have hml:m<w.heap.size:=h.map.lt;clear h;go_enter Tryz.func75,Tryz.ntmps75;go_upto_region 4 with fail;go_wp2_with (refine pR rfl (.tmp 13) rfl rfl hmap hB ?_;intro w0 cnt0 hR0 hg0 hs0)
 go_frame
 have G0:=aD hg0;clear hmap
 go_loopw [5] (fun i wr=>∃(l L:List bC) (cnt:Nat),RowOf wr (w.heap.size+1) 73 33 i (l.map fJ)∧Rng wr m w.heap.size n X L cnt∧LiveI X l L now∧w.grownBy wr none∧w.heap.size+1≤wr.heap.size) (fun _ wr=>wr.rangeLeft m w.heap.size)
 case atStart=>exact⟨[],X,cnt0,RowOf.nil _ _ _ _,hR0,LiveI.start X now,G0.out,by omega⟩
 case round=>
  obtain⟨l,L,cnt,hr,hR,hI,hg,hz⟩:=hrel;go_wp2_with (refine vB rfl (.tmp 14) rfl rfl hR HI.out.ok hI.sub HI.out.all ?_ ?_)
  ·intro hL0
   subst hL0;have hperm:=hI.done HI.out.ok;have hall:∀e∈l,Frm.okE e:=fun e he=>HI.out.all e ((hI.mem e).1 he).1
   have hll:l.length<1000000:=Nat.lt_of_le_of_lt (Nat.le_trans (Nat.le_add_right _ _) (Nat.le_trans hI.len HI.out.len)) hn;have hsrt:=fun W (hW:RowOf W (w.heap.size+1) 73 33 u5 (l.map fJ))=>aCE u5 _ l (Idx.live X now) W hW hall hperm (Idx.ok_live HI.out.ok now).ord hll
   have hS:=hsrt wr hr;have HG:=aD (aQ hg (aQ hz hr));clear hI hR hr hg hB hR0 hperm hall hsrt;go_wp2_with (go_at_call 109;refine hS.mono ?_;clear hS;rintro e w3 ⟨rfl,r3,g3⟩);go_ret;refine⟨u5,rfl,r3.mono (Nat.le_succ _),?_⟩;exact HG.out.1.andThen g3 fun j hj=>.inl (by have:=(HG.out.2.2.lt hj).1;omega)
  ·intro e w1 cnt1 he hR1 hlt hg1 hs1 hen
   have hr1:RowOf w1 (w.heap.size+1) 73 33 u5 (l.map fJ):=hr.keep hg1 fun g hv=>(hR.row hr g hv).1
   have hgn:w.grownBy w1 none:=hg.andThen hg1 fun j hj=>by cases hj;exact .inl (Nat.le_refl _)
   have hz1:w.heap.size+1≤w1.heap.size:=by omega
   have HH:=aD (aQ hI (aQ hgn (aQ hR hlt)));have HE:=aD he;have hll:l.length≤1000000:=by have:=hI.len;have:=HI.out.len;omega
   clear hI hg hR hB hR0 he hlt hs1 hr hgn hg1;go_upto_region 7 with (refine wpList_store_rowTo rfl _ _ _ rfl rfl w1.heap.size _ rfl rfl _ _ (heap_alloc_new _ _) (bU _) (by rw[aA];rfl) (aL _ _ _) ?_;generalize hV:World.setRow _ w1.heap.size _=V)
   all_goals first|omega|skip
   obtain⟨hA,hgV⟩:=cK w1 _ (aH .u8 32 (aT e.dig)) 36;rw[hV] at hA hgV;have hRV:=hR1.kept hgV (by simp) (by simp);have hrV:=hr1.keep hgV (fun _ _=>by simp);have hzV:w.heap.size+1≤V.heap.size:=Nat.le_trans hz1 hgV.size;have GV:=aD (aF HH.out.2.1 hgV);clear hV hgV hR1 hr1 hen
   by_cases hn:now≤e.exp
   ·have hd:decide (now≤e.exp)=true:=decide_eq_true hn
    have HN:=aD hn;clear hn
    go_wp2_with (first
     |refine aS (by kernel_rfl) _ _ rfl w1.heap.size rfl _ _ (0,0) _ hA rfl rfl (bU _) ?_
     |refine cZ rfl _ (oT _ _ _ _ _ e rfl rfl rfl) ?_
     |(refine cZ rfl _ (uU _ _ _ _ e rfl rfl) ?_
       have hE2:=Hb.new V (ev e) 73;have g2:=aG (aE V none) (.cells (ev e) 73);generalize V.alloc (.cells (ev e) 73)=V2 at*;have hR2:=hRV.kept g2 (by simp) (by simp);have hr2:=hrV.keep g2 (fun _ _=>by simp);have hz2:w.heap.size+1≤V2.heap.size:=Nat.le_trans hzV g2.size;have G2:=aD (aF GV.out g2);have CE:=aD (s9 hE2)
       clear g2 hE2 hA hRV hrV)
     |(refine gU (es:=l.map fJ) (fs:=[fJ e]) rfl _ _ rfl rfl hr2 aDQ Tryz.underlying55 ⟨V.heap.size,0,none⟩ 1 1 rfl rfl (fun x hx=>by rw[List.mem_singleton.1 hx];exact kE e) (fun x hx=>by rw[List.mem_singleton.1 hx];exact mV e) CE.out (by rw[List.length_map];simp;omega) (by decide) hz2 ?_
       intro v' w' r1 r2 r3;have hR3:=hR2.kept r2 (fun e=>(hR2.row hr2 _ e.symm).2 rfl) (fun e=>(hR2.row hr2 _ e.symm).1 rfl);have G3:=aD (G2.out.andThen r2 fun j hj=>.inl (by have:=(hr2.lt hj).1;omega));have hz3:=Nat.le_trans hz2 r2.size
       clear r2 r3 hR2 hr2))
    go_roundw
    case rel=>exact⟨l++[e],_,cnt1,by rw[List.map_append];exact r1,hR3,HH.out.1.take HI.out.ok HE.out HN.out,G3.out,hz3⟩
    case measure=>rw[hR3.left,HH.out.2.2.1.left];exact HH.out.2.2.2
   ·have hd:decide (now≤e.exp)=false:=decide_eq_false hn
    have HN:=aD hn;clear hn;go_wp2_with fail;go_roundw
    case rel=>exact⟨l,_,cnt1,hrV,hRV,HH.out.1.skip HI.out.ok HE.out HN.out,GV.out,hzV⟩
    case measure=>rw[hRV.left,HH.out.2.2.1.left];exact HH.out.2.2.2
set_option linter.all false
structure Ca.B where
 l:Nat
 x:Nat
 m:Nat
 n:Nat
def Ca.B.F (p:Ca.B) (c:Nat):Nat→Prop:=fun i=>i=c∨i=p.l∨i=p.x∨i=p.m
def caV (p:Ca.B) (C:Ca.C):Array Value:=#[.pointer (some ⟨p.l,0,none⟩),.pointer (some ⟨p.x,0,none⟩),.int .i64 C.till]
structure Cx (w:World) (c d:Nat) (b:Dsk.B) (p:Ca.B) (C:Ca.C):Prop where
 blk:Hb w c (caV p C) 160
 log:Lk w p.l d C.log
 idx:Ix w p.x p.m p.n C.idx
 sep:¬b.F d p.m
section
variable {w w':World} {c d:Nat} {b:Dsk.B} {p:Ca.B} {C:Ca.C} {D:Dsk.D}
theorem Cx.cells (h:Cx w c d b p C):w.cell? ⟨c,0,none⟩=some (.pointer (some ⟨p.l,0,none⟩))∧w.cell? ⟨c,1,none⟩=some (.pointer (some ⟨p.x,0,none⟩))∧w.cell? ⟨c,2,none⟩=some (.int .i64 C.till):=⟨h.blk.cell rfl,h.blk.cell rfl,h.blk.cell rfl⟩
theorem Cx.lt (h:Cx w c d b p C):∀i,p.F c i→i<w.heap.size:=by
 rintro i (rfl|rfl|rfl|rfl)
 ·exact h.blk.lt
 ·exact Hb.lt h.log
 ·exact h.idx.blk.lt
 ·exact h.idx.map.lt
theorem Cx.keep (h:Cx w c d b p C) (hk:∀i,p.F c i→w'.heap[i]? =w.heap[i]?):Cx w' c d b p C:=
 ⟨(hk _ (.inl rfl)).trans h.blk,(hk _ (.inr (.inl rfl))).trans h.log,⟨h.idx.ok,h.idx.all,h.idx.len,(hk _ (.inr (.inr (.inl rfl)))).trans h.idx.blk,h.idx.map.of_block (hk _ (.inr (.inr (.inr rfl))))⟩,h.sep⟩
theorem Cx.below (h:Cx w c d b p C) (k:Below w.heap.size w w'):Cx w' c d b p C:=h.keep fun i hi=>k.block i (h.lt i hi)
theorem Cx.only (h:Cx w c d b p C) (g:w.grownBy w' none):Cx w' c d b p C:=h.below (aB g)
theorem Cx.apart (h:Cx w c d b p C) (hd:Dk w d b D):∀i,p.F c i→¬b.F d i∧¬IntB w i:=by
 rintro i (rfl|rfl|rfl|rfl)
 ·exact hd.alien h.blk (by decide) (by decide) (by decide) (by decide)
 ·exact hd.alien h.log (by decide) (by decide) (by decide) (by decide)
 ·exact hd.alien h.idx.blk (by decide) (by decide) (by decide) (by decide)
 ·refine⟨h.sep,?_⟩
  rintro⟨cs,fr,hc⟩;obtain⟨_,_,hm⟩:=h.idx.map.block;rw[hc] at hm;cases hm
theorem Cx.ne (h:Cx w c d b p C):p.l≠p.x∧p.l≠p.m∧c≠p.l∧c≠p.x∧c≠p.m:=by
 obtain⟨_,_,hm⟩:=h.idx.map.block;have hb:=h.blk;have hl:=h.log;have hx:=h.idx.blk;have h1:w.heap[c]? =_:=hb;have h2:w.heap[p.l]? =_:=hl;have h3:w.heap[p.x]? =_:=hx;refine⟨fun e=>?_,fun e=>?_,fun e=>?_,fun e=>?_,fun e=>?_⟩
 ·rw[e,h3] at h2;cases h2
 ·rw[e,hm] at h2;cases h2
 ·rw[e,h2] at h1;cases h1
 ·rw[e,h3] at h1;cases h1
 ·rw[e,hm] at h1;cases h1
end
theorem mG (k:Nat) (w:World):Calls Tryz.prog 122 #[iF k] w fun e w'=>e= .returned (.int .i64 (Ca.answer k:Nat))∧w.grownBy w' none:=by
 have hc:=fun W=>nW k W
 unfold Ca.answer;generalize iF k=v at*
 by_cases h:k=12
 ·subst h
  rw[if_pos rfl];go_enter Tryz.func122,Tryz.ntmps122;go_wp2_with (go_at_call 102;refine(hc _).mono ?_;rintro e w1 ⟨rfl,g1⟩);go_ret;exact⟨rfl,g1⟩
 ·rw[if_neg h]
  have hd:((k:Int)==12)=false:=by simp;omega
  go_enter Tryz.func122,Tryz.ntmps122;go_wp2_with (go_at_call 102;refine(hc _).mono ?_;rintro e w1 ⟨rfl,g1⟩);go_ret;exact⟨rfl,g1⟩
theorem wI (c d:Nat) (b:Dsk.B) (p:Ca.B) (C:Ca.C) (w:World) (h:Cx w c d b p C):Calls Tryz.prog 119 #[.pointer (some ⟨c,0,none⟩)] w fun e w'=>e= .returned (.bool C.log.broken)∧w=w':=by
 obtain⟨c0,_,_⟩:=h.cells;have h1:=rD p.l d C.log w h.log;clear h;go_enter Tryz.func119,Tryz.ntmps119;go_wp2_with (go_at_call 188;refine h1.mono ?_;rintro e w' ⟨rfl,rfl⟩);go_ret;exact⟨rfl,rfl⟩
theorem aC2 (c d:Nat) (b:Dsk.B) (p:Ca.B) (C:Ca.C) (w:World) (h:Cx w c d b p C):Calls Tryz.prog 120 #[.pointer (some ⟨c,0,none⟩)] w fun e w'=>e= .returned (.int .i64 (C.log.count:Int))∧w=w':=by
 obtain⟨c0,_,_⟩:=h.cells;have h1:=uH p.l d C.log w h.log;clear h;go_enter Tryz.func120,Tryz.ntmps120;go_wp2_with (go_at_call 189;refine h1.mono ?_;rintro e w' ⟨rfl,rfl⟩);go_ret;exact⟨rfl,rfl⟩
theorem aCP (c d:Nat) (b:Dsk.B) (p:Ca.B) (C:Ca.C) (w:World) (h:Cx w c d b p C) (hs:C.log.side=0∨C.log.side=1) (hh:C.log.half<1000000):Calls Tryz.prog 121 #[.pointer (some ⟨c,0,none⟩)] w fun e w'=>e= .returned (.int .i64 ((Lg.room C.log:Nat):Int))∧w.grownBy w' none:=by
 obtain⟨c0,_,_⟩:=h.cells;have h1:=xV p.l d C.log w h.log hs hh;clear h;go_enter Tryz.func121,Tryz.ntmps121;go_wp2_with (go_at_call 190;refine h1.mono ?_;rintro e w1 ⟨rfl,g1⟩);go_ret;exact⟨rfl,g1⟩
theorem qP (c d:Nat) (b:Dsk.B) (p:Ca.B) (C:Ca.C) (w:World) (h:Cx w c d b p C):Calls Tryz.prog 59 #[.pointer (some ⟨c,0,none⟩)] w fun e w'=>e= .returned (.int .i64 C.till)∧w=w':=by
 obtain⟨_,_,c2⟩:=h.cells;clear h;go_enter Tryz.func59,Tryz.ntmps59;go_wp2;go_ret;exact⟨rfl,rfl⟩
theorem aA0 (c d:Nat) (b:Dsk.B) (p:Ca.B) (C:Ca.C) (now:Int) (w:World) (h:Cx w c d b p C) (hn:p.n<1000000):Calls Tryz.prog 42 #[.pointer (some ⟨c,0,none⟩),.int .i64 now] w (sM (Idx.live C.idx now) w):=by
 obtain⟨_,c1,_⟩:=h.cells;have h1:=xU p.x p.m p.n C.idx now w h.idx hn;clear h;go_enter Tryz.func42,Tryz.ntmps42;go_wp2_with (go_at_call 75;refine h1.mono ?_;clear h1;rintro e w' ⟨v,rfl,r1,g1⟩);go_ret;exact⟨v,rfl,r1,g1⟩
set_option linter.all false
def aET (n:Nat) (X:List bC) (w:World) (e:Ending) (w':World):Prop:=∃x m,e= .returned (.pointer (some ⟨x,0,none⟩))∧Ix w' x m n X∧w.heap.size≤x∧w.heap.size≤m∧w.grownBy w' none
theorem mM {α β:Type} (f:β→α→β) (b:β) (l:List α) (k:Nat) {y:α} (h:l[k]? =some y):(l.take (k+1)).foldl f b=f ((l.take k).foldl f b) y:=by
 rw[List.take_add_one,h];simp[List.foldl_append]
theorem aCL (v:Value) (es:List bC) (base:Nat) (w:World) (h:RowOf w base 73 33 v (es.map fJ)) (ho:∀e∈es,Frm.okE e) (hn:es.length<100000):
 Calls Tryz.prog 86 #[v] w (aET es.length (Idx.of es) w):=by
 have hmk:=fun(t:TypeId) (wx:World)=>run_makeMap (P:=Tryz.prog) t wx
 obtain⟨p,len,cap,hlen,rfl⟩:=h.form3;have hl5:len<100000:=by omega
 have HR:=aD h;have HL:=aD hlen;clear h hlen;go_enter Tryz.func86,Tryz.ntmps86;go_upto_region 3 with fail;clear hmk;have hI:Ix ((w.alloc (.map #[] 0)).alloc (.cells #[.map (some w.heap.size)] 212)) (w.heap.size+1) w.heap.size 0 []:=by
  refine⟨Idx.ok_nil,fun _ h=>by simp at h,Nat.le_refl _,?_,?_⟩
  ·have:=Hb.new (w.alloc (.map #[] 0)) #[.map (some w.heap.size)] 212
   rw[World.size_alloc] at this;exact this
  ·rw[aDT]
   exact(MapIs.made w 36).of_block (Below.heap_alloc _ _ _ (by simp))
 have gI:=aG (aG (aE w none) (.map #[] 0)) (.cells #[.map (some w.heap.size)] 212);generalize (w.alloc (.map #[] 0)).alloc (.cells #[.map (some w.heap.size)] 212)=W0 at*;obtain⟨x,hx⟩:∃x,x=w.heap.size+1:=⟨_,rfl⟩;obtain⟨m,hm⟩:∃m,m=w.heap.size:=⟨_,rfl⟩;rw[←hx,←hm] at hI;simp only[←hx];rw[←hm];have hxm:w.heap.size≤x∧w.heap.size≤m:=by omega
 have HI:=aD (aQ hI gI);clear hI gI hx hm
 go_loopw [11] (fun i wr=>∃k:Nat,k≤len∧i= .int .i64 k∧Ix wr x m k ((es.take k).foldl Idx.put [])∧w.grownBy wr none) (fun i _=>len - (intOf i).toNat)
 case atStart=>exact⟨0,by omega,rfl,HI.out⟩
 case round=>
  obtain⟨k,hk,rfl,hI,hg⟩:=hrel
  by_cases hlt:k<len
  ·obtain⟨y,hy⟩:∃y,es[k]? =some y:=⟨_,List.getElem?_eq_getElem (by have:=HL.out;omega)⟩
   have hoy:=ho y (List.mem_of_getElem? hy);obtain⟨g,cap',hp,_,hgl⟩:=HR.out.pos (by rw[List.length_map,←HL.out];omega);obtain rfl:p=some ⟨g,0,none⟩:=by injection hp
   have hrg:=(HR.out.of_block (w':=wr) fun b hb=>hg.block b (HR.out.lt hb).2 (by simp)).range (g:=g) rfl (i:=k) (x:=(ev y).toList) (by rw[List.getElem?_map,hy];rfl);have hput:=fun W (hW:wr.grownBy W none)=>qB x m k _ y W (hI.only hW) hoy (by omega)
   have HG:=aD hg;have HY:=aD (mM Idx.put [] es k hy);have hkz:(k:Int).toNat=k:=by omega
   have hes:=bP y;clear hy hoy hg hp hI
   go_upto_region 5 with (first
    |refine wpList_load_mid rfl 73 _ rfl g (k*33) rfl (ev y).toList _ hrg rfl rfl (by rw[Array.length_toList,bP];kernel_rfl) ?_
    |(refine wpList_store_rowTo rfl _ _ _ rfl rfl wr.heap.size _ rfl rfl _ _ (heap_alloc_new _ _) (cI _) (by rw[bP];rfl) (gP _) ?_;generalize hV:World.setRow _ wr.heap.size _=V))
   all_goals first|omega|skip
   obtain⟨hA,hgV⟩:=cK wr _ (ev y) 73;rw[hV] at hA hgV;have hput:=hput V hgV;have GV:=aD (aF HG.out hgV);clear hV hgV hrg;unfold aEF at hput
   go_wp2_with (first
    |refine aS (by kernel_rfl) _ _ rfl wr.heap.size rfl _ _ (0,0) _ hA rfl rfl (cI _) ?_
    |(go_at_call 124;refine hput.mono ?_;clear hput;rintro e w3 ⟨rfl,hI3,g3⟩))
   all_goals first|omega|skip
   go_roundw
   case rel=>exact⟨k+1,by omega,by go_num,by rw[HY.out];exact hI3,aO GV.out g3 hxm.2⟩
   case measure=>simp[intOf];omega
  ·have hkl:k=len:=by omega
   have HQ:=aD (aQ hI hg);have HK:=aD hkl;clear hI hg hkl;go_wp2_with fail
   all_goals first|omega|skip
   go_ret;have h1:=HQ.out.1;rw[HK.out,HL.out,List.take_length] at h1;exact⟨x,m,rfl,h1,hxm.1,hxm.2,HQ.out.2⟩
end Go.Proofs.YtcoolgnlhheaiaaGreatDoor
