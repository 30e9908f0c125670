import Derived.Test.YtcoolgnlhheaiaaGreatDoorG29
import Derived.Test.YtcoolgnlhheaiaaGreatDoorG31
import Derived.Test.YtcoolgnlhheaiaaGreatDoorG33
import Derived.Test.YtcoolgnlhheaiaaGreatDoorG34
namespace Go.Proofs.YtcoolgnlhheaiaaGreatDoor
open Go.RowKit Go.Deep
set_option linter.all false
set_option maxRecDepth 100000
set_option maxHeartbeats 1000000
attribute [local go_sem] Oper.semAt_some
theorem Frm.entry_ok {g:Nat} {e:bC} (h:Frm.okE e):Frm.okS (Frm.entry g e):=Frm.mk_ok (by rw[Frm.pay_len h];decide) (Frm.pay_all h)
theorem cK (w:World) (old cs:Array Value) (t:TypeId):Hb ((w.alloc (.cells old t)).setRow w.heap.size cs) w.heap.size cs t∧w.grownBy ((w.alloc (.cells old t)).setRow w.heap.size cs) none:=
 ⟨((Hb.new w old t).row cs).1,aO (aG (aE w none) (.cells old t)) ((Hb.new w old t).row cs).2 (Nat.le_refl _)⟩
theorem sS (d:Nat) (b:Dsk.B) (D:Dsk.D) (f n p g:Nat) (e:bC) (w:World) (h:Dk w d b D) (hf:f+p<D.sec.length) (hp:1≤p) (hpn:p≤n - 1) (hn:n<1000000) (hg:g<4294967296) (ho:Frm.okE e) (hr:Frm.right e=true) (hN:D.n<1000000):Calls Tryz.prog 191 #[.pointer (some ⟨d,0,none⟩),.agg (eD f n),.int .i64 (p:Int),.int .u32 (g:Int),.agg (ev e)] w (iM (iF (Slt.wrsy D (f+p) (Frm.entry g e)).2) d b (Slt.wrsy D (f+p) (Frm.entry g e)).1 w):=by
 have hb:=(Hb.new w (eD f n) 239).alloc (.cells (ev e) 73);have he:=Hb.new (w.alloc (.cells (eD f n) 239)) (ev e) 73;rw[World.size_alloc] at he;have gr:=aG (aG (aE w none) (.cells (eD f n) 239)) (.cells (ev e) 73);have hroom:=h.ok.room;have HD:=aD (h.below (aB gr));have GR:=aD (Stp.of_only gr (b.F d));have H00:=aD (fun i (hi:w.heap.size≤i)=>h.fresh hi);have hw1:=fun W=>uK f n W hn
 have hf0:f<4096:=by omega
 have HF:=aD hf;have hfp:f+p<4096:=by omega
 obtain⟨q,hq⟩:∃q,q=n - 1:=⟨_,rfl⟩;rw[←hq] at hpn hw1;have hq6:q<1000000:=by omega
 have hp1:decide ((p:Int)<1)=false:=by simp;omega
 have hp2:decide (q<p)=false:=by simp;omega
 clear h gr hroom hf hq hpn hp;go_enter Tryz.func191,Tryz.ntmps191;go_upto_region 1 with fail;generalize (w.alloc (.cells (eD f n) 239)).alloc (.cells (ev e) 73)=W at*;have hS:=hb;obtain⟨b1,hb1⟩:∃b1,b1=w.heap.size+1:=⟨_,rfl⟩;rw[←hb1] at he ⊢;have hb1':w.heap.size≤b1:=by omega
 clear hb1
 go_upto_region 3 with (first
  |refine aS (by kernel_rfl) _ _ rfl w.heap.size rfl _ _ (0,0) _ hS rfl rfl (by kernel_rfl) ?_
  |(go_at_call 208;refine(hw1 W).mono ?_;rintro e1 w1 ⟨rfl,hg1⟩))
 have he1:=he.only hg1;have HS1:=aD (hS.only hg1);have HD1:=aD (HD.out.below (aB hg1));have GR1:=aD (GR.out.trans (Stp.of_only hg1 (b.F d)));clear hS hb he HD GR hg1 hp1 hp2 hw1
 go_upto_region 6 with (first
  |refine aS (by kernel_rfl) _ _ rfl b1 rfl _ _ (0,0) _ he1 rfl rfl (cI _) ?_
  |(go_at_call 209;refine(xP g e _ hg ho hr).mono ?_;rintro e2 w2 ⟨rfl,hg2⟩)
  |(refine wpList_store_rowTo rfl _ _ _ rfl rfl w2.heap.size _ rfl rfl _ _ (heap_alloc_new _ _) (by rw[aA];kernel_rfl) (by rw[aA];rfl) (aL _ _ _) ?_;generalize hV:World.setRow _ w2.heap.size _=V))
 obtain⟨hA,hgV⟩:=cK w2 _ (aH .u8 64 (aT (Frm.entry g e))) 191;rw[hV] at hA hgV;have g3:=aF hg2 hgV;have HS2:=HS1.out.only g3;have c0:=HS2.cell (i:=0) (v:=.int .i64 (f:Int)) rfl;have HD2:=aD (HD1.out.below (aB g3));have GR2:=aD (GR1.out.trans (Stp.of_only g3 (b.F d)));have hwr:=nZ d b D (f+p) (Frm.entry g e) V HD2.out HF.out (Frm.entry_ok ho) (by omega);simp only[Int.natCast_add] at hwr;obtain⟨b2,hb2⟩:∃b2,b2=w2.heap.size:=⟨_,rfl⟩;rw[←hb2] at hA ⊢;clear hb2 hV hgV g3 hg2 he1 HS1 HD1 GR1 HS2 H00
 go_upto_region 7 with (first
  |refine aS (by kernel_rfl) _ _ rfl b2 rfl _ _ (0,0) _ hA rfl rfl (by rw[aA];kernel_rfl) ?_
  |(go_at_call 197;refine hwr.mono ?_;rintro e3 w3 ⟨rfl,b3,dk3,st3⟩))
 have hwn:=Dsk.write_n D (f+p) (Frm.entry g e);have HT:=aD (aQ dk3 (GR2.out.trans st3));have hsy:=lA d b3 _ w3 dk3 (by omega);clear dk3 st3 hwr hA c0 HD2 GR2 hwn
 by_cases hc:(Dsk.write D (f+p) (Frm.entry g e)).2=0
 ·have hcm:=aD (show Slt.wrsy D (f+p) (Frm.entry g e)=Dsk.sync (Dsk.write D (f+p) (Frm.entry g e)).1 by unfold Slt.wrsy;rw[if_pos hc])
  rw[hc,kU];clear hc;go_wp2_with (go_at_call 131;refine hsy.mono ?_;rintro e w4 ⟨rfl,b4,dk4,st4⟩);go_ret;unfold iM;rw[hcm.out];exact⟨rfl,b4,dk4,HT.out.2.trans st4⟩
 ·have hcm:=aD (show Slt.wrsy D (f+p) (Frm.entry g e)=Dsk.write D (f+p) (Frm.entry g e) by unfold Slt.wrsy;rw[if_neg hc])
  rw[eV _ hc];clear hsy;go_wp2_with fail;go_ret;unfold iM;rw[hcm.out];exact⟨(congrArg Ending.returned (eV _ hc)).symm,b3,HT.out.1,HT.out.2⟩
set_option linter.all false
set_option maxHeartbeats 2000000
attribute [local go_sem] Oper.semAt_some
theorem Dsk.lastOf_mem {l:List (Nat×List Nat)} {x i:Nat} (h:Dsk.lastOf l x=some i):∃y∈l,l[i]? =some y∧y.1=x:=by
 have hi:=Dsk.lastOf_lt h;have hp:=List.find?_some h;rw[List.getElem?_eq_getElem hi] at hp;exact⟨l[i],List.getElem_mem hi,List.getElem?_eq_getElem hi,by simpa using hp⟩
theorem Dsk.read_ok {D:Dsk.D} (h:Dsk.ok D) {x:Nat} (hx:x<D.sec.length):Frm.okS (Dsk.read D x):=by
 unfold Dsk.read
 cases ho:Dsk.lastOf D.opn x with
 |none=>
  dsimp only;rw[List.getD_eq_getElem?_getD,List.getElem?_eq_getElem hx];exact h.sec _ (List.getElem_mem hx)
 |some i=>
  obtain⟨y,hy,hg,_⟩:=Dsk.lastOf_mem ho;dsimp only;rw[hg];exact(h.opn y hy).2
abbrev uP:={ s:List Nat // Frm.okS s}
def Kpt (n₀:Nat) (Pk:Nat→Prop) (A B:World):Prop:=Below n₀ A B∧SameAt Pk A B
theorem Kpt.trans {n₀:Nat} {Pk:Nat→Prop} {A B C:World} (h:Kpt n₀ Pk A B) (k:Kpt n₀ Pk B C):Kpt n₀ Pk A C:=⟨h.1.trans k.1,h.2.trans k.2⟩
theorem aC4 {P:Program} {n:Nat} {o:Oper} {a:Act} {w:World} {K K':Act→World→Prop} {Q:Exit→Act→World→Prop} (hp:iX o=true) (hK:∀a w,K a w→K' a w) (h:o.wp P a w K Q):o.wpIn Fence.wide n P a w K' Q:=by
 unfold Oper.wp at h;unfold Oper.wpIn;refine⟨fun _ _=>trivial,?_⟩;rw[Oper.semAt_plain _ _ _ (pW hp)];generalize (execOp a.eval o).run P w=r at h ⊢
 cases r with
 |ok x w'=>
  cases x<;>simp only[Oper.upon,Oper.uponIn] at h ⊢
  case value=>exact hK _ _ h
  case skip=>exact hK _ _ h
  case defer=>exact hK _ _ h
  case enter f args=>
   refine⟨fun hh=>by simp[Fence.wide] at hh,callsIn_wide.2 (h.mono fun e w'' he=>?_)⟩
   cases e with
   |returned v=>exact hK _ _ he
   |panicked c=>exact he
   |outgrown=>exact he
  case row row args=>exact⟨fun hh=>by simp[Fence.wide] at hh,fun c cs _=>let ⟨v,w'',r,st⟩:=h c cs;⟨v,w'',hK _ _ r,stepsIn_wide.2 st⟩⟩
 |halt x w'=>cases x<;>simp only[Oper.upon,Oper.uponIn] at h ⊢<;>exact h
theorem eT {P:Program} {n:Nat} {ops:Array Oper} {rest:List Oper} {o:Oper} {a:Act} {w:World} {Q:Exit→Act→World→Prop} (hgd:o.guard=none) (hp:iX o=true)
 (h:∀K:Act→World→Prop,(∀a w,wpListIn Fence.wide n P ops Q rest a w→K a w)→wpList P #[] (pC K Q) [{ o with guard:=none}] a w):wpListIn Fence.wide n P ops Q (o::rest) a w:=
 wpListIn_plain hgd fun K hK=>aC4 hp (fun _ _ h=>h) (jG (h K hK))
def xG (x:uP):Array Value:=#[sv x.1,.nilIface]
theorem aCV (d:Nat) (b:Dsk.B) (D:Dsk.D) (f m bs bd:Nat) (W0 w:World) (h:Dk W0 d b D) (hdn:D.down=false) (hf:f+m≤D.sec.length) (hN:D.n<1000000) (hw:Below W0.heap.size W0 w)
 (hbs:Hb w bs (eD f m) 239) (hbd:Hb w bd #[.pointer (some ⟨d,0,none⟩)] 50) (xs:List uP) (hxs:xs.map (·.1)=Slt.secs D f m) (n:Nat):
 SeqStopsK Fence.wide n Tryz.prog 273 #[.pointer (some ⟨bs,0,none⟩),.pointer (some ⟨bd,0,none⟩)] xG (Kpt W0.heap.size (fun k=>k=bs∨k=bd)) (fun ys=>ys=xs) (fun pre=>pre<+:xs) m w:=by
 intro l J Jx W hW hJ hJx hY h0;have hroom:=h.ok.room;have hlen:xs.length=m:=by rw[←List.length_map (f:=(·.1)),hxs,Slt.secs_len]
 have HY:=aD hY;have HJ:=aD hJ;have HDK:=aD h;have HXS:=aD hxs;have HDN:=aD hdn
 have H0:=aD (show J [] W∧Below W0.heap.size W0 W∧Hb W bs (eD f m) 239∧Hb W bd #[.pointer (some ⟨d,0,none⟩)] 50 from
  ⟨h0,hw.trans (hW.mono hw.size),(hW.block _ hbs.lt).trans hbs,(hW.block _ hbd.lt).trans hbd⟩)
 have HLE:=aD hlen;have HF:=aD hf;have hf0:f+m≤4096:=by omega
 clear hY hJ hJx h hxs hdn h0 hW hbs hbd hlen hf hw hroom;refine callsIn_of_wp Tryz.func273 rfl trivial ?_ rfl;simp only[Tryz.ntmps273,List.size_toArray,List.length_cons,List.length_nil,Nat.reduceAdd,Nat.reduceSub,Array.replicate_succ,Array.replicate_zero,List.push_toArray,List.append_toArray,List.nil_append,List.cons_append];have c1:=H0.out.2.2.1.cell (i:=1) (v:=.int .i64 (m:Int)) rfl
 gi_wp2_with fail
 clear c1
 gi_loopw [9] (fun x wr=>∃k:Nat,k≤m∧x= .int .i64 k∧J (xs.take k) wr∧Below W0.heap.size W0 wr∧Hb wr bs (eD f m) 239∧Hb wr bd #[.pointer (some ⟨d,0,none⟩)] 50) (fun x _=>m - (intOf x).toNat)
 case atStart=>exact⟨0,by omega,rfl,H0.out⟩
 case round=>
  clear H0;obtain⟨k,hk,rfl,hj,hb0,hs,hd⟩:=hrel
  by_cases hlt:k<m
  ·have hx0:f+k<D.sec.length:=by have:=HF.out;omega
   have hkx:k<xs.length:=by have:=HLE.out;omega
   obtain⟨x,hx⟩:∃x,x=xs[k]:=⟨_,rfl⟩;have hxs:x.1=Dsk.read D (f+k):=by
    have h1:=Slt.secs_get D f hlt;rw[←HXS.out,List.getElem?_map,List.getElem?_eq_getElem hkx,←hx,Option.map_some] at h1;exact Option.some.inj h1
   have hts:xs.take k++[x]=xs.take (k+1):=by rw[hx];exact List.take_append_getElem hkx
   have hrd:Calls Tryz.prog 194 #[.pointer (some ⟨d,0,none⟩),.int .i64 ((f:Int)+(k:Int))] wr fun e w'=>e= .returned (.tuple #[.agg (aH .u8 64 (aT x.1)),.nilIface])∧Below wr.heap.size wr w':=
    (lI d b D (f+k) wr (HDK.out.below hb0) hx0 (by omega)).mono fun e w' he=>⟨by rw[he.1,HDN.out,hxs];rfl,he.2⟩
   have HTS:=aD hts;have cd:=hd.cell (i:=0) (v:=.pointer (some ⟨d,0,none⟩)) rfl;have cs:=hs.cell (i:=0) (v:=.int .i64 (f:Int)) rfl;have HH:=aD (aQ hj (aQ hb0 (aQ hs hd)));have hkm:k+1≤m:=hlt;clear hts hxs hx hkx hx0 hj hb0 hs hd
   gi_wp2_with fail
   refine⟨trivial,fun hh=>by simp[Fence.wide] at hh,(callsIn_wide.2 hrd).mono ?_⟩;rintro e w1 ⟨rfl,hb1⟩;have G1:=aD (aC hb1 none);clear hrd hb1
   gi_wp2_with (first
    |(refine eT rfl rfl (fun K hK=>wpList_store_rowTo rfl _ _ _ rfl rfl w1.heap.size _ rfl rfl _ _ (heap_alloc_new _ _) (by rw[aA];kernel_rfl) (by rw[aA];rfl) (aL _ _ _) (bH (hK _ _ ?_)));generalize hV:World.setRow _ w1.heap.size _=V
      obtain⟨hA,hgV⟩:=cK w1 _ (aH .u8 64 (aT x.1)) 191;rw[hV] at hA hgV;have GV:=aD (aF G1.out hgV);have hJV:J (xs.take k) V:=HJ.out _ _ _ none HH.out.1 GV.out (fun r hr=>by cases hr);have hy0:=HY.out (xs.take k) x V hJV (by rw[List.length_take];omega);unfold xG sv at hy0;obtain⟨fn,tmps,assign,body,hy,hR⟩:=hy0;have RR:=aD hR
      clear hV hgV hJV hR)
    |refine cD rfl _ _ rfl w1.heap.size rfl _ _ (0,0) _ hA rfl rfl (by rw[aA];kernel_rfl) ?_)
   refine⟨fun hh=>by simp[Fence.wide] at hh,RR.out.mono ?_⟩;rw[HTS.out];clear hy hA cd cs;rintro e w2 (⟨rfl,hj2,hk2⟩|⟨rfl,hx2⟩)
   ·have J2:=aD hj2
    have K2:=aD hk2;clear hj2 hk2 RR
    gi_wp2_with fail
    go_roundw
    case rel=>
     have h:=HH.out;have hv:=GV.out;refine⟨k+1,hkm,by go_num,J2.out,(h.2.1.trans ((aB hv).mono h.2.1.size)).trans K2.out.1,?_,?_⟩
     ·exact(K2.out.2 bs (.inl rfl)).trans (h.2.2.1.only hv)
     ·exact(K2.out.2 bd (.inr rfl)).trans (h.2.2.2.only hv)
    case measure=>simp[intOf];omega
   ·clear RR
    gi_wp2_with fail
    refine bodyPost_ret (results_none rfl _ _ _) rfl ?_;exact⟨⟨_,rfl⟩,.inr ⟨xs.take (k+1),List.take_prefix _ _,hx2⟩⟩
  ·gi_wp2_with fail
   go_end0;have e:k=m:=by omega
   have hjm:J xs wr:=by
    have h1:=hj;rw[e,←HLE.out,List.take_length] at h1;exact h1
   exact⟨⟨_,rfl⟩,.inl ⟨xs,rfl,hjm⟩⟩
set_option linter.all false
set_option maxHeartbeats 4000000
attribute [local go_sem] Oper.semAt_some
def fJ (e:bC):List Value:=(ev e).toList
def eI (d f m:Nat) (w:World):World:=(w.alloc (.cells #[.pointer (some ⟨d,0,none⟩)] 50)).alloc (.cells (eD f m) 239)
theorem aBN (d f m:Nat) (w:World):Hb (eI d f m w) w.heap.size #[.pointer (some ⟨d,0,none⟩)] 50∧Hb (eI d f m w) (w.heap.size+1) (eD f m) 239∧w.grownBy (eI d f m w) none∧(eI d f m w).heap.size=w.heap.size+2:=by
 have h1:=(Hb.new w #[.pointer (some ⟨d,0,none⟩)] 50).alloc (.cells (eD f m) 239);have h2:=Hb.new (w.alloc (.cells #[.pointer (some ⟨d,0,none⟩)] 50)) (eD f m) 239;rw[World.size_alloc] at h2;exact⟨h1,h2,aG (aG (aE w none) _) _,by unfold eI;simp⟩
theorem wB (d f m:Nat) (w:World):
 Calls Tryz.prog 241 #[.pointer (some ⟨d,0,none⟩),.agg (eD f m)] w fun e w'=>
  e= .returned (.func (.func 273) #[] #[.pointer (some ⟨w.heap.size+1,0,none⟩),.pointer (some ⟨w.heap.size,0,none⟩)])∧eI d f m w=w':=by
 go_enter Tryz.func241,Tryz.ntmps241;go_wp2_with fail;go_ret;exact⟨rfl,rfl⟩
def kG (st:Option (Nat×List bC)) (v:Value):Array Value:=#[.bool st.isSome,.int .u32 (((st.map (·.1)).getD 0:Nat):Int),v]
def stE (st:Option (Nat×List bC)):List bC:=(st.map (·.2)).getD []
def aG1 (o:Option (Nat×List bC)) (w:World) (e:Ending) (w':World):Prop:=
 Below w.heap.size w w'∧∃v,RowOf w' w.heap.size 73 33 v ((stE o).map fJ)∧e= .returned (.tuple #[.agg (kG o v),.nilIface])
theorem Hb.own {A B':World} {b X:Nat} {cs:Array Value} {t:TypeId} {row:Option Nat} (h:Hb A b cs t) (hg:A.grownBy B' row) (hr:∀r,row=some r→X≤r∧∃o:Obj,A.heap[r]? =some o∧o.isCells=false):Hb B' b cs t:=
 h.keep hg fun e=>by
  obtain⟨_,o,ho,hc⟩:=hr b e.symm;rw[show A.heap[b]? =_ from h] at ho
  cases ho
  cases hc
theorem RowOf.ownR {A B':World} {base X k:Nat} {e:TypeId} {v:Value} {es:List (List Value)} {row:Option Nat} (h:RowOf A base e k v es) (hg:A.grownBy B' row) (hr:∀r,row=some r→X≤r∧∃o:Obj,A.heap[r]? =some o∧o.isCells=false):RowOf B' base e k v es:=
 h.of_block fun g hv=>hg.block g (h.lt hv).2 fun e=>by
  obtain⟨_,o,ho,hc⟩:=hr g e.symm;obtain⟨cs,hcs⟩:=h.type hv;rw[hcs] at ho
  cases ho
  cases hc
theorem RowOf.keep {A B':World} {base k:Nat} {e:TypeId} {v:Value} {es:List (List Value)} {row:Option Nat} (h:RowOf A base e k v es) (hg:A.grownBy B' row) (hr:∀g,v.ownBlock=some g→row≠some g):RowOf B' base e k v es:=
 h.of_block fun g hv=>hg.block g (h.lt hv).2 (fun e=>hr g hv e.symm)
theorem RowOf.ne {A:World} {base k b:Nat} {e t:TypeId} {v:Value} {es:List (List Value)} {cs:Array Value} (h:RowOf A base e k v es) (hb:Hb A b cs t) (hne:t≠e):∀g,v.ownBlock=some g→some b≠some g:=fun g hv e'=>by
 obtain⟨c,hc⟩:=h.type hv
 cases e'
 rw[show A.heap[b]? =_ from hb] at hc
 cases hc
 exact hne rfl
theorem iB {A B' C':World} {r:Option Nat} (h:A.grownBy B' none) (k:B'.grownBy C' r):A.grownBy C' r:=aF (aC (aB h) r) k
def aGF (w:World) (z:Nat) (pre:List uP) (W:World):Prop:=
 ∃st v,Slt.Pre (pre.map (·.1)) st∧Hb W (w.heap.size+1+1+1) (kG st v) 308∧RowOf W z 73 33 v ((stE st).map fJ)∧
  Hb W (w.heap.size+1) #[.bool false,.int .u32 0,.slice none 0 0] 308∧Hb W (w.heap.size+1+1) #[.nilIface] 30∧Below w.heap.size w W∧z≤W.heap.size
def aGC (w:World) (c:Code) (pre:List uP) (W:World):Prop:=
 c= .exit 0∧∃st v,(∀t,Slt.scan (pre.map (·.1)++t)=st)∧Hb W (w.heap.size+1+1+1) (kG st v) 308∧RowOf W w.heap.size 73 33 v ((stE st).map fJ)∧
  Hb W (w.heap.size+1) #[.bool false,.int .u32 0,.slice none 0 0] 308∧Hb W (w.heap.size+1+1) #[.nilIface] 30∧Below w.heap.size w W
theorem nT {w A B':World} {n X:Nat} {row:Option Nat} (h:Below n w A) (hn:n≤X) (hz:n≤A.heap.size) (hg:A.grownBy B' row) (hr:∀r,row=some r→X≤r∧∃o:Obj,A.heap[r]? =some o∧o.isCells=false):Below n w B':=
 h.grown hg hz fun r e=>by have:=(hr r e).1;omega
theorem aBU (w:World) (X:Nat) (hX:w.heap.size≤X):OwnFrom X (aGF w X):=fun s A B' row hs hg hr=>by
 obtain⟨st,v,h1,h2,h3,h4,h5,h6,h7⟩:=hs;exact⟨st,v,h1,h2.own hg hr,h3.ownR hg hr,h4.own hg hr,h5.own hg hr,nT h6 hX h6.size hg hr,Nat.le_trans h7 hg.size⟩
theorem aBP (w:World) (X:Nat) (hX:w.heap.size≤X) (c:Code):OwnFrom X (aGC w c):=fun s A B' row hs hg hr=>by
 obtain⟨h0,st,v,h1,h2,h3,h4,h5,h6⟩:=hs;exact⟨h0,st,v,h1,h2.own hg hr,h3.ownR hg hr,h4.own hg hr,h5.own hg hr,nT h6 hX h6.size hg hr⟩
theorem aAQ {w W W':World} {z B1 B2:Nat} {st:Option (Nat×List bC)} {v:Value} {pre:List uP} {F F':Nat→Prop} (hz0:w.heap.size+1+1+1<z) (h1:B1≠w.heap.size+1+1+1∧B1<z) (h2:B2≠w.heap.size+1+1+1∧B2<z) (hp:Slt.Pre (pre.map (·.1)) st) (hst:Hb W' (w.heap.size+1+1+1) (kG st v) 308) (hrow:RowOf W' z 73 33 v ((stE st).map fJ))
 (hz1:Hb W (w.heap.size+1) #[.bool false,.int .u32 0,.slice none 0 0] 308) (hz2:Hb W (w.heap.size+1+1) #[.nilIface] 30) (hb:Below w.heap.size w W) (hz:z≤W.heap.size) (hg:Stp F F' W W') (hr:∀k,F k→k=w.heap.size+1+1+1∨z≤k)
 (hk:∀k,F k→∃o:Obj,W.heap[k]? =some o∧o.isCells=true):
 KeepsFrom z W W'∧Kpt w.heap.size (fun k=>k=B1∨k=B2) W W'∧aGF w z pre W':=by
 have hne:∀k,k<z→k≠w.heap.size+1+1+1→W'.heap[k]? =W.heap[k]? :=fun k h1 h2=>hg.keep k (by omega) fun hf=>by
  rcases hr k hf with h|h
  ·exact h2 h
  ·omega
 have hbw:Below w.heap.size W W':=hg.below hb.size fun i hi=>by rcases hr i hi with h|h<;>omega
 refine⟨⟨hg.size,fun k o hB hk' ho=>(hg.keep k (Array.getElem?_eq_some_iff.1 hk').1 (fun e=>?_)).trans hk'⟩,⟨hbw,fun k hk'=>?_⟩,st,v,hp,hst,hrow,(hne _ (by omega) (by omega)).trans hz1,(hne _ (by omega) (by omega)).trans hz2,hb.trans hbw,Nat.le_trans hz hg.size⟩
 ·obtain⟨o',h1,h2⟩:=hk k e
  rw[hk'] at h1;cases h1;rw[ho] at h2;cases h2
 ·rcases hk' with rfl|rfl
  ·exact hne _ h1.2 h1.1
  ·exact hne _ h2.2 h2.1
theorem oZ {w W W':World} {z:Nat} {st:Option (Nat×List bC)} {v:Value} {pre:List uP} (hzz:w.heap.size≤z) (hp:∀t,Slt.scan (pre.map (·.1)++t)=st) (hst:Hb W (w.heap.size+1+1+1) (kG st v) 308) (hrow:RowOf W z 73 33 v ((stE st).map fJ))
 (hz1:Hb W (w.heap.size+1) #[.bool false,.int .u32 0,.slice none 0 0] 308) (hz2:Hb W (w.heap.size+1+1) #[.nilIface] 30) (hb:Below w.heap.size w W) (hg:W.grownBy W' none):KeepsFrom z W W'∧aGC w (.exit 0) pre W':=
 ⟨KeepsFrom.of_grownBy hg (fun j e=>by cases e),rfl,st,v,hp,hst.only hg,(hrow.mono hzz).keep hg (fun _ _=>by simp),hz1.only hg,hz2.only hg,hb.trans ((aB hg).mono hb.size)⟩
theorem mR {w:World} {ty:TypeId} {d:TypeDesc} (hu:Tryz.prog.underlying ty=some d) (hd:d.isRow=false) {ad:Addr} {v:Value} (hc:w.cell? ad=some v):(loadVar ty ad).run Tryz.prog w= .ok v w:=by
 have hagg:(isAgg ty).run Tryz.prog w= .ok false w:=by
  unfold isAgg;rw[Sem.run_bind,run_underlying hu w]
  cases d<;>simp_all
 simp[loadVar,Sem.run_bind,hagg,hc]
theorem iD {fn:Func} {p q:Tmp} {ty tz:TypeId} (h:fn.results=#[.cell p ty,.cell q tz]) (tmps:Array Value) (w:World) (g k:Nat) (t:TypeId) (cs:Array Value) (v:Value) (fr:Nat×Nat) (d d':TypeDesc)
 (hp:tmps.getD p undef= .pointer (some ⟨g,0,none⟩)) (hg:w.heap[g]? =some (.cells cs t fr))
 (hu:Tryz.prog.underlying ty=some d) (hd:d.isRow=true) (hi:(Tryz.prog.info? ty).map (·.size)=some cs.size)
 (hq:tmps.getD q undef= .pointer (some ⟨k,0,none⟩)) (hk:w.cell? ⟨k,0,none⟩=some v) (hu':Tryz.prog.underlying tz=some d') (hd':d'.isRow=false):
 (results fn tmps).run Tryz.prog w= .ok (.tuple #[.agg cs,v]) w:=by
 have hp':tmps[p]?.getD undef= .pointer (some ⟨g,0,none⟩):=by simpa using hp
 have hq':tmps[q]?.getD undef= .pointer (some ⟨k,0,none⟩):=by simpa using hq
 have hrow:(loadVar ty ⟨g,0,none⟩).run Tryz.prog w= .ok (.agg cs) w:=by
  cases d with
  |struct fs=>exact run_loadVar_row w g t ty cs fr _ hg hu rfl hi
  |array n e=>exact run_loadVar_row w g t ty cs fr _ hg hu rfl hi
  |_=>cases hd
 simp[results,h,hp',hq',asAddr,hrow,mR hu' hd' hk]
theorem aDQ:j6 73 33 40:=rK (by decide) (by kernel_rfl)
theorem uU (o:Oper) (a:Act) (w:World) (i:Operand) (e:bC) (ho:o.op= .buildSlice 55 1 #[(0,i)]) (hi:a.eval i= .agg (ev e)):
 (execOp a.eval o).run Tryz.prog w= .ok (.value (.slice (some ⟨w.heap.size,0,none⟩) 1 1)) (w.alloc (.cells (ev e) 73)):=by
 unfold execOp;simp only[ho];rw[show(#[(0,i)]:Array (Nat×Operand)).map (fun(i,x)=>(i,a.eval x))=#[(0,.agg (ev e))] by simp[hi]]
 kernel_rfl
theorem cZ {w w':World} {ops:Array Oper} {rest:List Oper} {o:Oper} {a:Act} {Q:Exit→Act→World→Prop} (hgd:o.guard=none) (v:Value) (hrun:(execOp a.eval o).run Tryz.prog w= .ok (.value v) w') (h:wpList Tryz.prog ops Q rest (a.put o.dst v) w'):wpList Tryz.prog ops Q (o::rest) a w:=
 wpList_plain hgd fun K hK=>by
  unfold Oper.wp;rw[hrun];exact hK _ _ h
theorem kE (e:bC):(fJ e).length=33:=by unfold fJ;rw[Array.length_toList,bP]
theorem mV (e:bC):∀u∈fJ e,u.oneCell'=true:=fun u hu=>Array.all_eq_true_iff_forall_mem.1 (gP e) u (by unfold fJ at hu;simpa using hu)
theorem s9 {w:World} {b:Nat} {e:bC} {t:TypeId} (h:Hb w b (ev e) t):∀j u,([fJ e].flatten)[j]? =some u→w.cell? ((⟨b,0,none⟩:Addr).add j)=some u:=fun j u hj=>by
 rw[Addr.add_mid,Nat.zero_add];exact h.cell (by simpa [fJ] using hj)
theorem vP {l:List (List Nat)} (h:Slt.Pre l none):l=[]:=by
 rcases h with ⟨h,_⟩|⟨_,_,_,_,_,_,h⟩
 ·exact h
 ·cases h
theorem aIX {w:World} {d:Nat} {b:Dsk.B} {D:Dsk.D} (h:Dk w d b D) {f m:Nat} (hf:f+m≤D.sec.length):∃xs:List uP,xs.map (·.1)=Slt.secs D f m:=by
 have hall:∀s∈Slt.secs D f m,Frm.okS s:=fun s hs=>by
  unfold Slt.secs at hs;obtain⟨i,hi,rfl⟩:=List.mem_map.1 hs;exact Dsk.read_ok h.ok (by have:=List.mem_range.1 hi;omega)
 exact⟨(Slt.secs D f m).attach.map fun x=>⟨x.1,hall x.1 x.2⟩,by rw[List.map_map];exact List.attach_map_subtype_val _⟩
def aJU (d f m:Nat) (w W4:World) (x:uP) (a':Act) (W:World):Prop:=
 ∃bx,W4.heap.size+2≤bx∧Hb W bx (aH .u8 64 (aT x.1)) 191∧a'={ tmps:=#[.pointer (some ⟨d,0,none⟩),.agg (eD f m),undef,.pointer (some ⟨w.heap.size,0,none⟩),.pointer (some ⟨w.heap.size+1,0,none⟩),.pointer (some ⟨w.heap.size+1+1,0,none⟩),.pointer (some ⟨w.heap.size+1+1+1,0,none⟩),.pointer (some ⟨bx,0,none⟩),.nilIface,undef,undef,undef,undef,undef,.pointer (some ⟨d,0,none⟩),.agg (eD f m),.func (.func 273) #[] #[.pointer (some ⟨W4.heap.size+1,0,none⟩),.pointer (some ⟨W4.heap.size,0,none⟩)],sv x.1,.nilIface,undef,undef,undef,undef,undef,undef,undef,undef,undef,undef,undef,undef,undef,undef,undef,undef,undef,undef,undef,undef,undef,undef,undef,undef,undef,undef,undef,undef,undef,undef,undef,undef,undef,undef,undef,undef,undef,undef],defers:=[]}
theorem aD7 (d:Nat) (b:Dsk.B) (D:Dsk.D) (f m:Nat) (w:World) (h:Dk w d b D) (hdn:D.down=false) (hf:f+m≤D.sec.length) (hN:D.n<1000000):
 Calls Tryz.prog 196 #[.pointer (some ⟨d,0,none⟩),.agg (eD f m)] w (aG1 (Slt.scan (Slt.secs D f m)) w):=by
 obtain⟨W4,hW4⟩:∃W4,W4=(((w.alloc (.cells (eD f m) 239)).alloc (.cells #[.bool false,.int .u32 0,.slice none 0 0] 308)).alloc (.cells #[.nilIface] 30)).alloc (.cells #[.bool false,.int .u32 0,.slice none 0 0] 308):=⟨_,rfl⟩;have h0:=(((Hb.new w (eD f m) 239).alloc (.cells #[.bool false,.int .u32 0,.slice none 0 0] 308)).alloc (.cells #[.nilIface] 30)).alloc (.cells #[.bool false,.int .u32 0,.slice none 0 0] 308);have h1:=((Hb.new (w.alloc (.cells (eD f m) 239)) #[.bool false,.int .u32 0,.slice none 0 0] 308).alloc (.cells #[.nilIface] 30)).alloc (.cells #[.bool false,.int .u32 0,.slice none 0 0] 308);have h2:=(Hb.new ((w.alloc (.cells (eD f m) 239)).alloc (.cells #[.bool false,.int .u32 0,.slice none 0 0] 308)) #[.nilIface] 30).alloc (.cells #[.bool false,.int .u32 0,.slice none 0 0] 308);have h3:=Hb.new (((w.alloc (.cells (eD f m) 239)).alloc (.cells #[.bool false,.int .u32 0,.slice none 0 0] 308)).alloc (.cells #[.nilIface] 30)) #[.bool false,.int .u32 0,.slice none 0 0] 308;have g4:=aG (aG (aG (aG (aE w none) (.cells (eD f m) 239)) (.cells #[.bool false,.int .u32 0,.slice none 0 0] 308)) (.cells #[.nilIface] 30)) (.cells #[.bool false,.int .u32 0,.slice none 0 0] 308);have z4:W4.heap.size=w.heap.size+4:=by rw[hW4];simp
 simp only[World.size_alloc] at h1 h2 h3;rw[←hW4] at h0 h1 h2 h3 g4;have h0':=h0;rw[hW4] at h0';have HH:=aD (aQ h0 (aQ h1 (aQ h2 (aQ h3 (aQ g4 z4)))));have HD:=aD h;have HW:=aD hW4;clear h0 h1 h2 h3 g4 z4 h hW4;refine(callsIn_wide (n:=5)).1 ?_;refine callsIn_of_wp_marks Tryz.func196 rfl trivial ?_ rfl;simp only[Tryz.ntmps196,List.size_toArray,List.length_cons,List.length_nil,Nat.reduceAdd,Nat.reduceSub,Array.replicate_succ,Array.replicate_zero,List.push_toArray,List.append_toArray,List.nil_append,List.cons_append]
 gi_wp2_with (refine cD rfl _ _ rfl w.heap.size rfl _ _ (0,0) _ h0' rfl rfl (by kernel_rfl) ?_)
 rw[←HW.out];refine⟨trivial,(callsIn_wide.2 (wB d f m W4)).mono ?_⟩;rintro e w1 ⟨rfl,rfl⟩
 gi_wp2_with fail
 obtain⟨h0,h1,h2,h3,g4,z4⟩:=HH.out;obtain⟨hS0,hS1,hSg,hSz⟩:=aBN d f m W4;obtain⟨xs,hxs⟩:=aIX HD.out hf;have hB6:Below w.heap.size w (eI d f m W4):=aB (aF g4 hSg);have hz6:(eI d f m W4).heap.size=w.heap.size+6:=by omega
 have Z:=aD (aQ z4 (aQ hSz hz6));refine wpIn_rangeFunc_ownH (F:=Fence.wide) rfl (by omega) (gf:=273) (lb:=#[.pointer (some ⟨W4.heap.size+1,0,none⟩),.pointer (some ⟨W4.heap.size,0,none⟩)]) rfl trivial (enters_of Tryz.func273 (by kernel_rfl) rfl)
  (aCV d b D f m (W4.heap.size+1) W4.heap.size w (eI d f m W4) HD.out hdn hf hN hB6 hS1 hS0 xs hxs 4) Kpt.trans ?hKb (Below.refl _ _) (fun _=>rfl)
  (aGF w (eI d f m W4).heap.size) (aGC w) (aBU w _ (by omega)) (aBP w _ (by omega)) ?h0 (aJU d f m w W4) ?hAx ?assign ?body ?done ?stop
 case hKb=>
  intro W l o o' hl ho hc hw;exact⟨belowK_b (w:=eI d f m W4) (by omega) W l o o' hl ho hc hw,fun k hk=>World.putObj_heap_other (by rcases hk with rfl|rfl<;>omega)⟩
 case h0=>
  exact⟨none,.slice none 0 0,.inl ⟨rfl,rfl⟩,h3.only hSg,RowOf.nil _ _ _ _,h1.only hSg,h2.only hSg,hB6,Nat.le_refl _⟩
 case hAx=>
  rintro x a' _ A B' row ⟨bx,h1,h2,h3⟩ hg hr;exact⟨bx,h1,h2.own hg hr,h3⟩
 case assign=>
  intro l pre x W K hi hK;have HK:=aD hK;have HI:=aD hi;clear hK hi z4 hSz hz6;have hxe:xG x=#[.agg (aH .u8 64 (aT x.1)),.nilIface]:=rfl;rw[hxe];clear hxe
  gi_wp2_with (refine bX rfl rfl (fun K hK=>wpList_store_rowTo rfl _ _ _ rfl rfl W.heap.size _ rfl rfl _ _ (heap_alloc_new _ _) (by rw[aA];kernel_rfl) (by rw[aA];rfl) (aL _ _ _) (bH (hK _ _ ?_)));generalize hV:World.setRow _ W.heap.size _=V)
  obtain⟨hA,hgV⟩:=cK W _ (aH .u8 64 (aT x.1)) 191;rw[hV] at hA hgV;obtain⟨st,v,hp,hst,hrow,hz1,hz2,hbw,hzw⟩:=HI.out;have zz:=Z.out;have hbV:=aB hgV;refine HK.out _ _ (KeepsFrom.of_grownBy hgV (fun j e=>by cases e)) ⟨hbV.mono hbw.size,fun k hk=>hgV.block k (by rcases hk with rfl|rfl<;>omega) (by simp)⟩
   ⟨st,v,hp,hst.only hgV,hrow.keep hgV (fun _ _=>by simp),hz1.only hgV,hz2.only hgV,hbw.trans (hbV.mono hbw.size),Nat.le_trans hzw hgV.size⟩ ⟨W.heap.size,by omega,hA,rfl⟩
 case body=>
  rintro l pre x a' W hl ⟨r,hr⟩ ⟨st,v,hp,hst,hrow,hz1,hz2,hbw,hzw⟩ ⟨bx,hbx,hb,rfl⟩ hlt;have HI0:=aD (aQ hz1 (aQ hz2 (aQ hst hrow)));clear z4 hSz hz6 h0 h1 h2 h3 g4 hS0 hS1 hSg h0'
  cases st with
  |none=>
   have hc0:=hst.cell (i:=0) (v:=.bool false) rfl;have HP:=aD hp;clear hp
   gi_wp2_with (refine bX rfl rfl (fun K hK=>aS (by kernel_rfl) _ _ rfl bx rfl _ _ (0,0) _ hb rfl rfl (by rw[aA];kernel_rfl) (bH (hK _ _ ?_))))
   refine⟨trivial,(CallsIn.inRound l (callsIn_wide.2 (uQ x.1 W x.2))).mono ?_⟩;rintro e w1 ⟨rfl,hb1⟩;have G1:=aD (aC hb1 none);have HST:=aD (hst.only (aC hb1 none));have HRW:=aD (hrow.keep (aC hb1 none) (fun _ _=>by simp));have HZ1:=aD (hz1.only (aC hb1 none));have HZ2:=aD (hz2.only (aC hb1 none));have HBW:=aD (aQ hbw hzw);clear hb1 hst hrow hz1 hz2 hbw hzw hc0 hb
   cases hph:Frm.parseH x.1 with
   |none=>
    have hps:=aD hph;clear hph
    gi_wp2_with fail
    have zz:=Z.out;refine oZ (by omega) (st:=none) (v:=v) (fun t=>?_) HI0.out.2.2.1 HI0.out.2.2.2 HI0.out.1 HI0.out.2.1 HBW.out.1 G1.out;rw[List.map_append,vP HP.out];exact Slt.pre_bad hps.out t
   |some g=>
    have hps:=aD hph;clear hph;have hst:=HST.out;have c0:=hst.cell (i:=0) (v:=.bool false) rfl;have c1:=hst.cell (i:=1) (v:=.int .u32 0) rfl;have f0:=hst.frozen 0;have f1:=hst.frozen 1;clear hst
    gi_wp2_with fail
    have zz:=Z.out;have h2:=(HST.out.set 0 (.bool true)).set 1 (.int .u32 (g:Int));have hg:=(Stp.of_only G1.out (fun k=>k=w.heap.size+1+1+1)).trans ((Stp.cell (F:=fun k=>k=w.heap.size+1+1+1) (b:=w.heap.size+1+1+1) w1 0 (.bool true) rfl).trans (Stp.cell _ 1 (.int .u32 (g:Int)) rfl));exact aAQ (by omega) (by omega) (by omega) (st:=some (g,[])) (by rw[List.map_append,vP HP.out];exact Slt.pre_head hps.out) h2
     (HRW.out.keep (bA (bA (aE w1 _) 0 (.bool true)) 1 (.int .u32 (g:Int))) (HRW.out.ne HST.out (by decide))) HI0.out.1 HI0.out.2.1 HBW.out.1 HBW.out.2 hg (fun k e=>.inl e) (fun k e=>by cases e;exact⟨_,HI0.out.2.2.1,rfl⟩)
  |some y=>
   obtain⟨g0,es⟩:=y;have hc0:=hst.cell (i:=0) (v:=.bool true) rfl;have HP:=aD hp;clear hp
   gi_wp2_with (refine bX rfl rfl (fun K hK=>aS (by kernel_rfl) _ _ rfl bx rfl _ _ (0,0) _ hb rfl rfl (by rw[aA];kernel_rfl) (bH (hK _ _ ?_))))
   refine⟨trivial,(CallsIn.inRound l (callsIn_wide.2 (vW x.1 W x.2))).mono ?_⟩;unfold aJ1;rintro e w1 ⟨rfl,hb1⟩;have G1:=aD (aC hb1 none);have HST:=aD (hst.only (aC hb1 none));have HRW:=aD (hrow.keep (aC hb1 none) (fun _ _=>by simp));have HZ1:=aD (hz1.only (aC hb1 none));have HZ2:=aD (hz2.only (aC hb1 none));have HBW:=aD (aQ hbw hzw);clear hb1 hst hrow hz1 hz2 hbw hzw hc0 hb;obtain⟨R,hR⟩:∃R,R=Frm.parseE x.1:=⟨_,rfl⟩;rw[←hR];have HR:=aD hR;clear hR
   cases R with
   |none=>
    gi_wp2_with (refine bX rfl rfl (fun K hK=>wpList_store_rowTo rfl _ _ _ rfl rfl w1.heap.size _ rfl rfl _ _ (heap_alloc_new _ _) (cI _) (by rw[bP];rfl) (gP _) (bH (hK _ _ ?_)));generalize hV:World.setRow _ w1.heap.size _=V)
    obtain⟨hA,hgV⟩:=cK w1 _ (ev eJ) 73;rw[hV] at hA hgV;have zz:=Z.out;refine oZ (by omega) (st:=some (g0,es)) (v:=v) (fun t=>?_) HI0.out.2.2.1 HI0.out.2.2.2 HI0.out.1 HI0.out.2.1 HBW.out.1 (aF G1.out hgV);rw[List.map_append];exact Slt.pre_stop HP.out (fun e h=>by rw[←HR.out] at h;cases h) t
   |some z=>
    obtain⟨h,e⟩:=z
    by_cases hh:h=g0
    ·subst hh
     have hle:es.length≤1000000:=by
      have h1:=Slt.pre_len HP.out (h,es) rfl;rw[List.length_map] at h1;dsimp only at h1;have h2:=HD.out.ok.room;omega
     have hrfl:((h:Int)==(h:Int))=true:=by simp
     gi_wp2_with (first
      |(refine bX rfl rfl (fun K hK=>wpList_store_rowTo rfl _ _ _ rfl rfl w1.heap.size _ rfl rfl _ _ (heap_alloc_new _ _) (cI _) (by rw[bP];rfl) (gP _) (bH (hK _ _ ?_)));generalize hV:World.setRow _ w1.heap.size _=V
        obtain⟨hA,hgV⟩:=cK w1 _ (ev e) 73;rw[hV] at hA hgV;have hsV:=HST.out.only hgV;have c1:=hsV.cell (i:=1) (v:=.int .u32 (h:Int)) rfl;have c2:=hsV.cell (i:=2) (v:=v) rfl;have HSV:=aD hsV;have HRV:=aD (HRW.out.keep hgV (fun _ _=>by simp));have GV:=aD (aF G1.out hgV)
        clear hV hgV hsV)
      |refine bX rfl rfl (fun K hK=>aS (by kernel_rfl) _ _ rfl w1.heap.size rfl _ _ (0,0) _ hA rfl rfl (cI _) (bH (hK _ _ ?_)))
      |(refine bX rfl rfl (fun K hK=>cZ rfl _ (uU _ _ _ _ _ rfl rfl) (bH (hK _ _ ?_)))
        have hE2:=Hb.new V (ev e) 73;have g2:=aG (aE V none) (.cells (ev e) 73);have bV:V.heap.size<(V.alloc (.cells (ev e) 73)).heap.size:=by simp
        generalize V.alloc (.cells (ev e) 73)=V2 at*;have HR2:=HRV.out.keep g2 (fun _ _=>by simp);have HS2:=HSV.out.only g2;have f2:=HS2.frozen 2;have c22:=HS2.cell (i:=2) (v:=v) rfl;have HSV2:=aD HS2;have GV2:=aD (aF GV.out g2);have hne2:=aD (HR2.ne HS2 (by decide));have CE:=aD (s9 hE2);have hb2:(eI d f m W4).heap.size≤V2.heap.size:=Nat.le_trans HBW.out.2 (aF GV.out g2).size
        clear g2 hE2 HS2 c1 c2 hA)
      |(gi_at_builtin;refine bX rfl rfl (fun K hK=>gU (es:=es.map fJ) (fs:=[fJ e]) rfl _ _ rfl rfl HR2 aDQ Tryz.underlying55 ⟨V.heap.size,0,none⟩ 1 1 rfl rfl (fun x hx=>by rw[List.mem_singleton.1 hx];exact kE e) (fun x hx=>by rw[List.mem_singleton.1 hx];exact mV e) CE.out (by rw[List.length_map];simp;omega) (by decide) hb2 (fun v' w' r1 r2 r3=>bH (hK _ _ ?_)))
        obtain⟨p2,cap2,rfl⟩:=r1.form;have hs3:=HSV2.out.keep r2 (fun e=>hne2.out _ e.symm rfl);have c3:=hs3.cell (i:=2) (v:=v) rfl;have f3:=hs3.frozen 2;have R1:=aD (aQ r1 (aQ r2 (aQ r3 hs3)))
        clear r1 r2 r3 hs3 HR2 c22 f2 hb2))
     have zz:=Z.out;obtain⟨r1,r2,_,hs3⟩:=R1.out;have hs4:=hs3.set 2 (.slice p2 (es.length+1) cap2);have hstp:=(Stp.of_only GV2.out (fun k=>k=w.heap.size+1+1+1∨v.ownBlock=some k)).trans ((Stp.of_grown r2 (fun g hg=>.inl (.inr hg))).trans (Stp.cell w' 2 (.slice p2 (es.length+1) cap2) (.inl rfl)));have hrow':RowOf w' (eI d f m W4).heap.size 73 33 (.slice p2 (es.length+1) cap2) ((es++[e]).map fJ):=by
      have h1:=r1;rw[List.length_append,List.length_map,List.length_singleton] at h1;rw[List.map_append];exact h1
     exact aAQ (by omega) (by omega) (by omega) (st:=some (h,es++[e])) (by rw[List.map_append];exact Slt.pre_next HP.out HR.out.symm) hs4
      (hrow'.keep (bA (aE w' _) 2 (.slice p2 (es.length+1) cap2)) (hrow'.ne hs3 (by decide))) HI0.out.1 HI0.out.2.1 HBW.out.1 HBW.out.2 hstp
      (fun k e=>e.imp id (fun e=>(HI0.out.2.2.2.lt e).1)) (fun k e=>by
        rcases e with rfl|e
        ·exact⟨_,HI0.out.2.2.1,rfl⟩
        ·obtain⟨cs,hcs⟩:=HI0.out.2.2.2.type e
         exact⟨_,hcs,rfl⟩)
    ·have hne:=aD hh
     have hd:((h:Int)==(g0:Int))=false:=by simp;omega
     have hd2:((h:Int)!=(g0:Int))=true:=by simp;omega
     clear hh
     gi_wp2_with (first
      |(refine bX rfl rfl (fun K hK=>wpList_store_rowTo rfl _ _ _ rfl rfl w1.heap.size _ rfl rfl _ _ (heap_alloc_new _ _) (cI _) (by rw[bP];rfl) (gP _) (bH (hK _ _ ?_)));generalize hV:World.setRow _ w1.heap.size _=V
        obtain⟨hA,hgV⟩:=cK w1 _ (ev e) 73;rw[hV] at hA hgV;have hsV:=HST.out.only hgV;have c1:=hsV.cell (i:=1) (v:=.int .u32 (g0:Int)) rfl;have GV:=aD (aF G1.out hgV)
        clear hV hgV hsV hA))
     have zz:=Z.out;refine oZ (by omega) (st:=some (g0,es)) (v:=v) (fun t=>?_) HI0.out.2.2.1 HI0.out.2.2.2 HI0.out.1 HI0.out.2.1 HBW.out.1 GV.out;rw[List.map_append];exact Slt.pre_stop HP.out (fun e' h'=>by rw[←HR.out] at h';injection h' with h';injection h' with h1 h2;exact hne.out h1) t
 case done=>
  rintro D1 ys W hD rfl ⟨st,v,hp,hst,hrow,hz1,hz2,hbw,hzw⟩ hdf;clear z4 hSz hz6 h0 h1 h2 h3 g4 hS0 hS1 hSg h0';have HS:=aD (aQ hz2 (aQ hrow hbw));have HDF:=aD hdf;have HP:=aD (show Slt.scan (Slt.secs D f m)=st by rw[←hxs];exact Slt.pre_all hp);have hv1:v.oneCell'=true:=by obtain⟨p2,c2,rfl⟩:=hrow.form;rfl
  have z2:=hz2.cell (i:=0) (v:=.nilIface) rfl;have zf:=hz2.frozen 0;have hone:(kG st v).all (·.oneCell')=true:=Array.all_eq_true_iff_forall_mem.2 fun u hu=>by simp[kG] at hu;rcases hu with rfl|rfl|rfl<;>first|rfl|exact hv1
  clear hv1;clear hdf hp hrow hbw hzw hz2
  gi_wp2_with (first
   |refine cD rfl _ _ rfl (w.heap.size+1+1+1) rfl _ _ (0,0) _ hst rfl rfl (by kernel_rfl) ?_
   |(refine eT rfl rfl (fun K hK=>wpList_store_rowTo rfl _ _ _ rfl rfl (w.heap.size+1) _ rfl rfl _ _ hz1 (by kernel_rfl) rfl hone (bH (hK _ _ ?_)))
     obtain⟨hA,hgA⟩:=hz1.row (kG st v);have z2:=(HS.out.1.keep hgA (by simp)).cell (i:=0) (v:=.nilIface) rfl;have zf:=(HS.out.1.keep hgA (by simp)).frozen 0;have HA:=aD (aQ hA hgA)
     clear hA hgA))
  obtain⟨hA,hgA⟩:=HA.out;obtain⟨z2,hrow,hbw⟩:=HS.out;have zz:=Z.out;have hD1:W.heap[D1]? =some (.deferred (some [])):=HDF.out;have hd1:D1<W.heap.size:=(Array.getElem?_eq_some_iff.1 hD1).1;have hne1:D1≠w.heap.size+1:=by omega
  have hne2:D1≠w.heap.size+1+1:=by omega
  have hA2:=hA.far (p:=⟨w.heap.size+1+1,0,none⟩) (by simp) .nilIface;have hZ2:=(z2.keep hgA (by simp)).set 0 .nilIface;have hK:((W.setRow (w.heap.size+1) (kG st v)).setCell ⟨w.heap.size+1+1,0,none⟩ .nilIface).heap[D1]? =some (.deferred (some [])):=
   (Below.heap_setCell _ _ _ _ (by simpa using hne2)).trans ((hgA.block D1 hd1 (by simpa using hne1)).trans hD1)
  refine⟨by simp,.inl ⟨_,_,rfl,run_takeDeferred hK,?_⟩⟩;refine⟨_,iD rfl _ _ (w.heap.size+1) (w.heap.size+1+1) _ (kG st v) .nilIface (0,0) _ _ rfl ((World.putObj_heap_other hne1.symm).trans hA2) rfl rfl (by kernel_rfl) rfl (World.cell?_of_block (World.putObj_heap_other hne2.symm) |>.trans (hZ2.cell rfl)) rfl rfl,?_⟩;have b1:=hbw.grown hgA hbw.size (fun k e=>by cases e;omega);have b2:=b1.grown (bA (aE _ (some (w.heap.size+1+1))) 0 .nilIface) b1.size (fun k e=>by cases e;omega);have b3:=b2.grown (grownBy_putObj' _ D1 (.deferred none)) b2.size (fun k e=>by cases e;omega);have r1:=hrow.keep hgA (hrow.ne hz1 (by decide));have r2:=r1.keep (bA (aE _ (some (w.heap.size+1+1))) 0 .nilIface) (r1.ne (z2.keep hgA (by simp)) (by decide));have r3:=r2.ownR (X:=0) (grownBy_putObj' _ D1 (.deferred none)) (fun r e=>by cases e;exact⟨Nat.zero_le _,_,hK,rfl⟩);rw[HP.out];exact⟨b3,v,r3.mono (by omega),rfl⟩
 case stop=>
  rintro D1 c pre W hD hpre ⟨rfl,st,v,hp,hst,hrow,hz1,hz2,hbw⟩ hdf;clear z4 hSz hz6 h0 h1 h2 h3 g4 hS0 hS1 hSg h0';have HS:=aD (aQ hz2 (aQ hrow hbw));have HDF:=aD hdf
  have HP:=aD (show Slt.scan (Slt.secs D f m)=st by
   obtain⟨t,ht⟩:=hpre;rw[←hxs,←ht,List.map_append]
   exact hp _)
  have hv1:v.oneCell'=true:=by obtain⟨p2,c2,rfl⟩:=hrow.form;rfl
  have z2:=hz2.cell (i:=0) (v:=.nilIface) rfl;have zf:=hz2.frozen 0;have hone:(kG st v).all (·.oneCell')=true:=Array.all_eq_true_iff_forall_mem.2 fun u hu=>by simp[kG] at hu;rcases hu with rfl|rfl|rfl<;>first|rfl|exact hv1
  clear hv1;clear hdf hp hrow hbw hz2
  gi_wp2_with (first
   |refine cD rfl _ _ rfl (w.heap.size+1+1+1) rfl _ _ (0,0) _ hst rfl rfl (by kernel_rfl) ?_
   |(refine eT rfl rfl (fun K hK=>wpList_store_rowTo rfl _ _ _ rfl rfl (w.heap.size+1) _ rfl rfl _ _ hz1 (by kernel_rfl) rfl hone (bH (hK _ _ ?_)))
     obtain⟨hA,hgA⟩:=hz1.row (kG st v);have z2:=(HS.out.1.keep hgA (by simp)).cell (i:=0) (v:=.nilIface) rfl;have zf:=(HS.out.1.keep hgA (by simp)).frozen 0;have HA:=aD (aQ hA hgA)
     clear hA hgA))
  obtain⟨hA,hgA⟩:=HA.out;obtain⟨z2,hrow,hbw⟩:=HS.out;have zz:=Z.out;have hD1:W.heap[D1]? =some (.deferred (some [])):=HDF.out;have hd1:D1<W.heap.size:=(Array.getElem?_eq_some_iff.1 hD1).1;have hne1:D1≠w.heap.size+1:=by omega
  have hne2:D1≠w.heap.size+1+1:=by omega
  have hA2:=hA.far (p:=⟨w.heap.size+1+1,0,none⟩) (by simp) .nilIface;have hZ2:=(z2.keep hgA (by simp)).set 0 .nilIface;have hK:((W.setRow (w.heap.size+1) (kG st v)).setCell ⟨w.heap.size+1+1,0,none⟩ .nilIface).heap[D1]? =some (.deferred (some [])):=
   (Below.heap_setCell _ _ _ _ (by simpa using hne2)).trans ((hgA.block D1 hd1 (by simpa using hne1)).trans hD1)
  refine⟨by simp,.inl ⟨_,_,rfl,run_takeDeferred hK,?_⟩⟩;refine⟨_,iD rfl _ _ (w.heap.size+1) (w.heap.size+1+1) _ (kG st v) .nilIface (0,0) _ _ rfl ((World.putObj_heap_other hne1.symm).trans hA2) rfl rfl (by kernel_rfl) rfl (World.cell?_of_block (World.putObj_heap_other hne2.symm) |>.trans (hZ2.cell rfl)) rfl rfl,?_⟩;have b1:=hbw.grown hgA hbw.size (fun k e=>by cases e;omega);have b2:=b1.grown (bA (aE _ (some (w.heap.size+1+1))) 0 .nilIface) b1.size (fun k e=>by cases e;omega);have b3:=b2.grown (grownBy_putObj' _ D1 (.deferred none)) b2.size (fun k e=>by cases e;omega);have r1:=hrow.keep hgA (hrow.ne hz1 (by decide));have r2:=r1.keep (bA (aE _ (some (w.heap.size+1+1))) 0 .nilIface) (r1.ne (z2.keep hgA (by simp)) (by decide));have r3:=r2.ownR (X:=0) (grownBy_putObj' _ D1 (.deferred none)) (fun r e=>by cases e;exact⟨Nat.zero_le _,_,hK,rfl⟩);rw[HP.out];exact⟨b3,v,r3.mono (by omega),rfl⟩
end Go.Proofs.YtcoolgnlhheaiaaGreatDoor
