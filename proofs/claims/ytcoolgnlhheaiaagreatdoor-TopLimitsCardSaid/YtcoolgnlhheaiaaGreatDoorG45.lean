import Derived.Test.YtcoolgnlhheaiaaGreatDoorG43
namespace Go.Proofs.YtcoolgnlhheaiaaGreatDoor
open Go.RowKit Go.Deep Go.Maps Go.ChangeMaps Go.MapKept Go.WideShapes
set_option linter.all false
set_option maxRecDepth 100000
set_option maxHeartbeats 2000000
structure TA where
 q:ByteArray
 u:Value
 s:Int
 x:Int
 k:Nat→Nat
 r:ByteArray
 v:Value
 t:Int
 m:Nat
 z:Nat
def TA.tk (A:TA):Array Value:=Go.Proofs.YtcoolgnlhheaiaaGreatDoor.tk A.q A.u A.s A.x A.k
def TA.au (A:TA):Array Value:=Go.Proofs.YtcoolgnlhheaiaaGreatDoor.au A.r A.v A.t A.m A.z
def TA.zero:TA:=⟨⟨#[]⟩,.slice none 0 0,0,0,fun _=>0,⟨#[]⟩,.slice none 0 0,0,0,0⟩
def lQ (v:Nat) (bv:Value) (A:TA):Array Value:=#[.pointer (some ⟨v,0,none⟩),bv]++A.tk++A.au
theorem sZ (v:Nat) (bv:Value) (A:TA):(lQ v bv A).size=27:=by kernel_rfl
theorem tF (v:Nat) (bv:Value) (A:TA):(lQ v bv A)[0]? =some (.pointer (some ⟨v,0,none⟩)):=by kernel_rfl
theorem TA.tk_size (A:TA):A.tk.size=20:=Go.Proofs.YtcoolgnlhheaiaaGreatDoor.tk_size _ _ _ _ _
theorem TA.au_size (A:TA):A.au.size=5:=rfl
theorem aJE (v:Nat) (bv:Value) (A:TA) (j:Nat) (hj:j<20):(lQ v bv A)[2+j]? =A.tk[j]? :=by
 unfold lQ;rw[Array.getElem?_append_left (by rw[Array.size_append,A.tk_size];show 2+j<2+20;omega),Array.getElem?_append_right (by show 2≤2+j;omega)];show A.tk[2+j - 2]? =_;rw[Nat.add_sub_cancel_left]
theorem aJK (v:Nat) (bv:Value) (A:TA) (j:Nat):(lQ v bv A)[22+j]? =A.au[j]? :=by
 unfold lQ;rw[Array.getElem?_append_right (by rw[Array.size_append,A.tk_size];show 2+20≤22+j;omega),Array.size_append,A.tk_size];show A.au[22+j - (2+20)]? =_;congr 1;omega
theorem aHR (v:Nat) (bv:Value) (A B:TA):mQ (mQ (lQ v bv A) 2 B.tk.toList) 22 B.au.toList=lQ v bv B:=by kernel_rfl
def w2S (w':World) (t v:Nat) (bv:Value) (key:Nat→Nat):Prop:=w'.cell? ⟨t,0,none⟩=some (.pointer (some ⟨v,0,none⟩))∧w'.cell? ⟨t,1,none⟩=some bv∧∀j y,(aH .u8 16 key)[j]? =some y→w'.cell? ((⟨v,0,none⟩:Addr).add j)=some y
theorem uS {w:World} {b:Nat} {cs:Array Value} {t:TypeId} (h:Hb w b cs t) (o k:Nat) (hk:Nat.ble (o+k) cs.size=true):w.there b o k:=fun j hj=>by
 have hj':o+j<cs.size:=by have:=Nat.le_of_ble_eq_true hk;omega
 rw[h.cell (Array.getElem?_eq_getElem hj')];exact⟨rfl,h.frozen _⟩
theorem OwnS.one {w:World} {base:Nat} {v:Value} {ss:List ByteArray} (h:OwnS w base v ss):v.oneCell'=true:=by
 rcases h.cases with ⟨rfl,_⟩|⟨g,cap,rfl,_⟩<;>rfl
theorem aBZ {w:World} {v d:Nat} {key:Nat→Nat} {q:Vf.Q} {V:Vf.V} (h:Hb w v (jX key d q V) 112):∀j y,(aH .u8 16 key)[j]? =some y→w.cell? ((⟨v,0,none⟩:Addr).add j)=some y:=fun j y hj=>by
 rw[Addr.add_mid,Nat.zero_add];have hj':j<16:=by have:=(Array.getElem?_eq_some_iff.1 hj).1;rwa [aA] at this
 rw[cJ _ _ _ _ hj'] at hj;exact h.cell ((aG3 key d q V hj').trans hj)
def aIG (t v:Nat) (bv:Value) (o:Tic.T×Aut.A×Int) (w:World) (e:Ending) (w':World):Prop:=
 e= .returned (.int .i64 o.2.2)∧∃(A:TA) (ss tt:List ByteArray),Hb w' t (lQ v bv A) 123∧OwnS w' w.heap.size A.u ss∧OwnS w' w.heap.size A.v tt∧A.q.size≤maxLen∧A.r.size≤maxLen∧A.m<4294967296∧A.z<4294967296∧tic A.q ss A.s A.x A.k=o.1∧aut A.r tt A.t A.m A.z=o.2.1∧w.grownBy w' (some t)
theorem aCT (t v d:Nat) (key:Nat→Nat) (q0:Vf.Q) (V:Vf.V) (bv:Value) (l:List Nat) (A0:TA) (w:World) (hb:Hb w t (lQ v bv A0) 123) (hv:Hb w v (jX key d q0 V) 112) (hk:Aes.B8 key) (hl:Rs w bv l) (hll:l.length≤1000000) (hK:Consts w Sha.tab):
 Calls Tryz.prog 45 #[.pointer (some ⟨t,0,none⟩)] w (aIG t v bv (Req.opn key l) w):=by
 have gd:=aM (aE w none) 1;have hop:=nQ key bv l (w.drewN 1) hk (hl.below (aB gd)) hll (hK.below (aB gd));have hne:t≠v:=fun e=>by
  have h1:w.heap[t]? =_:=hb;have h2:w.heap[v]? =_:=hv;rw[e,h2] at h1;exact absurd (Obj.cells.inj (Option.some.inj h1)).2.1 (by decide)
 have hz:=sZ v bv A0;obtain⟨R,hR⟩:∃R,R=Req.opn key l:=⟨_,rfl⟩;rw[←hR] at hop ⊢;clear hR hK hl;have HB:Hid (Hb (w.drewN 1) t (lQ v bv A0) 123):=aD hb;have HS:Hid (∀(W':World) (cs:Array Value),Hb W' t cs 123→cs[0]? =some (.pointer (some ⟨v,0,none⟩))→cs[1]? =some bv→(w.drewN 1).grownBy W' (some t)→w2S W' t v bv key):=aD fun W' cs hb' h0 h1 g=>
  ⟨hb'.cell h0,hb'.cell h1,aBZ (Hb.keep (show Hb (w.drewN 1) v (jX key d q0 V) 112 from hv) g (fun e=>hne (Option.some.inj e).symm))⟩
 have H0:=aD (HS.out _ _ HB.out (by kernel_rfl) (by kernel_rfl) (aE _ _));have HG:Hid (w.grownBy (w.drewN 1) (some t)):=aD (aM (aE w (some t)) 1);have HZ:Hid (w.heap.size≤(w.drewN 1).heap.size):=aD (Nat.le_refl _);have HTL:=aD hb.lt;clear hb hv hz gd;go_enter Tryz.func45,Tryz.ntmps45;go_upto_region 2 with fail;refine bO Tryz.f45 2 25 (fun w'=>w2S w' t v bv key) (by kernel_rfl) (by kernel_rfl) (by kernel_rfl) H0.out (fun K hK h0=>?_);refine aW (listed':=#[false,false,false,false,false,false,false,false,false,false,false,false,false,false,false,false,false,false,false,false,false,false,false,false,false]) (by kernel_rfl) rfl ?_;have HF:=aD hK;clear hK;generalize w.drewN 1=W at*;refine aX 0 5 (Value.pointer (some ⟨t,0,none⟩)) (fun _ _=>by kernel_rfl) h0 ?_;simp only[Act.put,aJ,aK,aI];refine aX 1 6 (Value.pointer (some ⟨t,0,none⟩)) (fun _ _=>by kernel_rfl) h0 ?_;simp only[Act.put,aJ,aK,aI];refine aX 2 7 (Value.pointer (some ⟨t,0,none⟩)) (fun _ _=>by kernel_rfl) h0 ?_;simp only[Act.put,aJ,aK,aI];refine aX 3 8 (Value.pointer (some ⟨t,0,none⟩)) (fun _ _=>by kernel_rfl) h0 ?_;simp only[Act.put,aJ,aK,aI];refine aX 4 9 (Value.pointer (some ⟨t,0,none⟩)) (fun _ _=>by kernel_rfl) h0 ?_;simp only[Act.put,aJ,aK,aI];refine bD 5 10 (by kernel_rfl) 49 (.tmp 9) (by kernel_rfl) ⟨t,0,none⟩ (by kernel_rfl) (Value.pointer (some ⟨v,0,none⟩)) _ (fun w' hw'=>hw'.1) Tryz.underlying49 rfl h0 ?_;simp only[Act.put,aJ,aK,aI];refine aX 6 11 (Value.pointer (some ⟨v,0,none⟩)) (fun _ _=>by kernel_rfl) h0 ?_;simp only[Act.put,aJ,aK,aI];refine aX 7 12 (Value.pointer (some ⟨v,0,none⟩)) (fun _ _=>by kernel_rfl) h0 ?_;simp only[Act.put,aJ,aK,aI];refine bG 8 13 (by kernel_rfl) 22 (.tmp 12) (by kernel_rfl) ⟨v,0,none⟩ (by kernel_rfl) (aH .u8 16 key) _ (fun w' hw'=>hw'.2.2) Tryz.underlying22 rfl (by kernel_rfl) h0 ?_;simp only[Act.put,aJ,aK,aI];refine aX 9 14 (Value.pointer (some ⟨t,0,none⟩)) (fun _ _=>by kernel_rfl) h0 ?_;simp only[Act.put,aJ,aK,aI];refine aX 10 15 (Value.pointer (some ⟨t,0,none⟩)) (fun _ _=>by kernel_rfl) h0 ?_;simp only[Act.put,aJ,aK,aI];refine aX 11 16 (Value.pointer (some ⟨t,1,none⟩)) (fun _ _=>by kernel_rfl) h0 ?_;simp only[Act.put,aJ,aK,aI];refine bD 12 17 (by kernel_rfl) 39 (.tmp 16) (by kernel_rfl) ⟨t,1,none⟩ (by kernel_rfl) (bv) _ (fun w' hw'=>hw'.2.1) Tryz.underlying39 rfl h0 ?_;simp only[Act.put,aJ,aK,aI];refine bE 13 18 77 #[.agg (aH .u8 16 key),bv] (by kernel_rfl) (by kernel_rfl) ?_;refine(hop).mono ?_;rintro e w1 ⟨hb1,q,u,ss,s,x,kt,r,vv,tt,tm,m,z,rfl,ou,ov,hq,hk8,hr,hm,hz,ht,ha⟩;have gWw1:W.grownBy w1 (some t):=aC hb1 _;have hBw1:Hb w1 t (lQ v bv A0) 123:=Hb.only HB.out (aC hb1 none);replace h0:w2S w1 t v bv key:=HS.out _ _ hBw1 (by kernel_rfl) (by kernel_rfl) gWw1;refine⟨_,rfl,h0,?_⟩;simp only[Act.put,aJ,aK,aI];refine aX 14 4 (Value.tuple #[.agg (tk q u s x kt),.agg (au r vv tm m z),.int .i64 R.2.2]) (fun _ _=>by kernel_rfl) h0 ?_;simp only[Act.put,aJ,aK,aI];refine aX 15 19 (.agg (tk q u s x kt)) (fun _ _=>by kernel_rfl) h0 ?_;simp only[Act.put,aJ,aK,aI];refine aX 16 20 (.agg (au r vv tm m z)) (fun _ _=>by kernel_rfl) h0 ?_;simp only[Act.put,aJ,aK,aI];refine aX 17 21 (.int .i64 R.2.2) (fun _ _=>by kernel_rfl) h0 ?_;simp only[Act.put,aJ,aK,aI];refine aX 18 22 (Value.pointer (some ⟨t,0,none⟩)) (fun _ _=>by kernel_rfl) h0 ?_;simp only[Act.put,aJ,aK,aI];refine aX 19 23 (Value.pointer (some ⟨t,2,none⟩)) (fun _ _=>by kernel_rfl) h0 ?_;simp only[Act.put,aJ,aK,aI];have hd20:(opn (iJ Tryz.f45 2) 20).dst=none:=by kernel_rfl
 have hBw2:=fU (tk q u s x kt).toList hBw1 (o:=2);have gw2:=dZ (tk q u s x kt).toList w1 t 2;have hw2:w2S (w1.setCells t 2 (tk q u s x kt).toList) t v bv key:=HS.out _ _ hBw2 (by kernel_rfl) (by kernel_rfl) (aF gWw1 gw2);refine aR 20 (by kernel_rfl) (by kernel_rfl) (HStep.of_law #[] (by kernel_rfl) fun K' hK'=>?_);refine wpList_store_mid rfl 65 (.tmp 23) (.tmp 19) (by kernel_rfl) t 2 (tk q u s x kt) (by kernel_rfl) (by kernel_rfl) (uS hBw1 2 (tk q u s x kt).size (by kernel_rfl)) (by kernel_rfl) (cR _ _ _ _ _ (OwnS.one ou)) ?_;rw[hd20];refine bH (hK' _ _ hw2 ?_);have gWw2:=aF gWw1 gw2;generalize w1.setCells t 2 (tk q u s x kt).toList=w2 at*;simp only[Act.put,aJ,aK,aI];refine aX 21 24 (Value.pointer (some ⟨t,0,none⟩)) (fun _ _=>by kernel_rfl) hw2 ?_;simp only[Act.put,aJ,aK,aI];refine aX 22 25 (Value.pointer (some ⟨t,22,none⟩)) (fun _ _=>by kernel_rfl) hw2 ?_;simp only[Act.put,aJ,aK,aI];have hd23:(opn (iJ Tryz.f45 2) 23).dst=none:=by kernel_rfl
 have hBw3:=fU (au r vv tm m z).toList hBw2 (o:=22);have gw3:=dZ (au r vv tm m z).toList w2 t 22;have hw3:w2S (w2.setCells t 22 (au r vv tm m z).toList) t v bv key:=HS.out _ _ hBw3 (by kernel_rfl) (by kernel_rfl) (aF gWw2 gw3);refine aR 23 (by kernel_rfl) (by kernel_rfl) (HStep.of_law #[] (by kernel_rfl) fun K' hK'=>?_);refine wpList_store_mid rfl 67 (.tmp 25) (.tmp 20) (by kernel_rfl) t 22 (au r vv tm m z) (by kernel_rfl) (by kernel_rfl) (uS hBw2 22 (au r vv tm m z).size (by kernel_rfl)) (by kernel_rfl) (cY _ _ _ _ _ (OwnS.one ov)) ?_;rw[hd23];refine bH (hK' _ _ hw3 ?_);have gWw3:=aF gWw2 gw3;generalize w2.setCells t 22 (au r vv tm m z).toList=w3 at*;simp only[Act.put,aJ,aK,aI];refine aX 24 3 (.int .i64 R.2.2) (fun _ _=>by kernel_rfl) hw3 ?_;simp only[Act.put,aJ,aK,aI];refine aZ (by kernel_rfl) (HF.out _ _ ?_);have H3:=aD (aQ hBw3 (aQ ou (aQ ov (aQ gw2 (aQ gw3 gWw3)))));have HFA:=aD (aQ hq (aQ hr (aQ hm (aQ hz (aQ ht ha)))));clear hBw3 ou ov gw2 gw3 gWw3 hq hr hm hz ht ha gWw1 gWw2 hBw1 hBw2 hb1;go_wp2_with fail;go_ret;obtain⟨hB,ou,ov,g2,g3,gW⟩:=H3.out;obtain⟨hq,hr,hm,hz,ht,ha⟩:=HFA.out;have hB':Hb w3 t (lQ v bv ⟨q,u,s,x,kt,r,vv,tm,m,z⟩) 123:=by
  rw[←aHR v bv A0 ⟨q,u,s,x,kt,r,vv,tm,m,z⟩];exact hB
 have g23:=aF g2 g3;have hap:∀(uu:Value) (xs:List ByteArray),OwnS w1 W.heap.size uu xs→OwnS w3 w.heap.size uu xs:=fun uu xs ho=>
  (ho.only g23 (.inr fun e=>by have:=(ho.lt t e).1;have:=HTL.out;have:=HZ.out;omega)).mono HZ.out
 exact⟨rfl,⟨q,u,s,x,kt,r,vv,tm,m,z⟩,ss,tt,hB',hap _ _ ou,hap _ _ ov,hq,hr,hm,hz,ht,ha,aF HG.out gW⟩
set_option linter.all false
theorem Vf.look_now (D:Dsk.D) (V:Vf.V):(Vf.look D V).now=V.now:=by unfold Vf.look;split<;>rfl
theorem sP (v d:Nat) (key:Nat→Nat) (b:Dsk.B) (q:Vf.Q) (N:Nat) (D:Dsk.D) (V:Vf.V) (n:Int) (w:World) (h:Vx w v d key b q N D V) (h0:0≤V.now) (h1:V.now≤1099511627776):
 Calls Tryz.prog 26 #[.pointer (some ⟨v,0,none⟩),.int .i64 n] w (lO (.int .i64 (Vf.clock V n)) v d key b (bQ D q) N D (Vf.tick D V n) w):=by
 have hl:=eM v d key b q N D V w h;clear h;unfold eK at hl;unfold lO Vf.tick;have hn:=Vf.look_now D V;have hcl:Vf.clock V n=Vf.clock (Vf.look D V) n:=by unfold Vf.clock;rw[hn]
 rw[hcl];rw[←hn] at h0 h1;clear hcl hn;generalize bQ D q=q1 at*;generalize Vf.look D V=V1 at*;obtain⟨now,hnow⟩:∃now,now=V1.now:=⟨_,rfl⟩;rw[←hnow] at h0 h1;have hw1:IntKind.i64.wrap (1099511627776 - now)=1099511627776 - now:=by simp only[IntKind.wrap_i64];omega
 have HN:=aD hnow;have hcase:(decide (1099511627776 - now<n)=true∧Vf.clock V1 n=1099511627776)∨(decide (1099511627776 - now<n)=false∧decide (0<n)=true∧Vf.clock V1 n=now+n∧IntKind.i64.wrap (now+n)=now+n)∨(decide (1099511627776 - now<n)=false∧decide (0<n)=false∧Vf.clock V1 n=now):=by
  unfold Vf.clock;rw[←hnow]
  by_cases c1:1099511627776 - now<n
  ·exact .inl ⟨decide_eq_true c1,if_pos c1⟩
  ·by_cases c2:0<n
   ·exact .inr (.inl ⟨decide_eq_false c1,decide_eq_true c2,by rw[if_neg c1,if_pos c2],by simp only[IntKind.wrap_i64];omega⟩)
   ·exact .inr (.inr ⟨decide_eq_false c1,decide_eq_false c2,by rw[if_neg c1,if_neg c2]⟩)
 clear hnow h0 h1;rcases hcase with ⟨d1,hc⟩|⟨d1,d2,hc,hw2⟩|⟨d1,d2,hc⟩
 all_goals
  rw[hc];clear hc;go_enter Tryz.func26,Tryz.ntmps26;go_upto_region 4 with (go_at_call 43;refine hl.mono ?_;clear hl;rintro e w1 ⟨rfl,vx1,g1⟩);have c18:=vx1.cells.1.2.2.1;rw[←HN.out] at c18;have f18:=vx1.cells.2 18;have H:=aD (aQ vx1 g1);clear vx1 g1;go_wp2_with fail;go_ret;obtain⟨vx1,g1⟩:=H.out
 ·have g:=bA (aE w1 (some v)) 18 (.int .i64 1099511627776)
  have hb:=vx1.blk.set 18 (.int .i64 1099511627776);rw[qO] at hb;exact⟨rfl,vx1.own g rfl hb,aF g1 g⟩
 ·have g:=bA (aE w1 (some v)) 18 (.int .i64 (now+n))
  have hb:=vx1.blk.set 18 (.int .i64 (now+n));rw[qO] at hb;exact⟨rfl,vx1.own g rfl hb,aF g1 g⟩
 ·rw[HN.out]
  exact⟨rfl,vx1,g1⟩
def aIS (X:List bC) (v d:Nat) (key:Nat→Nat) (b:Dsk.B) (q:Vf.Q) (N:Nat) (D:Dsk.D) (V:Vf.V) (w:World) (e:Ending) (w':World):Prop:=
 ∃u,e= .returned u∧RowOf w' w.heap.size 73 33 u (X.map fJ)∧Vx w' v d key b q N D V∧w.grownBy w' (some v)
theorem aCZ (v d:Nat) (key:Nat→Nat) (b:Dsk.B) (q:Vf.Q) (N:Nat) (D:Dsk.D) (V:Vf.V) (w:World) (h:Vx w v d key b q N D V) (hN:N<1000000):
 Calls Tryz.prog 14 #[.pointer (some ⟨v,0,none⟩)] w (aIS (Vf.live D V) v d key b (bQ D q) N D (Vf.look D V) w):=by
 have hl:=kA v d key b q N D V w h;clear h;unfold aIS Vf.live;rw[←Vf.look_now D V];unfold lO at hl;generalize bQ D q=q1 at*;generalize Vf.look D V=V1 at*;obtain⟨X,hX⟩:∃X,X=Vf.liveO V1.now V1.cache:=⟨_,rfl⟩;rw[←hX];have HX:=aD hX;clear hX
 cases q1 with
 |none=>
  go_enter Tryz.func14,Tryz.ntmps14;go_wp2_with (go_at_call 15;refine hl.mono ?_;clear hl;rintro e w1 ⟨rfl,vx1,g1⟩;simp only[Option.isSome_none]);go_ret;rcases vx1.cache with ⟨_,hc⟩|⟨_,_,_,hq,_⟩
  ·rw[HX.out,hc];exact⟨_,rfl,RowOf.nil _ _ _ _,vx1,g1⟩
  ·cases hq
 |some x=>
  go_enter Tryz.func14,Tryz.ntmps14;go_upto_region 3 with (go_at_call 15;refine hl.mono ?_;clear hl;rintro e w1 ⟨rfl,vx1,g1⟩;simp only[Option.isSome_some]);have c19:w1.cell? ⟨v,19,none⟩=some (.pointer (some ⟨x.1,0,none⟩)):=vx1.cells.1.2.2.2;have c18:=vx1.cells.1.2.2.1;obtain⟨c,p,C,hq,hV,cx,hx,hpn⟩:=vx1.cache.resolve_left (fun h=>by cases h.1)
  cases hq
  have gd:=aM (aE w1 none) 1;have hli:=aA0 c d b p C V1.now (w1.drewN 1) (cx.only gd) (by omega);have H:=aD (aQ (vx1.only gd) (aQ (aF g1 (aM (aE w1 (some v)) 1)) (aQ hV g1.size)));clear vx1 g1 hV cx hx hpn gd;obtain⟨now,hnow⟩:∃now,now=V1.now:=⟨_,rfl⟩;rw[←hnow] at c18 hli;have HNW:=aD hnow;clear hnow;go_still_tail 8,(by kernel_rfl)
  repeat (first|still_step)
  try refine wpStill_nil ?_
  change wpList _ _ _ _ _ (w1.drewN 1);clear c18 c19;generalize w1.drewN 1=W1 at*;unfold sM at hli;go_wp2_with (go_at_call 42;refine hli.mono ?_;clear hli;rintro e2 w2 ⟨u,rfl,r2,g2⟩);go_ret;obtain⟨vx1,g1,hV,hz⟩:=H.out;refine⟨u,rfl,?_,vx1.only g2,aF g1 (aC (aB g2) _)⟩;rw[HX.out,hV,show Vf.liveO V1.now (some C)=Idx.live C.idx V1.now from rfl,←HNW.out];exact r2.mono g1.size
theorem aDM (key:Nat→Nat) (d:Nat) (skew:Int):Tryz.prog.built 112 [(0,.agg (aH .u8 16 key)),(1,.int .i64 skew),(2,.pointer (some ⟨d,0,none⟩))]=some (jX key d none ⟨skew,0,none⟩):=by kernel_rfl
theorem aHL (o:Oper) (a:Act) (w:World) (i j k:Operand) (key:Nat→Nat) (d:Nat) (skew:Int) (ho:o.op= .build 112 #[(0,i),(1,j),(2,k)]) (hi:a.eval i= .agg (aH .u8 16 key)) (hj:a.eval j= .int .i64 skew) (hk:a.eval k= .pointer (some ⟨d,0,none⟩)):
 (execOp a.eval o).run Tryz.prog w= .ok (.value (.agg (jX key d none ⟨skew,0,none⟩))) w:=by
 unfold execOp;simp only[ho];rw[show(#[(0,i),(1,j),(2,k)]:Array (Nat×Operand)).map (fun(i,x)=>(i,a.eval x))=#[(0,.agg (aH .u8 16 key)),(1,.int .i64 skew),(2,.pointer (some ⟨d,0,none⟩))] by simp[hi,hj,hk]];rw[Sem.run_bind,run_build w 112 _ _ (aDM key d skew)];rfl
theorem aD8 (key:Nat→Nat) (d:Nat) (q:Vf.Q) (V:Vf.V):(jX key d q V).size=20:=by unfold jX;rw[Array.size_append,aA];rfl
theorem uX (key:Nat→Nat) (d:Nat) (b:Dsk.B) (D:Dsk.D) (skew:Int) (w:World) (h:Dk w d b D) (h1:1≤skew) (h2:skew≤1073741824):
 Calls Tryz.prog 31 #[.agg (aH .u8 16 key),.int .i64 skew,.pointer (some ⟨d,0,none⟩)] w fun e w'=>∃v,e= .returned (.pointer (some ⟨v,0,none⟩))∧w.heap.size≤v∧Vx w' v d key b none 0 D ⟨skew,0,none⟩∧w.grownBy w' none:=by
 have hb:=Hb.new w (aH .u8 16 key) 22;have gr:=aG (aE w none) (.cells (aH .u8 16 key) 22);have hs:=aA .u8 16 key;have d1:decide (skew<1)=false:=by simp;omega
 have d2:decide (1073741824<skew)=false:=by simp;omega
 have HD:=aD h;clear h h1 h2;go_enter Tryz.func31,Tryz.ntmps31;go_upto_region 3 with fail;generalize w.alloc (.cells (aH .u8 16 key) 22)=W at*;obtain⟨bk,hbk⟩:∃bk,bk=w.heap.size:=⟨_,rfl⟩;rw[←hbk] at hb;simp only[←hbk];have HS:=aD (aQ hbk gr);clear hbk gr;have hsz:=aD8 key d none ⟨skew,0,none⟩
 go_wp2_with (first
  |refine aS (by kernel_rfl) _ _ rfl bk rfl _ _ (0,0) _ hb rfl rfl (by rw[aA];kernel_rfl) ?_
  |refine cZ rfl _ (aHL _ _ _ _ _ _ key d skew rfl rfl rfl rfl) ?_)
 go_ret;have g:=aG (aE W none) (.cells (jX key d none ⟨skew,0,none⟩) 112);have hv:=Hb.new W (jX key d none ⟨skew,0,none⟩) 112;have gg:=aF HS.out.2 g;exact⟨_,rfl,HS.out.2.size,⟨HD.out.below (aB gg),hv,.inl ⟨rfl,rfl⟩⟩,gg⟩
set_option linter.all false
theorem aEY {w:World} {t v:Nat} {bv:Value} {A:TA} (h:Hb w t (lQ v bv A) 123):∀j y,A.tk[j]? =some y→w.cell? ((⟨t,2,none⟩:Addr).add j)=some y:=fun j y hj=>by
 rw[Addr.add_mid];have hj':j<20:=by have:=(Array.getElem?_eq_some_iff.1 hj).1;rwa [A.tk_size] at this
 exact h.cell ((aJE v bv A j hj').trans hj)
theorem nR {w:World} {t v:Nat} {bv:Value} {A:TA} (h:Hb w t (lQ v bv A) 123):∀j y,A.au[j]? =some y→w.cell? ((⟨t,22,none⟩:Addr).add j)=some y:=fun j y hj=>by
 rw[Addr.add_mid];exact h.cell ((aJK v bv A j).trans hj)
theorem yM (t v d:Nat) (key:Nat→Nat) (q0:Vf.Q) (V:Vf.V) (bv:Value) (A:TA) (ss tt:List ByteArray) (w:World) (hb:Hb w t (lQ v bv A) 123) (hv:Hb w v (jX key d q0 V) 112) (hu:Ss w A.u ss) (hw:Ss w A.v tt) (ns:bS A.s) (nx:bS A.x) (nt:bS A.t) (nn:bS V.now) (nk:bS V.skew):
 Calls Tryz.prog 46 #[.pointer (some ⟨t,0,none⟩)] w fun e w'=>e= .returned (.int .i64 (Pol.check (decide (A.q=A.r∧ss=tt)) A.s A.x A.t V.now V.skew))∧w.grownBy w' none:=by
 have gd:=aM (aE w none) 1;have hpc:=sL A.q A.u ss A.s A.x A.k A.r A.v tt A.t A.m A.z V.now V.skew (w.drewN 1) (hu.only gd) (hw.only gd) ns nx nt nn nk;have c0:=hb.cell (tF v bv A);have c18:=hv.cell (hH key d q0 V);have c16:=hv.cell (gG key d q0 V);have HTK:=aD (aEY hb);have HAU:=aD (nR hb);have HS1:=A.tk_size;have HS2:=A.au_size;change Calls Tryz.prog 78 #[.agg A.tk,.agg A.au,_,_] _ _ at hpc;generalize A.tk=T at*;generalize A.au=U at*;generalize Pol.check (decide (A.q=A.r∧ss=tt)) A.s A.x A.t V.now V.skew=R at*;generalize V.now=now at*;generalize V.skew=sk at*;have GD:=aD gd;clear hb hv hu hw ns nx nt nn nk gd;go_enter Tryz.func46,Tryz.ntmps46;go_upto_region 1 with fail;go_still_tail 22,(by kernel_rfl)
 repeat (first|(refine aY rfl _ _ rfl ⟨t,2,none⟩ rfl _ _ HTK.out rfl rfl (by rw[HS1];kernel_rfl) ?_)|(refine aY rfl _ _ rfl ⟨t,22,none⟩ rfl _ _ HAU.out rfl rfl (by rw[HS2];kernel_rfl) ?_)|still_step)
 try refine wpStill_nil ?_
 change wpList _ _ _ _ _ (w.drewN 1);clear c0 c18 c16;generalize w.drewN 1=W at*;go_wp2_with (go_at_call 78;refine hpc.mono ?_;clear hpc;rintro e w1 ⟨rfl,g1⟩);go_ret;exact⟨rfl,aF GD.out g1⟩
theorem aHM {w:World} {v d c:Nat} {key:Nat→Nat} {b:Dsk.B} {p:Ca.B} {N:Nat} {D:Dsk.D} {V:Vf.V} (h:Vx w v d key b (some (c,p)) N D V):∃C,V.cache=some C∧Cx w c d b p C:=by
 rcases h.cache with ⟨hq,_⟩|⟨c',p',C,hq,hV,cx,_⟩
 ·cases hq
 ·cases hq;exact⟨C,hV,cx⟩
def Vf.waitO (now:Int):Option Ca.C→Nat
 |none=>7
 |some C=>if now≤C.till then 7 else 0
def Vf.waitc (D:Dsk.D) (V:Vf.V):Nat:=Vf.waitO V.now (Vf.look D V).cache
theorem aAY (t v d:Nat) (key:Nat→Nat) (b:Dsk.B) (q:Vf.Q) (N:Nat) (D:Dsk.D) (V:Vf.V) (bv:Value) (A:TA) (w:World) (hb:Hb w t (lQ v bv A) 123) (h:Vx w v d key b q N D V):
 Calls Tryz.prog 47 #[.pointer (some ⟨t,0,none⟩)] w (lO (.int .i64 (Vf.waitc D V:Nat)) v d key b (bQ D q) N D (Vf.look D V) w):=by
 have gd:=aM (aE w none) 1;have hbt:=kA v d key b q N D V (w.drewN 1) (h.only gd);have hne:t≠v:=fun e=>by
  have h1:w.heap[t]? =_:=hb;have h2:w.heap[v]? =_:=h.blk;rw[e,h2] at h1;exact absurd (Obj.cells.inj (Option.some.inj h1)).2.1 (by decide)
 have c0:=hb.cell (tF v bv A);have hct:∀W',(w.drewN 1).grownBy W' (some v)→W'.cell? ⟨t,0,none⟩=some (.pointer (some ⟨v,0,none⟩)):=fun W' g=>(Hb.keep (show Hb (w.drewN 1) t (lQ v bv A) 123 from hb) g (fun e=>hne (Option.some.inj e))).cell (tF v bv A)
 have HCT:=aD hct;have HG:=aD (show w.grownBy (w.drewN 1) (some v) from aM (aE w (some v)) 1);have c18:=h.blk.cell (hH key d q V);have c19:=h.blk.cell (jE key d q V);unfold Vf.waitc;unfold lO at hbt ⊢;have hno:=Vf.look_now D V;obtain⟨now,hnow⟩:∃now,now=V.now:=⟨_,rfl⟩;rw[←hnow] at c18 hno ⊢;obtain⟨V1,hV1⟩:∃V1,V1=Vf.look D V:=⟨_,rfl⟩;rw[←hV1] at hbt hno ⊢;obtain⟨wc,hwc⟩:∃wc,wc=Vf.waitO now V1.cache:=⟨_,rfl⟩;rw[←hwc];have HW:=aD (aQ hwc hno);have hqq:bQ D q=none∨∃c p,bQ D q=some (c,p)∧q=some (c,p):=by
  unfold bQ;split
  ·exact .inl rfl
  ·cases q with
   |none=>exact .inl rfl
   |some x=>exact .inr ⟨x.1,x.2,rfl,rfl⟩
 obtain⟨q1,hq1⟩:∃q1,q1=bQ D q:=⟨_,rfl⟩;rw[←hq1] at hbt hqq ⊢;clear hb h hct hnow hV1 hwc hno hq1 gd hne;rcases hqq with rfl|⟨c,p,rfl,rfl⟩
 ·clear c19 c18
  go_enter Tryz.func47,Tryz.ntmps47;go_upto_region 1 with fail;refine bO Tryz.f47 1 24 (fun w'=>w'.cell? ⟨t,0,none⟩=some (.pointer (some ⟨v,0,none⟩))) (by kernel_rfl) (by kernel_rfl) (by kernel_rfl) c0 (fun K hK h0=>?_);refine aW (listed':=#[false,false,false,false,false,false,false,false,false,false,false,false,false,false,false,false,false,false,false,false,false,false,false,false]) (by kernel_rfl) rfl ?_;have HF:=aD hK;clear hK;generalize w.drewN 1=W at*;refine aX 0 3 (Value.pointer (some ⟨t,0,none⟩)) (fun _ _=>by kernel_rfl) h0 ?_;simp only[Act.put,aJ,aK,aI];refine aX 1 4 (Value.pointer (some ⟨t,0,none⟩)) (fun _ _=>by kernel_rfl) h0 ?_;simp only[Act.put,aJ,aK,aI];refine aX 2 5 (Value.pointer (some ⟨t,0,none⟩)) (fun _ _=>by kernel_rfl) h0 ?_;simp only[Act.put,aJ,aK,aI];refine bD 3 6 (by kernel_rfl) 49 (.tmp 5) (by kernel_rfl) ⟨t,0,none⟩ (by kernel_rfl) (Value.pointer (some ⟨v,0,none⟩)) _ (fun w' hw'=>hw') Tryz.underlying49 rfl h0 ?_;simp only[Act.put,aJ,aK,aI];refine bE 4 7 15 #[Value.pointer (some ⟨v,0,none⟩)] (by kernel_rfl) (by kernel_rfl) ?_;refine(hbt).mono ?_;rintro e w1 ⟨rfl,vx1,g1⟩;replace h0:=HCT.out _ g1;refine⟨_,rfl,h0,?_⟩;simp only[Act.put,aJ,aK,aI];refine aX 5 8 (Value.bool true) (fun _ _=>by kernel_rfl) h0 ?_;simp only[Act.put,aJ,aK,aI];refine aX 6 9 (Value.bool true) (fun _ _=>by kernel_rfl) h0 ?_;simp only[Act.put,aJ,aK,aI];refine cX 7 10 (by kernel_rfl) h0 ?_;simp only[Act.put,aJ,aK,aI];refine cX 8 11 (by kernel_rfl) h0 ?_;simp only[Act.put,aJ,aK,aI];refine cX 9 12 (by kernel_rfl) h0 ?_;simp only[Act.put,aJ,aK,aI];refine cX 10 13 (by kernel_rfl) h0 ?_;simp only[Act.put,aJ,aK,aI];refine cX 11 14 (by kernel_rfl) h0 ?_;simp only[Act.put,aJ,aK,aI];refine cX 12 15 (by kernel_rfl) h0 ?_;simp only[Act.put,aJ,aK,aI];refine cX 13 16 (by kernel_rfl) h0 ?_;simp only[Act.put,aJ,aK,aI];refine cX 14 17 (by kernel_rfl) h0 ?_;simp only[Act.put,aJ,aK,aI];refine cX 15 18 (by kernel_rfl) h0 ?_;simp only[Act.put,aJ,aK,aI];refine cX 16 19 (by kernel_rfl) h0 ?_;simp only[Act.put,aJ,aK,aI];refine cX 17 20 (by kernel_rfl) h0 ?_;simp only[Act.put,aJ,aK,aI];refine cX 18 21 (by kernel_rfl) h0 ?_;simp only[Act.put,aJ,aK,aI];refine cX 19 22 (by kernel_rfl) h0 ?_;simp only[Act.put,aJ,aK,aI];refine cX 20 23 (by kernel_rfl) h0 ?_;simp only[Act.put,aJ,aK,aI];refine cX 21 24 (by kernel_rfl) h0 ?_;simp only[Act.put,aJ,aK,aI];refine cX 22 25 (by kernel_rfl) h0 ?_;simp only[Act.put,aJ,aK,aI];refine aX 23 26 (Value.bool true) (fun _ _=>by kernel_rfl) h0 ?_;simp only[Act.put,aJ,aK,aI];refine aZ (by kernel_rfl) (HF.out _ _ ?_);have hw0:wc=7:=by
   rcases vx1.cache with ⟨_,hc⟩|⟨_,_,_,hq,_⟩
   ·rw[HW.out.1,hc];rfl
   ·cases hq
  subst hw0;have H1:=aD (aQ vx1 (aF HG.out g1));clear vx1 g1 h0;go_wp2_with fail;go_ret;exact⟨rfl,H1.out⟩
 ·have hS2:∀W',(w.drewN 1).grownBy W' (some v)→Vx W' v d key b (some (c,p)) N D V1→W'.cell? ⟨t,0,none⟩=some (.pointer (some ⟨v,0,none⟩))∧W'.cell? ⟨v,18,none⟩=some (.int .i64 now)∧W'.cell? ⟨v,19,none⟩=some (.pointer (some ⟨c,0,none⟩)):=fun W' g vx=>
   ⟨HCT.out _ g,by rw[←HW.out.2];exact vx.cells.1.2.2.1,vx.cells.1.2.2.2⟩
  have HS2:=aD hS2;clear hS2;go_enter Tryz.func47,Tryz.ntmps47;go_upto_region 1 with fail;refine bO Tryz.f47 1 24 (fun w'=>w'.cell? ⟨t,0,none⟩=some (.pointer (some ⟨v,0,none⟩))∧w'.cell? ⟨v,18,none⟩=some (.int .i64 now)∧w'.cell? ⟨v,19,none⟩=some (.pointer (some ⟨c,0,none⟩))) (by kernel_rfl) (by kernel_rfl) (by kernel_rfl) ⟨c0,c18,c19⟩ (fun K hK h0=>?_);refine aW (listed':=#[false,false,false,false,false,false,false,false,false,false,false,false,false,false,false,false,false,false,false,false,false,false,false,false]) (by kernel_rfl) rfl ?_;have HF:=aD hK;clear hK;generalize w.drewN 1=W at*;refine aX 0 3 (Value.pointer (some ⟨t,0,none⟩)) (fun _ _=>by kernel_rfl) h0 ?_;simp only[Act.put,aJ,aK,aI];refine aX 1 4 (Value.pointer (some ⟨t,0,none⟩)) (fun _ _=>by kernel_rfl) h0 ?_;simp only[Act.put,aJ,aK,aI];refine aX 2 5 (Value.pointer (some ⟨t,0,none⟩)) (fun _ _=>by kernel_rfl) h0 ?_;simp only[Act.put,aJ,aK,aI];refine bD 3 6 (by kernel_rfl) 49 (.tmp 5) (by kernel_rfl) ⟨t,0,none⟩ (by kernel_rfl) (Value.pointer (some ⟨v,0,none⟩)) _ (fun w' hw'=>hw'.1) Tryz.underlying49 rfl h0 ?_;simp only[Act.put,aJ,aK,aI];refine bE 4 7 15 #[Value.pointer (some ⟨v,0,none⟩)] (by kernel_rfl) (by kernel_rfl) ?_;refine(hbt).mono ?_;rintro e w1 ⟨rfl,vx1,g1⟩;obtain⟨C,hV,cx1⟩:=aHM vx1;replace h0:=HS2.out _ g1 vx1;refine⟨_,rfl,h0,?_⟩;simp only[Act.put,aJ,aK,aI];refine aX 5 8 (Value.bool false) (fun _ _=>by kernel_rfl) h0 ?_;simp only[Act.put,aJ,aK,aI];refine aX 6 9 (Value.bool false) (fun _ _=>by kernel_rfl) h0 ?_;simp only[Act.put,aJ,aK,aI];refine aX 7 10 (Value.pointer (some ⟨t,0,none⟩)) (fun _ _=>by kernel_rfl) h0 ?_;simp only[Act.put,aJ,aK,aI];refine aX 8 11 (Value.pointer (some ⟨t,0,none⟩)) (fun _ _=>by kernel_rfl) h0 ?_;simp only[Act.put,aJ,aK,aI];refine aX 9 12 (Value.pointer (some ⟨t,0,none⟩)) (fun _ _=>by kernel_rfl) h0 ?_;simp only[Act.put,aJ,aK,aI];refine bD 10 13 (by kernel_rfl) 49 (.tmp 12) (by kernel_rfl) ⟨t,0,none⟩ (by kernel_rfl) (Value.pointer (some ⟨v,0,none⟩)) _ (fun w' hw'=>hw'.1) Tryz.underlying49 rfl h0 ?_;simp only[Act.put,aJ,aK,aI];refine aX 11 14 (Value.pointer (some ⟨v,0,none⟩)) (fun _ _=>by kernel_rfl) h0 ?_;simp only[Act.put,aJ,aK,aI];refine aX 12 15 (Value.pointer (some ⟨v,18,none⟩)) (fun _ _=>by kernel_rfl) h0 ?_;simp only[Act.put,aJ,aK,aI];refine bD 13 16 (by kernel_rfl) 2 (.tmp 15) (by kernel_rfl) ⟨v,18,none⟩ (by kernel_rfl) (Value.int .i64 now) _ (fun w' hw'=>hw'.2.1) Tryz.underlying2 rfl h0 ?_;simp only[Act.put,aJ,aK,aI];refine aX 14 17 (Value.pointer (some ⟨t,0,none⟩)) (fun _ _=>by kernel_rfl) h0 ?_;simp only[Act.put,aJ,aK,aI];refine aX 15 18 (Value.pointer (some ⟨t,0,none⟩)) (fun _ _=>by kernel_rfl) h0 ?_;simp only[Act.put,aJ,aK,aI];refine aX 16 19 (Value.pointer (some ⟨t,0,none⟩)) (fun _ _=>by kernel_rfl) h0 ?_;simp only[Act.put,aJ,aK,aI];refine bD 17 20 (by kernel_rfl) 49 (.tmp 19) (by kernel_rfl) ⟨t,0,none⟩ (by kernel_rfl) (Value.pointer (some ⟨v,0,none⟩)) _ (fun w' hw'=>hw'.1) Tryz.underlying49 rfl h0 ?_;simp only[Act.put,aJ,aK,aI];refine aX 18 21 (Value.pointer (some ⟨v,0,none⟩)) (fun _ _=>by kernel_rfl) h0 ?_;simp only[Act.put,aJ,aK,aI];refine aX 19 22 (Value.pointer (some ⟨v,19,none⟩)) (fun _ _=>by kernel_rfl) h0 ?_;simp only[Act.put,aJ,aK,aI];refine bD 20 23 (by kernel_rfl) 110 (.tmp 22) (by kernel_rfl) ⟨v,19,none⟩ (by kernel_rfl) (Value.pointer (some ⟨c,0,none⟩)) _ (fun w' hw'=>hw'.2.2) Tryz.underlying110 rfl h0 ?_;simp only[Act.put,aJ,aK,aI];refine bE 21 24 59 #[Value.pointer (some ⟨c,0,none⟩)] (by kernel_rfl) (by kernel_rfl) ?_;refine(qP c d b p C w1 cx1).mono ?_;rintro e w2 ⟨rfl,rfl⟩;refine⟨_,rfl,h0,?_⟩;simp only[Act.put,aJ,aK,aI];refine aX 22 25 (Value.bool (decide (now≤C.till))) (fun _ _=>by kernel_rfl) h0 ?_;simp only[Act.put,aJ,aK,aI];refine aX 23 26 (Value.bool (decide (now≤C.till))) (fun _ _=>by kernel_rfl) h0 ?_;simp only[Act.put,aJ,aK,aI];refine aZ (by kernel_rfl) (HF.out _ _ ?_);have hw0:wc=if now≤C.till then 7 else 0:=by rw[HW.out.1,hV];rfl
  have H1:=aD (aQ vx1 (aF HG.out g1));clear vx1 g1 h0 hV cx1
  by_cases hle:now≤C.till
  ·rw[if_pos hle] at hw0
   subst hw0;have hd:decide (now≤C.till)=true:=decide_eq_true hle;rw[hd];clear hle hd;go_wp2_with fail;go_ret;exact⟨rfl,H1.out⟩
  ·rw[if_neg hle] at hw0
   subst hw0;have hd:decide (now≤C.till)=false:=decide_eq_false hle;rw[hd];clear hle hd;go_wp2_with fail;go_ret;exact⟨rfl,H1.out⟩
set_option linter.all false
def Vf.dig (a:Aut.A):List Nat:=(List.range 32).map (Aut.digI a)
theorem Aut.digI_lt (a:Aut.A) (i:Nat):Aut.digI a i<256:=by
 unfold Aut.digI;split
 ·exact Sha.dig_lt _ _
 ·show 0<256;decide
theorem Vf.dig_len (a:Aut.A):(Vf.dig a).length=32:=by simp[Vf.dig]
theorem Vf.dig_all (a:Aut.A):AllB (Vf.dig a):=fun x hx=>by
 obtain⟨i,_,rfl⟩:=List.mem_map.1 hx;exact Aut.digI_lt a i
theorem aGY (a:Aut.A):aH .u8 32 (Aut.digI a)=aH .u8 32 (aT (Vf.dig a)):=dS _ _ _ _ fun i hi=>by
 unfold aT Vf.dig;simp[List.getD,hi]
def Vf.ins (D:Dsk.D) (C:Ca.C) (a:Aut.A) (skew now:Int):Dsk.D×Ca.C×Nat:=if Aut.valid a=true then Ca.insert D C ⟨Vf.dig a,a.time+skew⟩ now else (D,C,1)
def p7 (k:Nat) (val:Value) (v d:Nat) (key:Nat→Nat) (b:Dsk.B) (q:Vf.Q) (N:Nat) (D:Dsk.D) (V:Vf.V) (w:World) (e:Ending) (w':World):Prop:=
 e= .returned val∧∃b' q',Vx w' v d key b' q' (N+k) D V∧Stp (VF v d b q) (VF v d b' q') w w'
theorem bK {a b c:World} (h:Below a.heap.size a b) (g:b.grownBy c none):Below a.heap.size a c:=h.trans ((aB g).mono h.size)
theorem Stp.vf {v d c:Nat} {b b':Dsk.B} {p p':Ca.B} {w w':World} (st:Stp (fun i=>b.F d i∨p.F c i) (fun i=>b'.F d i∨p'.F c i) w w'):Stp (VF v d b (some (c,p))) (VF v d b' (some (c,p'))) w w':=
 ⟨st.os,st.tape,st.output,st.size,fun i hi hF=>st.keep i hi fun h=>hF (.inr (h.imp id fun h=>⟨_,rfl,h⟩)),fun i hi=>by
   rcases hi with rfl|hi|⟨x,hx,hi⟩
   ·exact .inl (.inl rfl)
   ·exact(st.sub i (.inl hi)).imp (fun h=>.inr (h.imp id fun h=>⟨_,rfl,h⟩)) id
   ·cases hx
    exact(st.sub i (.inr hi)).imp (fun h=>.inr (h.imp id fun h=>⟨_,rfl,h⟩)) id⟩
theorem tL (t v d c:Nat) (key:Nat→Nat) (b:Dsk.B) (p:Ca.B) (N:Nat) (D:Dsk.D) (V:Vf.V) (C:Ca.C) (bv:Value) (A:TA) (tt:List ByteArray) (w:World) (hb:Hb w t (lQ v bv A) 123) (h:Vx w v d key b (some (c,p)) N D V) (hV:V.cache=some C)
 (hw:Ss w A.v tt) (ha:A.v.oneCell'=true) (hr:A.r.size≤maxLen) (hm:A.m<4294967296) (hz:A.z<4294967296) (nt:bS A.t) (nk:bS V.skew) (hK:Consts w Sha.tab) (hN:N<800000) (hDn:D.n<700000) (hcp:Lg.room C.log≤C.log.count→jH D C V.now)
 (hfit:Lg.fit (Vf.ins D C (aut A.r tt A.t A.m A.z) V.skew V.now).1 (Vf.ins D C (aut A.r tt A.t A.m A.z) V.skew V.now).2.1.log):
 Calls Tryz.prog 48 #[.pointer (some ⟨t,0,none⟩)] w (p7 1 (.int .i64 ((Vf.ins D C (aut A.r tt A.t A.m A.z) V.skew V.now).2.2:Nat)) v d key b (some (c,p)) N (Vf.ins D C (aut A.r tt A.t A.m A.z) V.skew V.now).1 { V with cache:=some (Vf.ins D C (aut A.r tt A.t A.m A.z) V.skew V.now).2.1} w):=by
 have hdg:=kX A.r A.v tt A.t A.m A.z w hr hm hz hw hK;have hau:=A.au_size;have HAU:=aD (nR hb);obtain⟨a,haq⟩:∃a,a=aut A.r tt A.t A.m A.z:=⟨_,rfl⟩;rw[←haq] at hdg hfit ⊢;rw[aGY a] at hdg;change Calls Tryz.prog 79 #[.agg A.au] _ _ at hdg;have hat:a.time=A.t:=by rw[haq];rfl
 have HX:=aD h;have HB:=aD hb;have HH:=aD (aQ hV (aQ nt (aQ nk (aQ hN (aQ hDn (aQ hcp (aQ hfit ha)))))));have HAT:=aD hat;obtain⟨R,hR⟩:∃R,R=Vf.ins D C a V.skew V.now:=⟨_,rfl⟩;rw[←hR];have HR:=aD hR;obtain⟨dg,hdgq⟩:∃dg,dg=Vf.dig a:=⟨_,rfl⟩;rw[←hdgq] at hdg;have HDG:=aD hdgq;obtain⟨vd,hvd⟩:∃vd,vd=Aut.valid a:=⟨_,rfl⟩;rw[←hvd] at hdg;have HVD:=aD hvd;have hs32:=aA .u8 32 (aT dg);clear hb h hV hw hr hm hz nt nk hK hN hDn hcp hfit haq hat hR hdgq hvd ha
 cases vd with
 |false=>
  go_enter Tryz.func48,Tryz.ntmps48
  go_upto_region 2 with (first
   |refine cF rfl _ _ rfl ⟨t,22,none⟩ rfl _ _ HAU.out rfl rfl (by rw[hau];kernel_rfl) ?_
   |(go_at_call 79;refine hdg.mono ?_;clear hdg;rintro e w1 ⟨rfl,hb1⟩)
   |(refine wpList_store_rowTo rfl _ _ _ rfl rfl w1.heap.size _ rfl rfl _ _ (heap_alloc_new _ _) (bU _) (by rw[aA];rfl) (aL _ _ _) ?_;generalize hVq:World.setRow _ w1.heap.size _=W2))
  obtain⟨hA,hgV⟩:=cK w1 _ (aH .u8 32 (aT dg)) 36;rw[hVq] at hA hgV;have H2:=aD (bK hb1 hgV);clear hA hgV hVq hb1;go_wp2_with fail;go_ret;have hRR:R=(D,C,1):=by rw[HR.out];unfold Vf.ins;rw[←HVD.out,if_neg (by simp)]
  rw[hRR];have hVV:({ V with cache:=some C}:Vf.V)=V:=by rw[←HH.out.1]
  refine⟨rfl,b,some (c,p),?_,Stp.of_below H2.out _⟩;dsimp only;rw[hVV];exact(HX.out.below H2.out).mono (Nat.le_succ _)
 |true=>
  go_enter Tryz.func48,Tryz.ntmps48
  go_upto_region 4 with (first
   |refine cF rfl _ _ rfl ⟨t,22,none⟩ rfl _ _ HAU.out rfl rfl (by rw[hau];kernel_rfl) ?_
   |(go_at_call 79;refine hdg.mono ?_;clear hdg;rintro e w1 ⟨rfl,hb1⟩)
   |(refine wpList_store_rowTo rfl _ _ _ rfl rfl w1.heap.size _ rfl rfl _ _ (heap_alloc_new _ _) (bU _) (by rw[aA];rfl) (aL _ _ _) ?_;generalize hVq:World.setRow _ w1.heap.size _=W2))
  obtain⟨hA,hgV⟩:=cK w1 _ (aH .u8 32 (aT dg)) 36;rw[hVq] at hA hgV;obtain⟨bd,hbd⟩:∃bd,bd=w1.heap.size:=⟨_,rfl⟩;rw[←hbd] at hA;simp only[←hbd];have H2:=aD (bK hb1 hgV);clear hgV hVq hb1 hbd;have hB2:Hb W2 t (lQ v bv A) 123:=(H2.out.block t HB.out.lt).trans HB.out;have hX2:=HX.out.below H2.out;have c0:=hB2.cell (tF v bv A);have c16:=hX2.blk.cell (gG key d (some (c,p)) V);have hau2:=nR hB2;have hexp:=fun W'=>yP A.r A.v A.t A.m A.z V.skew W' HH.out.2.2.2.2.2.2.2 HH.out.2.1 HH.out.2.2.1
  change ∀W',Calls Tryz.prog 80 #[.agg A.au,_] W' _ at hexp;have HA:=aD hA;have HAU2:=aD hau2;have HE:=aD hexp;have HX2:=aD (aQ hB2 hX2);clear hA hau2 hexp hB2 hX2;obtain⟨sk,hsk⟩:∃sk,sk=V.skew:=⟨_,rfl⟩;rw[←hsk] at c16 HE;have HSK:=aD hsk;clear hsk;obtain⟨ex,hex⟩:∃ex:bC,ex=⟨dg,A.t+sk⟩:=⟨_,rfl⟩;refine bO Tryz.f48 4 16 (fun w'=>Below W2.heap.size W2 w') (by kernel_rfl) (by kernel_rfl) (by kernel_rfl) (aU (Below.refl _ _) 1) (fun K hK h0=>?_);refine aW (listed':=#[false,false,false,false,false,false,false,false,false,false,false,false,false,false,false,false]) (by kernel_rfl) rfl ?_;have HF:=aD hK;clear hK;refine bG 0 16 (by kernel_rfl) 36 (.tmp 3) (by kernel_rfl) ⟨bd,0,none⟩ (by kernel_rfl) (aH .u8 32 (aT dg)) _ (fun w' hw'=>pV hw' HA.out) Tryz.underlying36 rfl (by kernel_rfl) h0 ?_;simp only[Act.put,aJ,aK,aI];refine aX 1 17 (Value.pointer (some ⟨t,0,none⟩)) (fun _ _=>by kernel_rfl) h0 ?_;simp only[Act.put,aJ,aK,aI];refine aX 2 18 (Value.pointer (some ⟨t,0,none⟩)) (fun _ _=>by kernel_rfl) h0 ?_;simp only[Act.put,aJ,aK,aI];refine aX 3 19 (Value.pointer (some ⟨t,22,none⟩)) (fun _ _=>by kernel_rfl) h0 ?_;simp only[Act.put,aJ,aK,aI];refine bG 4 20 (by kernel_rfl) 67 (.tmp 19) (by kernel_rfl) ⟨t,22,none⟩ (by kernel_rfl) (A.au) _ (fun w' hw'=>fun j y hj=>((aC hw' none).cell (HAU2.out j y hj) (by simp))) Tryz.underlying67 rfl (by kernel_rfl) h0 ?_;simp only[Act.put,aJ,aK,aI];refine aX 5 21 (Value.pointer (some ⟨t,0,none⟩)) (fun _ _=>by kernel_rfl) h0 ?_;simp only[Act.put,aJ,aK,aI];refine aX 6 22 (Value.pointer (some ⟨t,0,none⟩)) (fun _ _=>by kernel_rfl) h0 ?_;simp only[Act.put,aJ,aK,aI];refine aX 7 23 (Value.pointer (some ⟨t,0,none⟩)) (fun _ _=>by kernel_rfl) h0 ?_;simp only[Act.put,aJ,aK,aI];refine bD 8 24 (by kernel_rfl) 49 (.tmp 23) (by kernel_rfl) ⟨t,0,none⟩ (by kernel_rfl) (Value.pointer (some ⟨v,0,none⟩)) _ (fun w' hw'=>(aC hw' none).cell c0 (by simp)) Tryz.underlying49 rfl h0 ?_;simp only[Act.put,aJ,aK,aI];refine aX 9 25 (Value.pointer (some ⟨v,0,none⟩)) (fun _ _=>by kernel_rfl) h0 ?_;simp only[Act.put,aJ,aK,aI];refine aX 10 26 (Value.pointer (some ⟨v,16,none⟩)) (fun _ _=>by kernel_rfl) h0 ?_;simp only[Act.put,aJ,aK,aI];refine bD 11 27 (by kernel_rfl) 2 (.tmp 26) (by kernel_rfl) ⟨v,16,none⟩ (by kernel_rfl) (Value.int .i64 sk) _ (fun w' hw'=>(aC hw' none).cell c16 (by simp)) Tryz.underlying2 rfl h0 ?_;simp only[Act.put,aJ,aK,aI];refine fA (α:=Nat) 1 #[true,true,true,true,true,true,true,true,true,true,true,true,true,true,true,false] (fun a x=>(Act.put (Act.put (Act.put a (some 28) (Value.int .i64 (A.t+sk))) (some 29) (Value.agg (ev ex))) (some 5) (Value.pointer (some ⟨x,0,none⟩)))) (fun x w'=>Below W2.heap.size W2 w'∧W2.heap.size≤x∧Hb w' x (ev eJ) 73) (fun g14 w2 hc=>?_) (fun CUT=>?_);rotate_left
  ·simp only[Act.put,aJ,aK,aI] at CUT
   refine cU 12 14 (by kernel_rfl) (by kernel_rfl) (eF 28 80 #[Value.agg A.au,Value.int .i64 sk] (by kernel_rfl) (by kernel_rfl) _ (HE.out _) (fun e wk hr=>?_)) (dP 5 (fun g=>.pointer (some ⟨g,0,none⟩)) (ev eJ) 73 (by kernel_rfl) h0 (Nat.le_refl _) (by kernel_rfl) ?_)
   ·obtain⟨rfl,gk⟩:=hr
    have h0:=bK h0 gk;refine⟨_,rfl,h0,?_⟩;simp only[Act.put,aJ,aK,aI];refine aX 13 29 (Value.agg (ev ex)) (fun w' _=>by rw[hex];exact oT _ _ w' (.tmp 16) (.tmp 28) ⟨dg,A.t+sk⟩ (by kernel_rfl) (by kernel_rfl) (by kernel_rfl)) h0 ?_;simp only[Act.put,aJ,aK,aI];refine aR 14 (by kernel_rfl) (by kernel_rfl) (dP 5 (fun g=>.pointer (some ⟨g,0,none⟩)) (ev eJ) 73 (by kernel_rfl) h0 (Nat.le_refl _) (by kernel_rfl) ?_);intro wk g14 hBg14 _ _ _ gk h0 qg14;simp only[Act.put,aJ,aK,aI];exact aW (by kernel_rfl) rfl (CUT (g14) _ ⟨h0,hBg14,qg14⟩)
   ·intro wk g14 hBg14 _ _ _ gk h0 qg14
    simp only[Act.put,aJ,aK,aI];refine aR 12 (by kernel_rfl) (by kernel_rfl) (eF 28 80 #[Value.agg A.au,Value.int .i64 sk] (by kernel_rfl) (by kernel_rfl) _ (HE.out _) (fun e wk hr=>?_));obtain⟨rfl,gk⟩:=hr;have h0:=bK h0 gk;have hBg14:=hBg14;have qg14:=Hb.only qg14 gk;refine⟨_,rfl,h0,?_⟩;simp only[Act.put,aJ,aK,aI];refine aX 13 29 (Value.agg (ev ex)) (fun w' _=>by rw[hex];exact oT _ _ w' (.tmp 16) (.tmp 28) ⟨dg,A.t+sk⟩ (by kernel_rfl) (by kernel_rfl) (by kernel_rfl)) h0 ?_;simp only[Act.put,aJ,aK,aI];exact aW (by kernel_rfl) rfl (CUT (g14) _ ⟨h0,hBg14,qg14⟩)
  obtain⟨h0,hBg14,qg14⟩:=hc;simp only[Act.put,aJ,aK,aI];have pg14:=qg14;refine aR 15 (by kernel_rfl) (by kernel_rfl) (pZ 73 (.tmp 5) (.tmp 29) g14 (ev ex) _ _ (by kernel_rfl) (by kernel_rfl) (by kernel_rfl) (by kernel_rfl) qg14 (cI ex) (by simp only[bP]) (gP ex) hBg14 h0 (fun h0 qg14=>?_));simp only[aJ,aK,aI];refine aZ (by kernel_rfl) (HF.out _ _ ?_);go_upto_region 5 with fail;have hq4:Hb (w2.setRow g14 (ev ex)) g14 (ev ex) 73:=qg14;have hb4:Hb (w2.setRow g14 (ev ex)) t (lQ v bv A) 123:=(h0.block t HX2.out.1.lt).trans HX2.out.1;have hx4:=HX2.out.2.below h0;have H4:=aD (aQ hx4 (H2.out.trans (h0.mono H2.out.size)));have HEV:=aD (rY hq4);clear h0 qg14 pg14 hBg14 c0 c16 hq4;generalize w2.setRow g14 (ev ex)=W4 at*;have hEX:=aD hex;clear hex;have c0:=hb4.cell (tF v bv A);have c18:=hx4.blk.cell (hH key d (some (c,p)) V);have c19:W4.cell? ⟨v,19,none⟩=some (.pointer (some ⟨c,0,none⟩)):=hx4.cells.1.2.2.2;have gd:=aM (aE W4 none) 1;obtain⟨c',p',C',hq',hV',cx4,hf4,hpn4⟩:=hx4.cache.resolve_left (fun h=>by cases h.1);obtain⟨rfl,rfl⟩:c=c'∧p=p':=by cases hq';exact⟨rfl,rfl⟩
  obtain rfl:C=C':=by have:=HH.out.1.symm.trans hV';exact Option.some.inj this
  have hoe:Frm.okE ex:=by rw[hEX.out,HDG.out];exact⟨Vf.dig_len a,Vf.dig_all a⟩
  have hins:=wP c d b p D C ex V.now (W4.drewN 1) (hx4.dk.below (aB gd)) (cx4.only gd) hf4 hoe (by have:=HH.out.2.2.2.1;omega) HH.out.2.2.2.2.1 HH.out.2.2.2.2.2.1;have hRR:R=Ca.insert D C ex V.now:=by
   rw[HR.out];unfold Vf.ins;rw[←HVD.out,if_pos rfl,hEX.out,HDG.out,HAT.out,HSK.out]
  rw[←hRR] at hins;have H5:=aD (aQ (hx4.only gd) hpn4);have G5:=aD gd;have hfR:Lg.fit R.1 R.2.1.log:=by rw[HR.out];exact HH.out.2.2.2.2.2.2.1
  have HFR:=aD hfR;obtain⟨nw,hnw⟩:∃nw,nw=V.now:=⟨_,rfl⟩;rw[←hnw] at c18 hins;clear hx4 hb4 cx4 hf4 hpn4 hq' hV' hoe hRR gd hfR hnw;go_still_tail 15,(by kernel_rfl)
  repeat (first|(refine aY rfl _ _ rfl ⟨g14,0,none⟩ rfl _ _ HEV.out rfl rfl (cI _) ?_)|still_step)
  try refine wpStill_nil ?_
  change wpList _ _ _ _ _ (W4.drewN 1);clear c0 c18 c19;generalize W4.drewN 1=W5 at*;unfold vM at hins;go_wp2_with (go_at_call 81;refine hins.mono ?_;clear hins;rintro e6 w6 ⟨rfl,b6,p6,dk6,cx6,hn6,st6⟩);go_ret;obtain⟨hx5,hpn5⟩:=H5.out;have hav:¬(b.F d v∨p.F c v):=by
   obtain⟨c',p',C',hq',hV',cx5,_⟩:=hx5.cache.resolve_left (fun h=>by cases h.1)
   cases hq'
   exact fun hh=>hh.elim (hx5.dk.alien hx5.blk (by decide) (by decide) (by decide) (by decide)).1 (cx5.alien hx5.blk (by decide) (by decide) (by decide))
  have hb6:Hb w6 v (jX key d (some (c,p6)) { V with cache:=some R.2.1}) 112:=Stp.hb st6 hx5.blk hav;refine⟨rfl,b6,some (c,p6),⟨dk6,hb6,.inr ⟨c,p6,R.2.1,rfl,rfl,cx6,HFR.out,by omega⟩⟩,?_⟩;exact(Stp.of_below (H4.out.2.trans ((aB G5.out).mono H4.out.2.size)) _).trans (Stp.vf st6)
end Go.Proofs.YtcoolgnlhheaiaaGreatDoor
namespace Go.Proofs.YtcoolgnlhheaiaaGreatDoor
open Go.RowKit Go.Deep
set_option linter.all false
theorem Tic.parse_near {b:List Nat} {t:Tic.T} (h:Tic.parse b=some t):bS t.start∧bS t.stop:=by
 unfold Tic.parse at h;split at h
 ·cases h
 ·split at h
  ·cases h
  ·dsimp only at h
   split at h
   ·cases h
   ·rename_i hc
    cases h
    unfold bS;dsimp only;omega
theorem Aut.parse_near {b:List Nat} {t:Aut.A} (h:Aut.parse b=some t):bS t.time:=by
 unfold Aut.parse at h;split at h
 ·cases h
 ·split at h
  ·cases h
  ·dsimp only at h
   split at h
   ·cases h
   ·rename_i hc
    cases h
    unfold bS;dsimp only;omega
theorem Tic.opn_near {key:Nat→Nat} {s:List Nat} (h:(Tic.opn key s).2=0):bS (Tic.opn key s).1.start∧bS (Tic.opn key s).1.stop:=by
 unfold Tic.opn at h ⊢;split at h
 ·cases h
 ·split at h
  ·cases h
  ·rename_i b hb t ht
   exact Tic.parse_near ht
theorem Aut.opn_near {key:Nat→Nat} {s:List Nat} (h:(Aut.opn key s).2=0):bS (Aut.opn key s).1.time:=by
 unfold Aut.opn at h ⊢;split at h
 ·cases h
 ·split at h
  ·cases h
  ·rename_i b hb t ht
   exact Aut.parse_near ht
theorem Req.opn_near {key:Nat→Nat} {l:List Nat} (h:(Req.opn key l).2.2=0):bS (Req.opn key l).1.start∧bS (Req.opn key l).1.stop∧bS (Req.opn key l).2.1.time:=by
 unfold Req.opn at h ⊢;split at h
 ·cases h
 ·rename_i p hp
  split at h
  ·rename_i h1;exact absurd h h1
  ·rename_i h1
   rw[if_neg h1];split at h
   ·rename_i h2;exact absurd h h2
   ·rename_i h2
    rw[if_neg h2];have a1:=Tic.opn_near (key:=key) (s:=p.1) (Decidable.not_not.1 h1);exact⟨a1.1,a1.2,Aut.opn_near (Decidable.not_not.1 h2)⟩
namespace Vf
def sameC (o:Tic.T×Aut.A×Int):Bool:=decide (o.1.client.realm=o.2.1.client.realm∧o.1.client.parts=o.2.1.client.parts)
def pol (o:Tic.T×Aut.A×Int) (V:Vf.V):Nat:=Pol.check (sameC o) o.1.start o.1.stop o.2.1.time V.now V.skew
def last (D:Dsk.D) (V:Vf.V) (a:Aut.A):Option Ca.C→Dsk.D×Vf.V×Int
 |none=>(D,V,0)
 |some C=>((ins D C a V.skew V.now).1,look (ins D C a V.skew V.now).1 { V with cache:=some (ins D C a V.skew V.now).2.1},((ins D C a V.skew V.now).2.2:Nat))
def verify (o:Tic.T×Aut.A×Int) (D:Dsk.D) (V:Vf.V):Dsk.D×Vf.V×Int:=
 if o.2.2≠0 then (D,look D V,o.2.2) else if pol o V≠0 then (D,look D V,(pol o V:Nat)) else if waitc D V≠0 then (D,look D V,(waitc D V:Nat)) else last D (look D V) o.2.1 (look D V).cache
theorem look_look (D:Dsk.D) (V:Vf.V):look D (look D V)=look D V:=by
 unfold look;split
 ·rfl
 ·rfl
end Vf
theorem tM (D:Dsk.D) (q:Vf.Q):bQ D (bQ D q)=bQ D q:=by
 unfold bQ;split<;>rfl
theorem aF4 (v:Nat) (ba:Option Addr) (bn bc:Nat):Tryz.prog.built 123 [(0,.pointer (some ⟨v,0,none⟩)),(1,.slice ba bn bc)]=some (lQ v (.slice ba bn bc) TA.zero):=by kernel_rfl
theorem aHZ (o:Oper) (a:Act) (w:World) (i j:Operand) (v:Nat) (ba:Option Addr) (bn bc:Nat) (ho:o.op= .build 123 #[(0,i),(1,j)]) (hi:a.eval i= .pointer (some ⟨v,0,none⟩)) (hj:a.eval j= .slice ba bn bc):
 (execOp a.eval o).run Tryz.prog w= .ok (.value (.agg (lQ v (.slice ba bn bc) TA.zero))) w:=by
 unfold execOp;simp only[ho];rw[show(#[(0,i),(1,j)]:Array (Nat×Operand)).map (fun(i,x)=>(i,a.eval x))=#[(0,.pointer (some ⟨v,0,none⟩)),(1,.slice ba bn bc)] by simp[hi,hj]];rw[Sem.run_bind,run_build w 123 _ _ (aF4 v ba bn bc)];rfl
end Go.Proofs.YtcoolgnlhheaiaaGreatDoor
