import Derived.Test.YtcoolgnlhheaiaaGreatDoorG39
import Derived.Test.YtcoolgnlhheaiaaGreatDoorG40
import Derived.Test.YtcoolgnlhheaiaaGreatDoorG41
import Derived.Test.YtcoolgnlhheaiaaGreatDoorG42
namespace Go.Proofs.YtcoolgnlhheaiaaGreatDoor
open Go.RowKit Go.Deep Go.Maps Go.ChangeMaps Go.MapKept Go.WideShapes
set_option linter.all false
set_option maxRecDepth 100000
set_option maxHeartbeats 2000000
theorem Slt.ents_len (g:Nat):∀r:List (List Nat),(Slt.ents g r).length≤r.length
 |[]=>Nat.le_refl _
 |s::r=>by
  rw[Slt.ents_cons];split
  ·split
   ·simpa using Slt.ents_len g r
   ·simp
  ·simp
theorem Slt.ents_ok (g:Nat):∀{r:List (List Nat)},(∀s∈r,Frm.okS s)→∀e∈Slt.ents g r,Frm.okE e∧Frm.right e=true
 |[],_,e,he=>by cases he
 |s::r,h,e,he=>by
  rw[Slt.ents_cons] at he;split at he
  ·rename_i k e' hp
   split at he
   ·rcases List.mem_cons.1 he with rfl|he
    ·exact Frm.parseE_ok (h s (by simp)).2 hp
    ·exact Slt.ents_ok g (fun s hs=>h s (by simp[hs])) e he
   ·cases he
  ·cases he
theorem Slt.scan_ok {l:List (List Nat)} (h:∀s∈l,Frm.okS s) {g:Nat} {es:List bC} (hs:Slt.scan l=some (g,es)):(∀e∈es,Frm.okE e∧Frm.right e=true)∧es.length≤l.length∧g<4294967296:=by
 cases l with
 |nil=>cases hs
 |cons s r=>
  rw[Slt.scan_cons] at hs
  cases hp:Frm.parseH s with
  |none=>rw[hp] at hs;cases hs
  |some k=>
   rw[hp] at hs;simp only[Option.map_some,Option.some.injEq,Prod.mk.injEq] at hs;obtain⟨rfl,rfl⟩:=hs;refine⟨Slt.ents_ok k (fun s hs=>h s (by simp[hs])),Nat.le_trans (Slt.ents_len k r) (Nat.le_succ _),?_⟩;rw[Frm.parseH_tag hp];exact Frm.tag_lt (h s (by simp))
theorem Slt.secs_ok {D:Dsk.D} (h:Dsk.ok D) {f m:Nat} (hf:f+m≤D.sec.length):∀s∈Slt.secs D f m,Frm.okS s:=fun s hs=>by
 unfold Slt.secs at hs;obtain⟨i,hi,rfl⟩:=List.mem_map.1 hs;exact Dsk.read_ok h (by have:=List.mem_range.1 hi;omega)
theorem Lg.find_ok {D:Dsk.D} (h:Dsk.ok D) {s g:Nat} {es:List bC} (hf:Lg.find D=some (s,g,es)):(s=0∨s=1)∧(∀e∈es,Frm.okE e∧Frm.right e=true)∧es.length≤D.sec.length / 2∧g<4294967296:=by
 have key:∀k,k=0∨k=1→∀g es,Lg.scanS D k=some (g,es)→(∀e∈es,Frm.okE e∧Frm.right e=true)∧es.length≤D.sec.length / 2∧g<4294967296:=fun k hk g es hs=>by
  have:=Slt.scan_ok (Slt.secs_ok h (f:=k*(D.sec.length / 2)) (m:=D.sec.length / 2) (by rcases hk with rfl|rfl<;>omega)) hs
  rwa [Slt.secs_len] at this
 unfold Lg.find at hf;split at hf
 ·cases hf
 ·rename_i x h0 h1
  cases hf
  exact⟨.inl rfl,key 0 (.inl rfl) _ _ h0⟩
 ·rename_i y h0 h1
  cases hf
  exact⟨.inr rfl,key 1 (.inr rfl) _ _ h1⟩
 ·rename_i x y h0 h1
  split at hf
  ·cases hf
   exact⟨.inl rfl,key 0 (.inl rfl) _ _ h0⟩
  ·cases hf
   exact⟨.inr rfl,key 1 (.inr rfl) _ _ h1⟩
structure Lg.fit (D:Dsk.D) (L:Lg.L):Prop where
 side:L.side=0∨L.side=1
 half:L.half=D.sec.length / 2
 gen:L.gen<4294967296
theorem Lg.last_lt {D:Dsk.D} (h:Dsk.ok D):Lg.last D<4294967296:=Lg.tagN_lt h _ (Nat.le_refl _)
theorem Lg.opn_fit {D:Dsk.D} (h0:Dsk.ok D) {x:Lg.L×List bC} (h:(Lg.opn D).2= .inr x):Lg.fit (Lg.opn D).1 x.1∧(∀e∈x.2,Frm.okE e∧Frm.right e=true)∧x.2.length≤D.sec.length / 2∧x.1.broken=false:=by
 have hs:=Dsk.sync_ok h0;unfold Lg.opn at h ⊢;split at h
 ·cases h
 ·rename_i h2
  rw[if_neg h2];split at h
  ·rename_i h3
   rw[if_pos h3];unfold Lg.open1 at h ⊢;split at h
   ·rename_i s g es hf
    cases h
    obtain⟨h4,h5,h6,h7⟩:=Lg.find_ok hs hf;rw[(Dsk.sync_len D).1] at h6;exact⟨⟨h4,rfl,h7⟩,h5,h6,rfl⟩
   ·split at h
    ·cases h
    ·rename_i h8
     rw[if_neg h8];split at h
     ·rename_i h9
      cases h
      rw[if_pos h9];refine⟨⟨.inl rfl,?_,?_⟩,(fun e he=>by cases he),Nat.zero_le _,rfl⟩
      ·show _=(Slt.commit _ _ _).1.sec.length / 2
       rw[(Slt.commit_len _ _ _).1]
      ·have:=Lg.last_lt hs
       show Lg.last _+1<_;omega
     ·cases h
  ·cases h
theorem Lg.opn_code {D:Dsk.D} {k:Nat} (h:(Lg.opn D).2= .inl k):k≠0:=by
 unfold Lg.opn at h;split at h
 ·cases h;decide
 ·split at h
  ·unfold Lg.open1 at h
   split at h
   ·cases h
   ·split at h
    ·cases h;decide
    ·split at h
     ·cases h
     ·rename_i h9;cases h;exact h9
  ·rename_i h9;cases h;exact h9
def xO (d:Nat) (b:Dsk.B) (r:Dsk.D×(Nat ⊕ Ca.C)) (w:World) (e:Ending) (w':World):Prop:=
 ∃b',Dk w' d b' r.1∧Stp (b.F d) (b'.F d) w w'∧match r.2 with
  | .inl k=>e= .returned (.tuple #[.pointer none,iF k])
  | .inr C=>∃c p,e= .returned (.tuple #[.pointer (some ⟨c,0,none⟩),.nilIface])∧Cx w' c d b' p C∧(∀i,p.F c i→w.heap.size≤i)∧p.n≤4096
theorem aBV (d:Nat) (b:Dsk.B) (D:Dsk.D) (skew now:Int) (w:World) (h:Dk w d b D) (h2:2≤D.sec.length) (hN:D.n<900000) (hs:bS skew) (hn:bS now):
 Calls Tryz.prog 51 #[.pointer (some ⟨d,0,none⟩),.int .i64 skew,.int .i64 now] w (xO d b (Ca.opn D skew now) w):=by
 have h1:=zJ d b D w h h2 hN;have HF:=aD (fun x (hx:(Lg.opn D).2= .inr x)=>Lg.opn_fit h.ok hx);have HC:=aD (fun k (hk:(Lg.opn D).2= .inl k)=>Lg.opn_code hk);have HRM:=aD h.ok.room;clear h;unfold xO Ca.opn;obtain⟨D1,r,hr⟩:∃D1 r,Lg.opn D=(D1,r):=⟨_,_,rfl⟩;rw[hr] at h1 HF HC ⊢;unfold j5 at h1;clear hr;go_enter Tryz.func51,Tryz.ntmps51
 cases r with
 |inl k=>
  have hk:=eV k (HC.out _ rfl);go_wp2_with (go_at_call 85;refine h1.mono ?_;clear h1;rintro e w1 ⟨b1,dk1,st1,rfl⟩;rw[hk]);go_ret2;exact⟨b1,dk1,st1,rfl⟩
 |inr x=>
  obtain⟨L,es⟩:=x;obtain⟨hfit,hok,hlen,hbr⟩:=HF.out _ rfl;have hle4:es.length≤4096:=by have:=HRM.out;simp only at hlen;omega
  have hlen':es.length<100000:=by have:=HRM.out;simp only at hlen;omega
  have hokE:∀e∈es,Frm.okE e:=fun e he=>(hok e he).1
  go_upto_region 4 with (go_at_call 85;refine h1.mono ?_;clear h1;rintro e w1 ⟨b1,dk1,st1,l,v,rfl,hl,lk1,rw1⟩);have hnew:=aCL v es _ w1 rw1 hokE hlen';have H1:=aD (aQ dk1 (aQ st1 (aQ hl lk1)));have hza:w.heap.size≤w1.heap.size:=st1.size;obtain⟨vp,vn,vc,hvn,rfl⟩:=rw1.form3;clear dk1 st1 hl lk1 rw1 hvn HF HC hfit hok hlen hbr hlen'
  go_upto_region 5 with (first
   |(go_at_call 86;refine hnew.mono ?_;clear hnew;rintro e w3 ⟨x,m,rfl,ix3,hx3,hm3,g3⟩)
   |(go_at_call 87;refine(pA w3.heap.size now skew _ (Hb.new w3 #[.int .i64 skew] 2) hn hs).mono ?_;rintro e w4 ⟨rfl,g4⟩))
  have g34:=aF (aG (aE w3 none) (.cells #[.int .i64 skew] 2)) g4;have g6:=aG (aE w4 none) (.cells #[.pointer (some ⟨l,0,none⟩),.pointer (some ⟨x,0,none⟩),.int .i64 (now+skew)] 160);have hb:=Hb.new w4 #[.pointer (some ⟨l,0,none⟩),.pointer (some ⟨x,0,none⟩),.int .i64 (now+skew)] 160;have ix6:=(ix3.only g34).only g6;have hc4:w1.heap.size≤w4.heap.size:=(aF g3 g34).size;have G6:=aD (aF (aF g3 g34) g6);generalize w4.alloc (.cells #[.pointer (some ⟨l,0,none⟩),.pointer (some ⟨x,0,none⟩),.int .i64 (now+skew)] 160)=W6 at*;obtain⟨c,hc⟩:∃c,c=w4.heap.size:=⟨_,rfl⟩;rw[←hc] at hb hc4;simp only[←hc];clear g3 g34 g4 g6 ix3 hc;have c1:=hb.cell (i:=1) (v:=.pointer (some ⟨x,0,none⟩)) rfl;have hdrop:=yJ x m _ _ now W6 ix6;have HB:=aD (aQ hb ix6);clear hb ix6;go_wp2_with (go_at_call 88;refine hdrop.mono ?_;clear hdrop;rintro e w7 ⟨⟨k,rfl⟩,ix7,g7⟩);go_ret2;obtain⟨dk1,st1,hl,lk1⟩:=H1.out;have dk6:=dk1.below (aB G6.out);have hm7:w1.heap.size≤m:=hm3;have hmd:¬b1.F d m:=dk1.fresh hm7;have hneF:∀i,(i=d∨b1.F d i∨IntB W6 i)→i≠m:=fun i hi e=>by
   subst e;rcases hi with rfl|hi|⟨cs,fr,hi⟩
   ·exact hmd (.inl rfl)
   ·exact hmd hi
   ·obtain⟨_,_,hm⟩:=HB.out.2.map.block
    rw[hi] at hm;cases hm
  have dk7:Dk w7 d b1 D1:=dk6.other fun i hi hb=>g7.block i hi fun e=>hneF i (.inr hb) (Option.some.inj e)
  have st7:Stp (b.F d) (b1.F d) w w7:=(st1.new G6.out (fun _ e=>by cases e)).new g7 (fun g e=>by cases e;omega);have lk6:Lk W6 l d L:=Hb.only lk1 G6.out;obtain⟨_,_,hmm⟩:=HB.out.2.map.block;have hlm:l≠m:=fun e=>by have h1:W6.heap[l]? =_:=lk6;rw[e,hmm] at h1;cases h1
  have hcm:c≠m:=fun e=>by have h1:W6.heap[c]? =_:=HB.out.1;rw[e,hmm] at h1;cases h1
  refine⟨b1,dk7,st7,c,rfl,⟨l,x,m,es.length⟩,⟨HB.out.1.keep g7 (fun e=>hcm (Option.some.inj e)),Hb.keep lk6 g7 (fun e=>hlm (Option.some.inj e)),ix7,hmd⟩,?_,hle4⟩;rintro i (rfl|rfl|rfl|rfl)
  ·omega
  ·exact hl
  ·exact Nat.le_trans hza hx3
  ·exact Nat.le_trans hza hm3
set_option linter.all false
set_option maxHeartbeats 4000000
theorem rY {w:World} {g:Nat} {e:bC} {t:TypeId} (hb:Hb w g (ev e) t):∀j v,(ev e)[j]? =some v→w.cell? ((⟨g,0,none⟩:Addr).add j)=some v:=fun j v hj=>by rw[Addr.add_mid,Nat.zero_add];exact hb.cell hj
def vM (k:Nat) (v:Value) (c d:Nat) (b:Dsk.B) (p:Ca.B) (D:Dsk.D) (C:Ca.C) (w:World) (e:Ending) (w':World):Prop:=
 e= .returned v∧∃b' p',Dk w' d b' D∧Cx w' c d b' p' C∧p'.n≤p.n+k∧Stp (fun i=>b.F d i∨p.F c i) (fun i=>b'.F d i∨p'.F c i) w w'
theorem Cx.alien {w:World} {c d i:Nat} {b:Dsk.B} {p:Ca.B} {C:Ca.C} {cs:Array Value} {t:TypeId} (h:Cx w c d b p C) (hb:Hb w i cs t) (h1:t≠160) (h2:t≠242) (h3:t≠212):¬p.F c i:=by
 have hi:w.heap[i]? =some (.cells cs t (0,0)):=hb;rintro(rfl|rfl|rfl|rfl)
 ·have:=h.blk;rw[show w.heap[i]? =_ from this] at hi;cases hi;exact h1 rfl
 ·have:=h.log;rw[show w.heap[p.l]? =_ from this] at hi;cases hi;exact h2 rfl
 ·have:=h.idx.blk;rw[show w.heap[p.x]? =_ from this] at hi;cases hi;exact h3 rfl
 ·obtain⟨_,_,m⟩:=h.idx.map.block;rw[hi] at m;cases m
theorem Cx.append {V V':World} {c d:Nat} {b b4:Dsk.B} {p:Ca.B} {D:Dsk.D} {C:Ca.C} {L':Lg.L} (cx:Cx V c d b p C) (dk:Dk V d b D) (st:Stp (fun i=>b.F d i∨i=p.l) (fun i=>b4.F d i∨i=p.l) V V') (lk:Lk V' p.l d L'):
 Cx V' c d b4 p { C with log:=L'}∧Stp (fun i=>b.F d i∨p.F c i) (fun i=>b4.F d i∨p.F c i) V V':=by
 have ha:=fun i hi=>(cx.apart dk i hi).1
 obtain⟨n1,n2,n3,n4,n5⟩:=cx.ne;have hm:¬(b.F d p.m∨p.m=p.l):=fun h=>h.elim (ha _ (.inr (.inr (.inr rfl)))) (fun e=>n2 e.symm)
 refine⟨⟨Stp.hb st cx.blk (fun h=>h.elim (ha _ (.inl rfl)) n3),lk,⟨cx.idx.ok,cx.idx.all,cx.idx.len,Stp.hb st cx.idx.blk (fun h=>h.elim (ha _ (.inr (.inr (.inl rfl)))) (fun e=>n1 e.symm)),cx.idx.map.of_block (st.keep _ cx.idx.map.lt hm)⟩,fun h=>st.away cx.idx.map.lt hm (.inl h)⟩,?_⟩;refine⟨st.os,st.tape,st.output,st.size,fun i hi hF=>st.keep i hi fun h=>hF (h.imp id fun e=>.inr (.inl e)),fun i hi=>?_⟩;rcases hi with hi|hi
 ·exact(st.sub i (.inl hi)).imp (fun h=>h.imp id fun e=>.inr (.inl e)) id
 ·exact .inl (.inr hi)
theorem Cx.put {V V':World} {c d n':Nat} {b:Dsk.B} {p:Ca.B} {D:Dsk.D} {C:Ca.C} {X':List bC} (cx:Cx V c d b p C) (dk:Dk V d b D) (ix:Ix V' p.x p.m n' X') (g:V.grownBy V' (some p.m)):
 Dk V' d b D∧Cx V' c d b { p with n:=n'} { C with idx:=X'}∧Stp (fun i=>b.F d i∨p.F c i) (fun i=>b.F d i∨p.F c i) V V':=by
 have ha:=cx.apart dk p.m (.inr (.inr (.inr rfl)));obtain⟨n1,n2,n3,n4,n5⟩:=cx.ne;refine⟨dk.other fun i hi hb=>g.block i hi fun e=>?_,⟨cx.blk.keep g (fun e=>n5 (Option.some.inj e)),Hb.keep cx.log g (fun e=>n2 (Option.some.inj e)),ix,cx.sep⟩,Stp.of_grown g fun x hx=>by cases hx;exact .inl (.inr (.inr (.inr (.inr rfl))))⟩
 cases e
 exact hb.elim ha.1 ha.2
def xR (now:Int):Prop:=∀(c d:Nat) (b:Dsk.B) (p:Ca.B) (D:Dsk.D) (C:Ca.C) (w:World),Dk w d b D→Cx w c d b p C→Lg.fit D C.log→C.log.broken=false→p.n<900000→D.n<800000→
 Calls Tryz.prog 72 #[.pointer (some ⟨c,0,none⟩),.int .i64 now] w (vM 0 (iF (Ca.compact D C now).2.2) c d b p (Ca.compact D C now).1 (Ca.compact D C now).2.1 w)
structure jH (D:Dsk.D) (C:Ca.C) (now:Int):Prop where
 law:xR now
 fit:(Ca.compact D C now).2.2=0→Lg.fit (Ca.compact D C now).1 (Ca.compact D C now).2.1.log∧(Ca.compact D C now).2.1.log.broken=false
 n:(Ca.compact D C now).1.n<800000
theorem wP (c d:Nat) (b:Dsk.B) (p:Ca.B) (D:Dsk.D) (C:Ca.C) (e:bC) (now:Int) (w:World) (h:Dk w d b D) (hC:Cx w c d b p C) (hf:Lg.fit D C.log) (ho:Frm.okE e) (hp:p.n<800000) (hN:D.n<700000) (hcp:Lg.room C.log≤C.log.count→jH D C now):
 Calls Tryz.prog 81 #[.pointer (some ⟨c,0,none⟩),.agg (ev e),.int .i64 now] w (vM 1 (.int .i64 ((Ca.insert D C e now).2.2:Nat)) c d b p (Ca.insert D C e now).1 (Ca.insert D C e now).2.1 w):=by
 have hb:=Hb.new w (ev e) 73;have gr:=aG (aE w none) (.cells (ev e) 73);have HD:=aD (h.below (aB gr));have HC:=aD (hC.only gr);have HB:=aD hb;have GR:=aD (Stp.of_only gr (fun i=>b.F d i∨p.F c i));have HO:=aD ho;have HF:=aD (aQ hf (aQ hp (aQ hN hcp)));have hes:=bP e;obtain⟨R,hR⟩:∃R,R=Ca.insert D C e now:=⟨_,rfl⟩;rw[←hR];have HR:=aD hR;clear h hC hb gr ho hf hp hN hcp hR;go_enter Tryz.func81,Tryz.ntmps81;go_upto_region 3 with fail;generalize w.alloc (.cells (ev e) 73)=W at*;obtain⟨be,hbe⟩:∃be,be=w.heap.size:=⟨_,rfl⟩;rw[←hbe] at HB;simp only[←hbe];clear hbe;obtain⟨c0,c1,c2⟩:=Cx.cells HC.out;obtain⟨dg,hdg⟩:∃dg,dg=e.dig:=⟨_,rfl⟩;have HEL:=aD (yZ HB.out hdg);have HDG:=aD hdg;clear hdg;go_still_tail 7,(by kernel_rfl)
 repeat (first|(refine aY rfl _ _ rfl ⟨be,0,none⟩ rfl _ _ HEL.out rfl rfl (bU _) ?_)|still_step)
 try refine wpStill_nil ?_
 change wpList _ _ _ _ _ (W.drewN 1);have g1:=aM (aE W none) 1;have hhas:=aA6 p.x p.m p.n C.idx dg now (W.drewN 1) (HC.out.idx.only g1) (by rw[HDG.out];exact HO.out.1) (by rw[HDG.out];exact HO.out.2);have G1:=aD g1;clear g1 c0 c1 c2;generalize W.drewN 1=W1 at*;obtain⟨hs,hhs⟩:∃hs,hs=Idx.has C.idx dg now:=⟨_,rfl⟩;rw[←hhs] at hhas;have HHS:=aD hhs;clear hhs
 cases hs with
 |true=>
  go_wp2_with (go_at_call 118;refine hhas.mono ?_;clear hhas;rintro e2 w2 ⟨rfl,g2⟩);go_ret;have hins:R=(D,C,8):=by rw[HR.out];unfold Ca.insert;rw[←HDG.out,←HHS.out,if_pos rfl]
  rw[hins];have g3:=aF G1.out g2;exact⟨rfl,b,p,HD.out.below (aB g3),HC.out.only g3,Nat.le_succ _,GR.out.trans (Stp.of_only g3 _)⟩
 |false=>
  go_upto_region 5 with (go_at_call 118;refine hhas.mono ?_;clear hhas;rintro e2 w2 ⟨rfl,g2⟩);have g3:=aF G1.out g2;have hnhas:Idx.has C.idx e.dig now=false:=by rw[←HDG.out,←HHS.out]
  have HD2:=aD (HD.out.below (aB g3));have HC2:=aD (HC.out.only g3);have HB2:=aD (HB.out.only g3);have ST2:=aD (GR.out.trans (Stp.of_only g3 _));have HNH:=aD hnhas;have ce:=HB2.out.cell (d9 e);have hbr:=wI c d b p C w2 HC2.out;clear g3 g2 hnhas HD HC HB GR G1 HEL;obtain⟨br,hbq⟩:∃br,br=C.log.broken:=⟨_,rfl⟩;rw[←hbq] at hbr;have HBR:=aD hbq;clear hbq
  by_cases hbad:br=true∨Frm.right e=false
  ·have hins:R=(D,C,9):=by
    rw[HR.out];unfold Ca.insert;rw[HNH.out,if_neg (by simp),if_pos (by rw[←HBR.out];rcases hbad with h|h<;>simp[h])]
   have HIN:=aD hins;have hcase:br=true∨(br=false∧decide (e.exp<0)=true)∨(br=false∧decide (e.exp<0)=false∧decide (4611686018427387904<e.exp)=true):=by
    cases br with
    |true=>exact .inl rfl
    |false=>
     have hr:=hbad.resolve_left (by simp)
     by_cases h1:e.exp<0
     ·exact .inr (.inl ⟨rfl,by simpa using h1⟩)
     ·refine .inr (.inr ⟨rfl,by simpa using h1,?_⟩)
      unfold Frm.right at hr;simp at hr h1 ⊢;exact hr h1
   clear hbad hins;rcases hcase with rfl|⟨rfl,h1⟩|⟨rfl,h1,h2⟩
   all_goals
    go_wp2_with (go_at_call 119;refine hbr.mono ?_;clear hbr;rintro e3 w3 ⟨rfl,rfl⟩);go_ret;rw[HIN.out];exact⟨rfl,b,p,HD2.out,HC2.out,Nat.le_succ _,ST2.out⟩
  ·obtain rfl:br=false:=by cases br with
    |true=>exact absurd (.inl rfl) hbad
    |false=>rfl
   have hr:Frm.right e=true:=by cases hr:Frm.right e with
    |true=>rfl
    |false=>exact absurd (.inr hr) hbad
   obtain⟨h1,h2⟩:=Frm.right_iff.1 hr;have d1:decide (e.exp<0)=false:=by simpa using h1
   have d2:decide (4611686018427387904<e.exp)=false:=by simpa using h2
   have HRT:=aD hr;clear hbad hr h1 h2;go_upto_region 7 with (go_at_call 119;refine hbr.mono ?_;clear hbr;rintro e3 w3 ⟨rfl,rfl⟩);have hus:=fun(W:World) (b:Dsk.B) (p:Ca.B) (C:Ca.C) (h:Cx W c d b p C)=>aC2 c d b p C W h
   have hro:=fun(W:World) (b:Dsk.B) (p:Ca.B) (D:Dsk.D) (C:Ca.C) (h:Cx W c d b p C) (hf:Lg.fit D C.log) (hk:Dk W d b D)=>aCP c d b p C W h hf.side (by rw[hf.half];have:=hk.ok.room;omega)
   have hu2:=hus w2 b p C HC2.out;have hr2:=hro w2 b p D C HC2.out HF.out.1 HD2.out;have HUR:=aD (aQ hus hro);clear hus hro;obtain⟨n,hn⟩:∃n,n=C.log.count:=⟨_,rfl⟩;obtain⟨rm,hrm⟩:∃rm,rm=Lg.room C.log:=⟨_,rfl⟩;rw[←hn] at hu2;rw[←hrm] at hr2;have HQ:=aD (aQ hn hrm);clear hn hrm
   by_cases hfull:rm≤n
   case' pos=>
    have hfu:decide (rm≤n)=true:=decide_eq_true hfull;obtain⟨hlaw,hfit,hnn⟩:=HF.out.2.2.2 (by rw[←HQ.out.1,←HQ.out.2];exact hfull);obtain⟨Q,hQ⟩:∃Q,Q=Ca.compact D C now:=⟨_,rfl⟩;rw[←hQ] at hfit hnn;have hins:R=if Q.2.2=0 then Ca.insert2 Q.1 Q.2.1 e else (Q.1,Q.2.1,Ca.answer Q.2.2):=by
     rw[HR.out];unfold Ca.insert;rw[HNH.out,if_neg (by simp),←HBR.out,HRT.out,if_neg (by simp),←HQ.out.1,←HQ.out.2,if_pos hfull,←hQ]
    have hcl:=fun(W:World) (g:w2.grownBy W none)=>hlaw c d b p D C W (HD2.out.below (aB g)) (HC2.out.only g) HF.out.1 HBR.out.symm (by have:=HF.out.2.1;omega) (by have:=HF.out.2.2.1;omega)
    rw[←hQ] at hcl;have HIN:=aD hins;clear hfull hlaw hQ hins
    go_upto_region 8 with (first
     |(go_at_call 120;refine hu2.mono ?_;clear hu2;rintro e3 w3 ⟨rfl,rfl⟩)
     |(go_at_call 121;refine hr2.mono ?_;clear hr2;rintro e3 w3 ⟨rfl,g3⟩))
    have hcl:=hcl w3 g3;have hB3:=HB2.out.only g3;have hD3:=HD2.out.below (aB g3);have hC3:=HC2.out.only g3;have hal:=hD3.alien hB3 (by decide) (by decide) (by decide) (by decide);have hal2:=hC3.alien hB3 (by decide) (by decide) (by decide);have ST3:=aD (ST2.out.trans (Stp.of_only g3 _));have HB3:=aD (aQ hB3 (aQ hal.1 hal2));clear g3 hB3 hD3 hC3 hal hal2 ce;obtain⟨k,hk⟩:∃k,k=Q.2.2:=⟨_,rfl⟩;rw[←hk] at hcl hfit
    by_cases hk0:k=0
    case' neg=>
     have hans:=fun W=>mG k W
     rw[eV k hk0] at hcl hans;have HK:=aD (aQ hk hk0);clear hk hk0 hfit;unfold vM at hcl
     go_wp2_with (first
      |(go_at_call 72;refine hcl.mono ?_;clear hcl;rintro e3 w4 ⟨rfl,b4,p4,dk4,cx4,hn4,st4⟩)
      |(go_at_call 122;refine(hans _).mono ?_;rintro e5 w5 ⟨rfl,g5⟩))
     go_ret;rw[HIN.out,←HK.out.1,if_neg HK.out.2];exact⟨rfl,b4,p4,dk4.below (aB g5),cx4.only g5,by omega,(ST3.out.trans st4).trans (Stp.of_only g5 _)⟩
    subst hk0;rw[kU] at hcl;have HK:=aD (aQ hk (aQ (hfit rfl) hnn));clear hk hfit hnn;unfold vM at hcl;go_upto_region 11 with (go_at_call 72;refine hcl.mono ?_;clear hcl;rintro e3 w4 ⟨rfl,b4,p4,dk4,cx4,hn4,st4⟩);obtain⟨b3,p3,D3,C3,h3⟩:∃b3 p3 D3 C3,Dk w4 d b3 D3∧Cx w4 c d b3 p3 C3∧Hb w4 be (ev e) 73∧Stp (fun i=>b.F d i∨p.F c i) (fun i=>b3.F d i∨p3.F c i) w w4∧Lg.fit D3 C3.log∧C3.log.broken=false∧p3.n≤p.n∧p3.n<900000∧D3.n<800000∧R=Ca.insert2 D3 C3 e:=
     ⟨b4,p4,_,_,dk4,cx4,Stp.hb st4 HB3.out.1 (fun hh=>hh.elim HB3.out.2.1 HB3.out.2.2),ST3.out.trans st4,HK.out.2.1.1,HK.out.2.1.2,hn4,by have:=HF.out.2.1;omega,HK.out.2.2,by rw[HIN.out,if_pos HK.out.1.symm]⟩
    clear dk4 cx4 st4 hn4 hfu;generalize w4=V at*
   case' neg=>
    have hfu:decide (rm≤n)=false:=decide_eq_false hfull;have hR3:R=Ca.insert2 D C e:=by
     rw[HR.out];unfold Ca.insert;rw[HNH.out,if_neg (by simp),←HBR.out,HRT.out,if_neg (by simp),←HQ.out.1,←HQ.out.2,if_neg hfull]
    go_upto_region 11 with (first
     |(go_at_call 120;refine hu2.mono ?_;clear hu2;rintro e3 w3 ⟨rfl,rfl⟩)
     |(go_at_call 121;refine hr2.mono ?_;clear hr2;rintro e3 w3 ⟨rfl,g3⟩))
    obtain⟨b3,p3,D3,C3,h3⟩:∃b3 p3 D3 C3,Dk w3 d b3 D3∧Cx w3 c d b3 p3 C3∧Hb w3 be (ev e) 73∧Stp (fun i=>b.F d i∨p.F c i) (fun i=>b3.F d i∨p3.F c i) w w3∧Lg.fit D3 C3.log∧C3.log.broken=false∧p3.n≤p.n∧p3.n<900000∧D3.n<800000∧R=Ca.insert2 D3 C3 e:=
     ⟨b,p,D,C,HD2.out.below (aB g3),HC2.out.only g3,HB2.out.only g3,ST2.out.trans (Stp.of_only g3 _),HF.out.1,HBR.out.symm,Nat.le_refl _,by have:=HF.out.2.1;omega,by have:=HF.out.2.2.1;omega,hR3⟩
    clear hfull hR3 g3 hfu ce;generalize w3=V at*
   all_goals
    have H3:=aD h3;clear h3;obtain⟨dk3,cx3,hb3,st3,hf3,hbr3,hpn3,hp3,hn3,hr3⟩:=H3.out;have hu3:=HUR.out.1 V b3 p3 C3 cx3;have hr3':=HUR.out.2 V b3 p3 D3 C3 cx3 hf3 dk3;obtain⟨n3,hn3q⟩:∃n,n=C3.log.count:=⟨_,rfl⟩;obtain⟨rm3,hrm3q⟩:∃rm,rm=Lg.room C3.log:=⟨_,rfl⟩;rw[←hn3q] at hu3;rw[←hrm3q] at hr3';have HQ3:=aD (aQ hn3q hrm3q);clear hn3q hrm3q dk3 cx3 hb3 st3 hf3 hbr3 hpn3 hp3 hn3 hr3
    by_cases hfull3:rm3≤n3
    case' pos=>
     have hfu3:decide (rm3≤n3)=true:=decide_eq_true hfull3;have HFU:=aD hfull3;clear hfull3
     go_wp2_with (first
      |(go_at_call 120;refine hu3.mono ?_;clear hu3;rintro e6 w6 ⟨rfl,rfl⟩)
      |(go_at_call 121;refine hr3'.mono ?_;clear hr3';rintro e6 w6 ⟨rfl,g6⟩))
     go_ret;obtain⟨dk3,cx3,hb3,st3,hf3,hbr3,hpn3,hp3,hn3,hr3⟩:=H3.out;rw[hr3];unfold Ca.insert2;rw[←HQ3.out.1,←HQ3.out.2,if_pos HFU.out];exact⟨rfl,b3,p3,dk3.below (aB g6),cx3.only g6,by omega,st3.trans (Stp.of_only g6 _)⟩
    case' neg=>
     have hfu3:decide (rm3≤n3)=false:=decide_eq_false hfull3;have HFU:=aD hfull3;clear hfull3
     go_upto_region 13 with (first
      |(go_at_call 120;refine hu3.mono ?_;clear hu3;rintro e6 w6 ⟨rfl,rfl⟩)
      |(go_at_call 121;refine hr3'.mono ?_;clear hr3';rintro e6 w6 ⟨rfl,g6⟩))
     obtain⟨dk3,cx3,hb3,st3,hf3,hbr3,hpn3,hp3,hn3,hr3⟩:=H3.out;have dk6:=dk3.below (aB (aM g6 1));have cx6:=cx3.only (aM g6 1);have hb6:=hb3.only (aM g6 1);have st6:=st3.trans (Stp.of_only (aM g6 1) _);have c0:=(Cx.cells (cx3.only g6)).1;have HEL6:=aD (rY (hb3.only g6));have hapn:=sA p3.l d b3 D3 C3.log e (w6.drewN 1) dk6 cx6.log hf3.side hf3.half hbr3 (by rw[←HQ3.out.1,←HQ3.out.2];have:=HFU.out;omega) hf3.gen HO.out HRT.out (by omega);obtain⟨Q3,hQ3⟩:∃Q,Q=Lg.append D3 C3.log e:=⟨_,rfl⟩;rw[←hQ3] at hapn;have hins:R=(Q3.1,⟨Q3.2.1,if Q3.2.2=0 then Idx.put C3.idx e else C3.idx,C3.till⟩,if Q3.2.2=0 then 10 else Ca.answer Q3.2.2):=by
      rw[hr3];unfold Ca.insert2;rw[←HQ3.out.1,←HQ3.out.2,if_neg HFU.out,←hQ3]
     have HIN3:=aD hins;have H6:=aD (aQ dk6 (aQ cx6 (aQ hb6 (aQ st6 (aQ hpn3 hp3)))));clear dk3 cx3 hb3 st3 hf3 hbr3 hpn3 hp3 hn3 hr3 dk6 cx6 hb6 st6 hQ3 hins g6;go_still_tail 5,(by kernel_rfl)
     repeat (first|(refine aY rfl _ _ rfl ⟨be,0,none⟩ rfl _ _ HEL6.out rfl rfl (cI _) ?_)|still_step)
     try refine wpStill_nil ?_
     change wpList _ _ _ _ _ (w6.drewN 1);clear c0 HEL6;generalize w6.drewN 1=W6 at*;obtain⟨k,hk⟩:∃k,k=Q3.2.2:=⟨_,rfl⟩;rw[←hk] at hapn;have HK3:=aD hk;clear hk;unfold zT at hapn
     by_cases hk0:k=0
     case' neg=>
      have hans:=fun W=>mG k W
      rw[eV k hk0] at hapn hans;have HK0:=aD hk0;clear hk0
      go_wp2_with (first
       |(go_at_call 123;refine hapn.mono ?_;clear hapn;rintro e7 w7 ⟨rfl,b7,dk7,lk7,st7⟩)
       |(go_at_call 122;refine(hans _).mono ?_;rintro e8 w8 ⟨rfl,g8⟩))
      go_ret;obtain⟨dk6,cx6,hb6,st6,hpn6,hp6⟩:=H6.out;obtain⟨cx7,st7'⟩:=cx6.append dk6 st7 lk7;rw[HIN3.out,←HK3.out,if_neg HK0.out,if_neg HK0.out];exact⟨rfl,b7,p3,dk7.below (aB g8),cx7.only g8,by omega,(st6.trans st7').trans (Stp.of_only g8 _)⟩
     case' pos=>
      subst hk0;rw[kU] at hapn;go_upto_region 16 with (go_at_call 123;refine hapn.mono ?_;clear hapn;rintro e7 w7 ⟨rfl,b7,dk7,lk7,st7⟩);obtain⟨dk6,cx6,hb6,st6,hpn6,hp6⟩:=H6.out;obtain⟨cx7,st7'⟩:=cx6.append dk6 st7 lk7;have hal:=dk6.alien hb6 (by decide) (by decide) (by decide) (by decide);have hal2:=cx6.alien hb6 (by decide) (by decide) (by decide);have hb7:=Stp.hb st7' hb6 (fun h=>h.elim hal.1 hal2);have g8:=aM (aE w7 none) 1;have c1:=(Cx.cells cx7).2.1;have HEL7:=aD (rY hb7);have hput:=qB p3.x p3.m p3.n C3.idx e (w7.drewN 1) (cx7.only g8).idx HO.out (by omega);have H7:=aD (aQ (dk7.below (aB g8)) (aQ (cx7.only g8) (aQ ((st6.trans st7').trans (Stp.of_only g8 _)) hpn6)));clear dk6 cx6 hb6 st6 hpn6 hp6 cx7 st7' hal hal2 hb7 dk7 lk7 st7 g8;go_still_tail 5,(by kernel_rfl)
      repeat (first|(refine aY rfl _ _ rfl ⟨be,0,none⟩ rfl _ _ HEL7.out rfl rfl (cI _) ?_)|still_step)
      try refine wpStill_nil ?_
      change wpList _ _ _ _ _ (w7.drewN 1);clear c1 HEL7;generalize w7.drewN 1=W7 at*;unfold aEF at hput;go_wp2_with (go_at_call 124;refine hput.mono ?_;clear hput;rintro e9 w9 ⟨rfl,ix9,g9⟩);go_ret;obtain⟨dk8,cx8,st8,hpn8⟩:=H7.out;obtain⟨dk9,cx9,st9⟩:=cx8.put dk8 ix9 g9;rw[HIN3.out,←HK3.out,if_pos rfl,if_pos rfl];exact⟨rfl,b7,{ p3 with n:=p3.n+1},dk9,cx9,by show p3.n+1≤p.n+1;omega,st8.trans st9⟩
set_option linter.all false
structure Vf.V where
 skew:Int
 now:Int
 cache:Option Ca.C
namespace Vf
def look (D:Dsk.D) (V:Vf.V):Vf.V:=if D.down then { V with cache:=none} else V
def clock (V:Vf.V) (n:Int):Int:=if 1099511627776 - V.now<n then 1099511627776 else if 0<n then V.now+n else V.now
def tick (D:Dsk.D) (V:Vf.V) (n:Int):Vf.V:={ look D V with now:=clock V n}
def tillO:Option Ca.C→Int
 |some C=>C.till
 |none=>9223372036854775807
def till (D:Dsk.D) (V:Vf.V):Int:=tillO (look D V).cache
def liveO (now:Int):Option Ca.C→List bC
 |some C=>Idx.live C.idx now
 |none=>[]
def live (D:Dsk.D) (V:Vf.V):List bC:=liveO V.now (look D V).cache
def boot (D:Dsk.D) (V:Vf.V):Dsk.D×Vf.V×Nat:=((Ca.opn { D with down:=false} V.skew V.now).1,match (Ca.opn { D with down:=false} V.skew V.now).2 with
 | .inl k=>({ V with cache:=none},k)
 | .inr C=>({ V with cache:=some C},0))
end Vf
abbrev Vf.Q:=Option (Nat×Ca.B)
def Vf.Q.ptr (q:Vf.Q):Value:=.pointer (q.map fun x=>⟨x.1,0,none⟩)
def Vf.Q.F (q:Vf.Q):Nat→Prop:=fun i=>∃x,q=some x∧x.2.F x.1 i
def jX (key:Nat→Nat) (d:Nat) (q:Vf.Q) (V:Vf.V):Array Value:=aH .u8 16 key++#[.int .i64 V.skew,.pointer (some ⟨d,0,none⟩),.int .i64 V.now,Vf.Q.ptr q]
structure Vx (w:World) (v d:Nat) (key:Nat→Nat) (b:Dsk.B) (q:Vf.Q) (N:Nat) (D:Dsk.D) (V:Vf.V):Prop where
 dk:Dk w d b D
 blk:Hb w v (jX key d q V) 112
 cache:(q=none∧V.cache=none)∨∃c p C,q=some (c,p)∧V.cache=some C∧Cx w c d b p C∧Lg.fit D C.log∧p.n≤N
def VF (v d:Nat) (b:Dsk.B) (q:Vf.Q):Nat→Prop:=fun i=>i=v∨b.F d i∨Vf.Q.F q i
theorem gG (key:Nat→Nat) (d:Nat) (q:Vf.Q) (V:Vf.V):(jX key d q V)[16]? =some (.int .i64 V.skew):=by unfold jX;rw[Array.getElem?_append_right (by rw[aA];omega),aA];rfl
theorem kN (key:Nat→Nat) (d:Nat) (q:Vf.Q) (V:Vf.V):(jX key d q V)[17]? =some (.pointer (some ⟨d,0,none⟩)):=by unfold jX;rw[Array.getElem?_append_right (by rw[aA];omega),aA];rfl
theorem hH (key:Nat→Nat) (d:Nat) (q:Vf.Q) (V:Vf.V):(jX key d q V)[18]? =some (.int .i64 V.now):=by unfold jX;rw[Array.getElem?_append_right (by rw[aA];omega),aA];rfl
theorem jE (key:Nat→Nat) (d:Nat) (q:Vf.Q) (V:Vf.V):(jX key d q V)[19]? =some (Vf.Q.ptr q):=by unfold jX;rw[Array.getElem?_append_right (by rw[aA];omega),aA];rfl
theorem aG3 (key:Nat→Nat) (d:Nat) (q:Vf.Q) (V:Vf.V) {j:Nat} (hj:j<16):(jX key d q V)[j]? =some (.int .u8 (key j:Nat)):=by unfold jX;rw[Array.getElem?_append_left (by rw[aA];omega),cJ _ _ _ _ hj]
theorem lC (key:Nat→Nat) (d:Nat) (q q':Vf.Q) (V:Vf.V) (o:Option Ca.C):(jX key d q V).setIfInBounds 19 (Vf.Q.ptr q')=jX key d q' { V with cache:=o}:=by kernel_rfl
theorem qO (key:Nat→Nat) (d:Nat) (q:Vf.Q) (V:Vf.V) (n:Int):(jX key d q V).setIfInBounds 18 (.int .i64 n)=jX key d q { V with now:=n}:=by kernel_rfl
section
variable {w w':World} {v d:Nat} {key:Nat→Nat} {b:Dsk.B} {q:Vf.Q} {N:Nat} {D:Dsk.D} {V:Vf.V}
theorem Vx.cells (h:Vx w v d key b q N D V):(w.cell? ⟨v,16,none⟩=some (.int .i64 V.skew)∧w.cell? ⟨v,17,none⟩=some (.pointer (some ⟨d,0,none⟩))∧w.cell? ⟨v,18,none⟩=some (.int .i64 V.now)∧w.cell? ⟨v,19,none⟩=some (Vf.Q.ptr q))∧∀i,w.frozen? ⟨v,i,none⟩=false:=
 ⟨⟨h.blk.cell (gG ..),h.blk.cell (kN ..),h.blk.cell (hH ..),h.blk.cell (jE ..)⟩,fun i=>h.blk.frozen i⟩
theorem Vx.below (h:Vx w v d key b q N D V) (k:Below w.heap.size w w'):Vx w' v d key b q N D V:=
 ⟨h.dk.below k,(k.block _ h.blk.lt).trans h.blk,h.cache.imp id fun⟨c,p,C,h1,h2,h3,h4⟩=>⟨c,p,C,h1,h2,h3.below k,h4⟩⟩
theorem Vx.only (h:Vx w v d key b q N D V) (g:w.grownBy w' none):Vx w' v d key b q N D V:=h.below (aB g)
theorem Vx.mono (h:Vx w v d key b q N D V) {N':Nat} (hn:N≤N'):Vx w v d key b q N' D V:=
 ⟨h.dk,h.blk,h.cache.imp id fun⟨c,p,C,h1,h2,h3,h4,h5⟩=>⟨c,p,C,h1,h2,h3,h4,Nat.le_trans h5 hn⟩⟩
theorem Vx.alien {i:Nat} {cs:Array Value} {t:TypeId} (h:Vx w v d key b q N D V) (hb:Hb w i cs t) (h1:t≠120) (h2:t≠191) (h3:t≠275) (h4:t≠3) (h5:t≠160) (h6:t≠242) (h7:t≠212) (h8:t≠112):¬VF v d b q i:=by
 rintro(rfl|hf|⟨⟨c,p⟩,hq,hf⟩)
 ·have k1:w.heap[i]? =_:=hb
  have:=h.blk;rw[show w.heap[i]? =_ from this] at k1;cases k1;exact h8 rfl
 ·exact(h.dk.alien hb h1 h2 h3 h4).1 hf
 ·rcases h.cache with ⟨e,_⟩|⟨c',p',C,e,_,hc,_⟩
  ·rw[e] at hq;cases hq
  ·rw[e] at hq;cases hq
   exact hc.alien hb h5 h6 h7 hf
theorem Vx.own (h:Vx w v d key b q N D V) (g:w.grownBy w' (some v)) {V':Vf.V} (hv:V'.cache=V.cache) (hb:Hb w' v (jX key d q V') 112):Vx w' v d key b q N D V':=by
 refine⟨h.dk.grown h.blk (by decide) (by decide) (by decide) (by decide) g,hb,?_⟩;rw[hv];exact h.cache.imp id fun⟨c,p,C,h1,h2,h3,h4⟩=>⟨c,p,C,h1,h2,h3.keep fun i hi=>g.block i (h3.lt i hi) (fun e=>h3.alien h.blk (by decide) (by decide) (by decide) (by rw[Option.some.inj e] at hi;exact hi)),h4⟩
theorem Vx.forget (h:Vx w v d key b q N D V) (g:w.grownBy w' (some v)) {V':Vf.V} (hv:V'.cache=none) (hb:Hb w' v (jX key d none V') 112):Vx w' v d key b none N D V':=
 ⟨h.dk.grown h.blk (by decide) (by decide) (by decide) (by decide) g,hb,.inl ⟨rfl,hv⟩⟩
theorem Stp.vx_own (g:w.grownBy w' (some v)) (q':Vf.Q) (hq:q'=none∨q'=q):Stp (VF v d b q) (VF v d b q') w w':=
 ⟨g.os,g.tape,g.output,g.size,fun i hi hF=>g.block i hi fun e=>hF (.inl (Option.some.inj e)),fun i hi=>.inl (hi.imp id fun h=>h.imp id fun⟨x,hx,hf⟩=>by
   rcases hq with rfl|rfl
   ·cases hx
   ·exact⟨x,hx,hf⟩)⟩
end
def bQ (D:Dsk.D) (q:Vf.Q):Vf.Q:=if D.down then none else q
def eK (val:Value) (v d:Nat) (key:Nat→Nat) (b:Dsk.B) (q:Vf.Q) (N:Nat) (D:Dsk.D) (V:Vf.V) (w:World) (e:Ending) (w':World):Prop:=
 e= .returned val∧Vx w' v d key b (bQ D q) N D V∧w.grownBy w' (some v)
theorem eM (v d:Nat) (key:Nat→Nat) (b:Dsk.B) (q:Vf.Q) (N:Nat) (D:Dsk.D) (V:Vf.V) (w:World) (h:Vx w v d key b q N D V):
 Calls Tryz.prog 43 #[.pointer (some ⟨v,0,none⟩)] w (eK (.tuple #[]) v d key b q N D (Vf.look D V) w):=by
 obtain⟨⟨c16,c17,c18,c19⟩,f⟩:=h.cells;have hd:=aCG d b D w h.dk;have f19:=f 19;have H:=aD h;obtain⟨cv,hcv⟩:∃cv,cv=Vf.Q.ptr q:=⟨_,rfl⟩;rw[←hcv] at c19;clear h f c16 c18 hcv;unfold eK bQ Vf.look;obtain⟨dn,hdn⟩:∃dn,dn=D.down:=⟨_,rfl⟩;rw[←hdn] at hd ⊢;clear hdn
 cases dn with
 |true=>
  go_enter Tryz.func43,Tryz.ntmps43;go_wp2_with (go_at_call 76;refine hd.mono ?_;clear hd;rintro e w1 ⟨rfl,rfl⟩);go_end0;have g:=bA (aE w (some v)) 19 (.pointer none);have hb:Hb (w.setCell ⟨v,19,none⟩ (.pointer none)) v ((jX key d q V).setIfInBounds 19 (Vf.Q.ptr none)) 112:=H.out.blk.set 19 (.pointer none);rw[lC key d q none V none] at hb;exact⟨rfl,H.out.forget g rfl hb,g⟩
 |false=>
  go_enter Tryz.func43,Tryz.ntmps43;go_wp2_with (go_at_call 76;refine hd.mono ?_;clear hd;rintro e w1 ⟨rfl,rfl⟩);go_end0;exact⟨rfl,H.out,aE _ _⟩
def lO (val:Value) (v d:Nat) (key:Nat→Nat) (b:Dsk.B) (q:Vf.Q) (N:Nat) (D:Dsk.D) (V:Vf.V) (w:World) (e:Ending) (w':World):Prop:=
 e= .returned val∧Vx w' v d key b q N D V∧w.grownBy w' (some v)
theorem kA (v d:Nat) (key:Nat→Nat) (b:Dsk.B) (q:Vf.Q) (N:Nat) (D:Dsk.D) (V:Vf.V) (w:World) (h:Vx w v d key b q N D V):
 Calls Tryz.prog 15 #[.pointer (some ⟨v,0,none⟩)] w (lO (.bool (bQ D q).isSome) v d key b (bQ D q) N D (Vf.look D V) w):=by
 have hl:=eM v d key b q N D V w h;clear h;unfold eK at hl;generalize bQ D q=q1 at*;generalize Vf.look D V=V1 at*;unfold lO
 cases q1 with
 |none=>
  go_enter Tryz.func15,Tryz.ntmps15;go_upto_region 4 with (go_at_call 43;refine hl.mono ?_;clear hl;rintro e w1 ⟨rfl,vx1,g1⟩);have c19:w1.cell? ⟨v,19,none⟩=some (.pointer none):=vx1.cells.1.2.2.2;have H:=aD (aQ vx1 g1);clear vx1 g1;go_wp2_with fail;go_ret;exact⟨rfl,H.out⟩
 |some x=>
  go_enter Tryz.func15,Tryz.ntmps15;go_upto_region 4 with (go_at_call 43;refine hl.mono ?_;clear hl;rintro e w1 ⟨rfl,vx1,g1⟩);have c19:w1.cell? ⟨v,19,none⟩=some (.pointer (some ⟨x.1,0,none⟩)):=vx1.cells.1.2.2.2;have H:=aD (aQ vx1 g1);clear vx1 g1;go_wp2_with fail;go_ret;exact⟨rfl,H.out⟩
theorem aHA (v d:Nat) (key:Nat→Nat) (b:Dsk.B) (q:Vf.Q) (N:Nat) (D:Dsk.D) (V:Vf.V) (w:World) (h:Vx w v d key b q N D V):
 Calls Tryz.prog 25 #[.pointer (some ⟨v,0,none⟩)] w (lO (.int .i64 V.now) v d key b (bQ D q) N D (Vf.look D V) w):=by
 have hl:=eM v d key b q N D V w h;clear h;unfold eK at hl;have hn:V.now=(Vf.look D V).now:=by unfold Vf.look;split<;>rfl
 rw[hn];clear hn;generalize bQ D q=q1 at*;generalize Vf.look D V=V1 at*;unfold lO;go_enter Tryz.func25,Tryz.ntmps25;go_upto_region 4 with (go_at_call 43;refine hl.mono ?_;clear hl;rintro e w1 ⟨rfl,vx1,g1⟩);have c18:=vx1.cells.1.2.2.1;have H:=aD (aQ vx1 g1);clear vx1 g1;go_wp2_with fail;go_ret;exact⟨rfl,H.out⟩
theorem aAX (v d:Nat) (key:Nat→Nat) (b:Dsk.B) (q:Vf.Q) (N:Nat) (D:Dsk.D) (V:Vf.V) (w:World) (h:Vx w v d key b q N D V):
 Calls Tryz.prog 33 #[.pointer (some ⟨v,0,none⟩)] w (lO (.int .i64 (Vf.till D V)) v d key b (bQ D q) N D (Vf.look D V) w):=by
 have hl:=kA v d key b q N D V w h;clear h;unfold lO Vf.till at*;generalize bQ D q=q1 at*;generalize Vf.look D V=V1 at*;obtain⟨t,ht⟩:∃t,t=Vf.tillO V1.cache:=⟨_,rfl⟩;rw[←ht];have HT:=aD ht;clear ht
 cases q1 with
 |none=>
  go_enter Tryz.func33,Tryz.ntmps33;go_wp2_with (go_at_call 15;refine hl.mono ?_;clear hl;rintro e w1 ⟨rfl,vx1,g1⟩;simp only[Option.isSome_none]);go_ret;rcases vx1.cache with ⟨_,hc⟩|⟨_,_,_,hq,_⟩
  ·rw[HT.out,hc];exact⟨rfl,vx1,g1⟩
  ·cases hq
 |some x=>
  go_enter Tryz.func33,Tryz.ntmps33;go_upto_region 3 with (go_at_call 15;refine hl.mono ?_;clear hl;rintro e w1 ⟨rfl,vx1,g1⟩;simp only[Option.isSome_some]);have c19:w1.cell? ⟨v,19,none⟩=some (.pointer (some ⟨x.1,0,none⟩)):=vx1.cells.1.2.2.2;obtain⟨c,p,C,hq,hV,cx,hx⟩:=vx1.cache.resolve_left (fun h=>by cases h.1)
  cases hq
  have hqu:=qP c d b p C w1 cx;have H:=aD (aQ vx1 (aQ g1 hV));clear vx1 g1 hV cx hx;go_wp2_with (go_at_call 59;refine hqu.mono ?_;clear hqu;rintro e2 w2 ⟨rfl,rfl⟩);go_ret;rw[HT.out,H.out.2.2];exact⟨rfl,H.out.1,H.out.2.1⟩
end Go.Proofs.YtcoolgnlhheaiaaGreatDoor
