import Derived.Test.YtcoolgnlhheaiaaGreatDoorG36
import Derived.Test.YtcoolgnlhheaiaaGreatDoorG38
namespace Go.Proofs.YtcoolgnlhheaiaaGreatDoor
open Go.RowKit Go.Deep
set_option linter.all false
set_option maxRecDepth 100000
set_option maxHeartbeats 4000000
theorem Dsk.sync_zero {D:Dsk.D} (h:(Dsk.sync D).2=0):(Dsk.sync D).1=Dsk.synced (Dsk.stepped D)∧D.down=false:=by
 unfold Dsk.sync at h ⊢;split at h
 ·cases h
 ·rename_i hd
  have hd':D.down=false:=by simpa using hd
  rw[if_neg hd];split at h
  ·cases h
  ·rename_i h2
   rw[if_neg h2];split at h
   ·cases h
   ·rename_i h1
    rw[if_neg h1];exact⟨rfl,hd'⟩
theorem jT (l:List (Nat×List Nat)):∀sec:List (List Nat),(l.foldl (fun sec x=>sec.set x.1 x.2) sec).length=sec.length:=by
 induction l with
 |nil=>intro sec;rfl
 |cons a l ih=>intro sec;rw[List.foldl_cons,ih,List.length_set]
theorem Dsk.tornS_len (sec:List (List Nat)) (l:List (Nat×List Nat)) (cs:List Int):(Dsk.tornS sec l cs).length=sec.length:=by rw[←Dsk.tornN_all];exact Dsk.tornN_len sec l cs _
theorem Dsk.sync_len (D:Dsk.D):(Dsk.sync D).1.sec.length=D.sec.length∧(Dsk.sync D).1.n≤D.n+1:=by
 unfold Dsk.sync;split
 ·exact⟨rfl,Nat.le_succ _⟩
 ·split
  ·exact⟨Dsk.tornS_len _ _ _,Nat.le_refl _⟩
  ·split
   ·exact⟨rfl,Nat.le_refl _⟩
   ·exact⟨jT _ _,Nat.le_refl _⟩
theorem Stp.new {F F':Nat→Prop} {w w' w'':World} {r:Option Nat} (h:Stp F F' w w') (k:w'.grownBy w'' r) (hr:∀g,r=some g→w.heap.size≤g):Stp F F' w w'':=
 ⟨k.os.trans h.os,k.tape.trans h.tape,k.output.trans h.output,Nat.le_trans h.size k.size,fun i hi hf=>(k.block i (Nat.lt_of_lt_of_le hi h.size) (fun e=>by have:=hr i e.symm;omega)).trans (h.keep i hi hf),h.sub⟩
def OpS (w:World) (d l:Nat) (b b1:Dsk.B) (D:Dsk.D) (L:Lg.L) (W:World):Prop:=Dk W d b1 D∧Lk W l d L∧Stp (b.F d) (b1.F d) w W∧w.heap.size≤l
theorem OpS.step {w W W':World} {d l:Nat} {b b1:Dsk.B} {D:Dsk.D} {L L':Lg.L} (h:OpS w d l b b1 D L W) (g:W.grownBy W' (some l)) (hl:Lk W' l d L'):OpS w d l b b1 D L' W':=
 ⟨h.1.grown h.2.1 (by decide) (by decide) (by decide) (by decide) g,hl,h.2.2.1.new g (fun k e=>by cases e;exact h.2.2.2),h.2.2.2⟩
theorem OpS.only {w W W':World} {d l:Nat} {b b1:Dsk.B} {D:Dsk.D} {L:Lg.L} (h:OpS w d l b b1 D L W) (g:W.grownBy W' none):OpS w d l b b1 D L W':=h.step (aC (aB g) _) (Hb.only h.2.1 g)
theorem Frm.tag_lt {s:List Nat} (h:Frm.okS s):Frm.tag s<4294967296:=by
 have h1:=Wir.be_lt (s.drop 60) (AllB.drop h.2 60) 4 (by rw[List.length_drop,h.1];omega);rw[List.take_of_length_le (by rw[List.length_drop,h.1];omega)] at h1;exact h1
theorem Lg.tagN_lt {D:Dsk.D} (h:Dsk.ok D):∀n,n≤D.sec.length→Lg.tagN D n<4294967296
 |0,_=>by unfold Lg.tagN;simp
 |n+1,hn=>by
  rw[Lg.tagN_succ];have h1:=Lg.tagN_lt h n (by omega);have h2:=Frm.tag_lt (Dsk.read_ok h (x:=n) (by omega));omega
def j5 (d:Nat) (b:Dsk.B) (r:Dsk.D×(Nat ⊕ (Lg.L×List bC))) (w:World) (e:Ending) (w':World):Prop:=
 ∃b',Dk w' d b' r.1∧Stp (b.F d) (b'.F d) w w'∧match r.2 with
  | .inl c=>e= .returned (.tuple #[.pointer none,.slice none 0 0,iF c])
  | .inr x=>∃l v,e= .returned (.tuple #[.pointer (some ⟨l,0,none⟩),v,.nilIface])∧w.heap.size≤l∧Lk w' l d x.1∧RowOf w' w.heap.size 73 33 v (x.2.map fJ)
theorem zJ (d:Nat) (b:Dsk.B) (D:Dsk.D) (w:World) (h:Dk w d b D) (h2:2≤D.sec.length) (hN:D.n<900000):
 Calls Tryz.prog 85 #[.pointer (some ⟨d,0,none⟩)] w (j5 d b (Lg.opn D) w):=by
 have hroom:=h.ok.room;have hs1:=jJ d b D w h;have hsy:=lA d b D w h (by omega);have HD:=aD h;have HO:Lg.opn D=if (Dsk.sync D).2=0 then Lg.open1 (Dsk.sync D).1 else ((Dsk.sync D).1,.inl (Dsk.sync D).2):=if_neg (by omega)
 rw[HO];clear h HO
 by_cases hc:(Dsk.sync D).2=0
 ·rw[if_pos hc]
  obtain⟨D1,hD1⟩:∃D1,D1=(Dsk.sync D).1:=⟨_,rfl⟩;have hdn:D1.down=false:=by rw[hD1,(Dsk.sync_zero hc).1];exact(Dsk.sync_zero hc).2
  have hlen:D1.sec.length=D.sec.length:=by rw[hD1];exact(Dsk.sync_len D).1
  have hn1:D1.n<1000000:=by rw[hD1];have:=(Dsk.sync_len D).2;omega
  rw[hc,kU,←hD1] at hsy;rw[←hD1];have h21:2≤D1.sec.length:=by omega
  have hr1:D1.sec.length≤4096:=by omega
  have HDN:=aD hdn;clear hc hD1 hdn hlen;go_enter Tryz.func85,Tryz.ntmps85;go_upto_region 7 with (first|(go_at_call 130;refine hs1.mono ?_;clear hs1;rintro e w1 ⟨rfl,rfl⟩)|(go_at_call 131;refine hsy.mono ?_;clear hsy;rintro e w1 ⟨rfl,b1,dk1,st1⟩));have hL:=Hb.new w1 (lgV d ⟨0,0,0,0,0,false⟩) 242;have g2:=aG (aE w1 none) (.cells (lgV d ⟨0,0,0,0,0,false⟩) 242);have hl1:w.heap.size≤w1.heap.size:=st1.size;obtain⟨l,hl⟩:∃l,l=w1.heap.size:=⟨_,rfl⟩;rw[←hl] at hL hl1 ⊢;clear hl;change Code.wp _ _ _ _ (w1.alloc (.cells (lgV d ⟨0,0,0,0,0,false⟩) 242));generalize w1.alloc (.cells (lgV d ⟨0,0,0,0,0,false⟩) 242)=W2 at*;have hD2:=(dk1.below (aB g2));have ST2:=aD (st1.trans (Stp.of_only g2 (b1.F d)));have hs2:=jJ d b1 D1 W2.drew (hD2.below (aU (Below.refl _ W2) 1));have hhv:=yI D1.sec.length W2.drew (by omega);have HD2:=aD hD2;have hag:=mW;have hsz:=kO;obtain⟨n,hn⟩:∃n,n=D1.sec.length / 2:=⟨_,rfl⟩;rw[←hn] at hhv;unfold eD at hhv;have HNN:=aD hn;clear hD2 st1 g2 dk1 hn;have hLd:Hb W2.drew l (lgV d ⟨0,0,0,0,0,false⟩) 242:=hL;have hK:∀w3,W2.drew.grownBy w3 none→Hb w3 l (lgV d ⟨0,0,0,0,0,false⟩) 242∧(w3.cell? ⟨l,1,none⟩=some (.int .i64 0)∧w3.cell? ⟨l,2,none⟩=some (.int .i64 0)∧w3.cell? ⟨l,3,none⟩=some (.int .i64 0)∧w3.cell? ⟨l,4,none⟩=some (.int .i64 0))∧w3.frozen? ⟨l,1,none⟩=false∧w3.frozen? ⟨l,2,none⟩=false∧w3.frozen? ⟨l,3,none⟩=false∧w3.frozen? ⟨l,4,none⟩=false:=fun w3 g3=>by
   have h:=hLd.only g3;exact⟨h,⟨h.cell rfl,h.cell rfl,h.cell rfl,h.cell rfl⟩,h.frozen 1,h.frozen 2,h.frozen 3,h.frozen 4⟩
  have HK:=aD hK;clear hK hL
  go_region_held3 (fun _=>True) (trivial) (first
   |(go_at_call 130;refine hs2.mono ?_;rintro e w3 ⟨rfl,rfl⟩)
   |(go_at_call 132;refine hhv.mono ?_;rintro e w3 ⟨rfl,g3⟩;obtain⟨hL1,⟨c1,c2,c3,c4⟩,f1,f2,f3,f4⟩:=HK.out _ g3))
  have hO:OpS w d l b b1 D1 ⟨n,0,0,0,0,false⟩ _:=OpS.step (L:=⟨0,0,0,0,0,false⟩) ⟨HD2.out.below (aB (aF (aM (aE W2 none) 1) g3)),hL1,ST2.out.new (aF (aM (aE W2 none) 1) g3) (fun _ e=>by cases e),hl1⟩
   (bA (bA (bA (bA (aE w3 _) 1 (.int .i64 0)) 2 (.int .i64 (n:Int))) 3 (.int .i64 (n:Int))) 4 (.int .i64 (n:Int))) ((((hL1.set 1 (.int .i64 0)).set 2 (.int .i64 (n:Int))).set 3 (.int .i64 (n:Int))).set 4 (.int .i64 (n:Int)))
  generalize (((w3.setCell ⟨l,1,none⟩ (.int .i64 0)).setCell ⟨l,2,none⟩ (.int .i64 (n:Int))).setCell ⟨l,3,none⟩ (.int .i64 (n:Int))).setCell ⟨l,4,none⟩ (.int .i64 (n:Int))=W4 at*;have hla:=aDX d b1 D1 W4 hO.1 HDN.out h21 hn1;have HO4:=aD hO;obtain⟨la,hla'⟩:∃la,la=Lg.last D1:=⟨_,rfl⟩;rw[←hla'] at hla;have HLA:=aD hla';clear hs2 hhv hag hsz hLd HK hL1 c1 c2 c3 c4 f1 f2 f3 f4 g3 ST2 HD2 hO hla';go_upto_region 11 with (go_at_call 133;refine hla.mono ?_;clear hla;rintro e w5 ⟨rfl,g5⟩);have hO:=HO4.out.only g5;have c6:=(Lk.cells hO.2.1).1.2.2.2.2.2.2.1;have f6:=(Lk.cells hO.2.1).2 6;have HO5:=aD (hO.step (bA (aE w5 _) 6 (.int .u32 (la:Int))) (L':=⟨n,0,la,0,0,false⟩) (Hb.set hO.2.1 6 (.int .u32 (la:Int))));clear hO HO4 g5;go_upto_region 12 with fail;generalize w5.setCell ⟨l,6,none⟩ (.int .u32 (la:Int))=W6 at*;have hO:=HO5.out;have hfi:=aE1 l d b1 D1 ⟨n,0,la,0,0,false⟩ W6 hO.1 hO.2.1 HNN.out HDN.out h21 hn1;clear hO c6 f6;unfold aAE at hfi;go_upto_region 15 with (go_at_call 134;refine hfi.mono ?_;clear hfi;rintro e w7 ⟨v,rfl,lk7,r7,g7⟩);have hO7:OpS w d l b b1 D1 (Lg.at' ⟨n,0,la,0,0,false⟩ (Lg.find D1)) w7:=HO5.out.step g7 lk7;have r7:=r7.mono (show w.heap.size≤W6.heap.size from HO5.out.2.2.1.size);have hlt:=Lg.tagN_lt HO5.out.1.ok D1.sec.length (Nat.le_refl _);change Lg.last D1<_ at hlt;rw[←HLA.out] at hlt;clear lk7 g7 HO5
  cases hF:Lg.find D1 with
  |some x=>
   have hop:Lg.open1 D1=(D1,.inr (⟨n,x.1,la,x.2.1,x.2.2.length,false⟩,x.2.2)):=by
    unfold Lg.open1;rw[hF,HNN.out,HLA.out]
   rw[hF] at hO7 r7;have H:=aD (aQ hop (aQ hO7 r7));clear hop hO7 r7 hF;simp only[Option.isSome_some];go_wp2_with fail;go_ret3;unfold j5;rw[H.out.1];exact⟨b1,H.out.2.1.1,H.out.2.1.2.2.1,l,v,rfl,hl1,H.out.2.1.2.1,H.out.2.2⟩
  |none=>
   rw[hF] at hO7;simp only[Option.isSome_none]
   by_cases hm:la=4294967295
   ·have hop:Lg.open1 D1=(D1,.inl 13):=by
     unfold Lg.open1;rw[hF,←HLA.out];exact if_pos hm
    have H:=aD (aQ hop hO7);have hq:((la:Int)==4294967295)=true:=by simp;omega
    clear hop hO7 hF hm r7 hlt;go_wp2_with fail;go_ret3;unfold j5;rw[H.out.1];exact⟨b1,H.out.2.1,H.out.2.2.2.1,rfl⟩
   ·have hop:Lg.open1 D1=if (Slt.commit D1 0 (la+1)).2=0 then ((Slt.commit D1 0 (la+1)).1,.inr (⟨n,0,la,la+1,0,false⟩,[])) else ((Slt.commit D1 0 (la+1)).1,.inl (Slt.commit D1 0 (la+1)).2):=by
     unfold Lg.open1;rw[hF,←HLA.out,←HNN.out];exact if_neg hm
    have H:=aD hop;have hq:((la:Int)==4294967295)=false:=by simp;omega
    have hwr:IntKind.u32.wrap ((la:Int)+1)=((la+1:Nat):Int):=by simp only[IntKind.wrap_u32];omega
    have hla1:la+1<4294967296:=by omega
    have hk:=hO7.2.1;have c5:=(Lk.cells hk).1.2.2.2.2.2.1;have c7:=(Lk.cells hk).1.2.2.2.2.2.2.2.1;have f5:=(Lk.cells hk).2 5;have f7:=(Lk.cells hk).2 7;have HO:=aD hO7;clear hop hO7 hF hm r7 hlt hk;go_upto_region 21 with fail;have hO:=HO.out.step (bA (bA (aE w7 _) 5 (.int .i64 0)) 7 (.int .u32 ((la:Int)+1))) (L':=⟨n,0,la,la+1,0,false⟩) ((Hb.set HO.out.2.1 5 (.int .i64 0)).set 7 (.int .u32 ((la:Int)+1)));clear HO c5 c7 f5 f7 r7;generalize (w7.setCell ⟨l,5,none⟩ (.int .i64 0)).setCell ⟨l,7,none⟩ (.int .u32 ((la:Int)+1))=W8 at*;have hOd:OpS w d l b b1 D1 ⟨n,0,la,la+1,0,false⟩ W8.drew:=hO.only (aM (aE W8 none) 1);have hcm:=wA d b1 D1 0 n (la+1) W8.drew hOd.1 (by omega) hla1 hn1;unfold eD at hcm;simp only[Int.natCast_add,Int.natCast_one,Int.natCast_zero] at hcm;have c1:=(Lk.cells hO.2.1).1.2.1;have c2:=(Lk.cells hO.2.1).1.2.2.1;have c7:W8.cell? ⟨l,7,none⟩=some (.int .u32 ((la:Int)+1)):=(Lk.cells hO.2.1).1.2.2.2.2.2.2.2.1;have hag:=mW;have hsz:=kO;have HO:=aD hOd;clear hO hOd
    go_region_held3 (fun w'=>w'.cell? ⟨l,1,none⟩=some (.int .i64 0)∧w'.cell? ⟨l,2,none⟩=some (.int .i64 (n:Int))∧w'.cell? ⟨l,7,none⟩=some (.int .u32 ((la:Int)+1))) (first|go_keep|exact hkk)
     ((go_at_call 135;refine hcm.mono ?_;rintro e w9 ⟨rfl,b9,dk9,st9⟩;have lk9:Lk w9 l d ⟨n,0,la,la+1,0,false⟩:=Stp.hb st9 HO.out.2.1 (HO.out.1.alien HO.out.2.1 (by decide) (by decide) (by decide) (by decide)).1;have hkk:=aQ (Lk.cells lk9).1.2.1 (aQ (Lk.cells lk9).1.2.2.1 (show w9.cell? ⟨l,7,none⟩=some (.int .u32 ((la:Int)+1)) from (Lk.cells lk9).1.2.2.2.2.2.2.2.1))))
    have ST:=aD (HO.out.2.2.1.trans st9);have LK:=aD (aQ dk9 lk9);clear hcm hag hsz hkk c1 c2 c7 HO dk9 lk9 st9
    by_cases hcc:(Slt.commit D1 0 (la+1)).2=0
    ·have hop:=aD (H.out.trans (if_pos hcc))
     rw[hcc,kU];clear hcc;go_wp2_with fail;go_ret3;unfold j5;rw[hop.out];exact⟨b9,LK.out.1,ST.out,l,_,rfl,hl1,LK.out.2,RowOf.nil _ _ _ _⟩
    ·have hop:=aD (H.out.trans (if_neg hcc))
     rw[eV _ hcc];have he:=aD (eV _ hcc);clear hcc;go_wp2_with fail;go_ret3;unfold j5;rw[hop.out];refine⟨b9,LK.out.1,ST.out,?_⟩;dsimp only;rw[he.out];rfl
 ·rw[if_neg hc]
  have he:=aD (eV _ hc);rw[eV _ hc] at hsy;clear hc;go_enter Tryz.func85,Tryz.ntmps85;go_wp2_with (first|(go_at_call 130;refine hs1.mono ?_;clear hs1;rintro e w1 ⟨rfl,rfl⟩)|(go_at_call 131;refine hsy.mono ?_;clear hsy;rintro e w1 ⟨rfl,b1,dk1,st1⟩));go_ret3;unfold j5;refine⟨b1,dk1,st1,?_⟩;dsimp only;rw[he.out];rfl
set_option linter.all false
theorem Dsk.stepped_ok {D:Dsk.D} (h:Dsk.ok D):Dsk.ok (Dsk.stepped D):=⟨h.sec,h.opn,Nat.le_succ_of_le h.len,Nat.succ_le_succ h.steps,h.room⟩
theorem pJ (l:List (Nat×List Nat)) (hl:∀x∈l,Frm.okS x.2):∀sec:List (List Nat),(∀s∈sec,Frm.okS s)→∀s∈l.foldl (fun sec x=>sec.set x.1 x.2) sec,Frm.okS s:=by
 induction l with
 |nil=>exact fun sec h=>h
 |cons a l ih=>
  intro sec h;rw[List.foldl_cons];refine ih (fun x hx=>hl x (by simp[hx])) _ fun s hs=>?_
  rcases List.mem_or_eq_of_mem_set hs with hs|rfl
  ·exact h s hs
  ·exact hl a (by simp)
theorem Dsk.synced_ok {D:Dsk.D} (h:Dsk.ok D):Dsk.ok (Dsk.synced D):=
 ⟨pJ D.opn (fun x hx=>(h.opn x hx).2) D.sec h.sec,(fun x hx=>by cases hx),Nat.zero_le _,h.steps,by show(D.opn.foldl (fun sec x=>sec.set x.1 x.2) D.sec).length≤4096;rw[jT];exact h.room⟩
theorem Dsk.sync_ok {D:Dsk.D} (h:Dsk.ok D):Dsk.ok (Dsk.sync D).1:=by
 unfold Dsk.sync;split
 ·exact h
 ·split
  ·exact Dsk.crashed_ok (Dsk.stepped_ok h) _
  ·split
   ·exact Dsk.stepped_ok h
   ·exact Dsk.synced_ok (Dsk.stepped_ok h)
theorem Dsk.write_len (D:Dsk.D) (x:Nat) (s:List Nat):(Dsk.write D x s).1.sec.length=D.sec.length∧(Dsk.write D x s).1.n≤D.n+2:=by
 unfold Dsk.write;split
 ·exact⟨rfl,Nat.le_add_right _ _⟩
 ·split
  ·exact⟨Dsk.tornS_len _ _ _,Nat.le_refl _⟩
  ·split
   ·exact⟨rfl,Nat.le_succ _⟩
   ·exact⟨rfl,Nat.le_refl _⟩
theorem Slt.wrsy_len (D:Dsk.D) (x:Nat) (s:List Nat):(Slt.wrsy D x s).1.sec.length=D.sec.length∧(Slt.wrsy D x s).1.n≤D.n+3:=by
 have h1:=Dsk.write_len D x s;unfold Slt.wrsy;split
 ·have h2:=Dsk.sync_len (Dsk.write D x s).1
  exact⟨h2.1.trans h1.1,by omega⟩
 ·exact⟨h1.1,by omega⟩
theorem Slt.commit_len (D:Dsk.D) (f g:Nat):(Slt.commit D f g).1.sec.length=D.sec.length∧(Slt.commit D f g).1.n≤D.n+3:=Slt.wrsy_len D f _
theorem Lg.open1_len (D:Dsk.D):(Lg.open1 D).1.sec.length=D.sec.length∧(Lg.open1 D).1.n≤D.n+3:=by
 unfold Lg.open1;split
 ·exact⟨rfl,Nat.le_add_right _ _⟩
 ·split
  ·exact⟨rfl,Nat.le_add_right _ _⟩
  ·split<;>exact Slt.commit_len _ _ _
theorem Lg.opn_len (D:Dsk.D):(Lg.opn D).1.sec.length=D.sec.length∧(Lg.opn D).1.n≤D.n+4:=by
 unfold Lg.opn;split
 ·exact⟨rfl,Nat.le_add_right _ _⟩
 ·have h1:=Dsk.sync_len D
  split
  ·have h2:=Lg.open1_len (Dsk.sync D).1
   exact⟨h2.1.trans h1.1,by omega⟩
  ·exact⟨h1.1,Nat.le_trans h1.2 (by omega)⟩
theorem Lg.append_len (D:Dsk.D) (L:Lg.L) (e:bC):(Lg.append D L e).1.sec.length=D.sec.length∧(Lg.append D L e).1.n≤D.n+3:=by
 unfold Lg.append;split
 ·exact⟨rfl,Nat.le_add_right _ _⟩
 ·split<;>exact Slt.wrsy_len _ _ _
end Go.Proofs.YtcoolgnlhheaiaaGreatDoor
