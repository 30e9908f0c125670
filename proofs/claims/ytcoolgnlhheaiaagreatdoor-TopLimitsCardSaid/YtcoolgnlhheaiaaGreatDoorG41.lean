import Derived.Test.YtcoolgnlhheaiaaGreatDoorG38
namespace Go.Proofs.YtcoolgnlhheaiaaGreatDoor
open Go.RowKit Go.Deep
set_option linter.all false
set_option maxRecDepth 100000
set_option maxHeartbeats 4000000
theorem Dsk.write_code (D:Dsk.D) (x:Nat) (s:List Nat):(Dsk.write D x s).2=0∨(Dsk.write D x s).2=11∨(Dsk.write D x s).2=12:=by
 unfold Dsk.write;split
 ·exact .inr (.inr rfl)
 ·split
  ·exact .inr (.inr rfl)
  ·split
   ·exact .inr (.inl rfl)
   ·exact .inl rfl
theorem Dsk.sync_code (D:Dsk.D):(Dsk.sync D).2=0∨(Dsk.sync D).2=11∨(Dsk.sync D).2=12:=by
 unfold Dsk.sync;split
 ·exact .inr (.inr rfl)
 ·split
  ·exact .inr (.inr rfl)
  ·split
   ·exact .inr (.inl rfl)
   ·exact .inl rfl
theorem Slt.wrsy_code (D:Dsk.D) (x:Nat) (s:List Nat):(Slt.wrsy D x s).2=0∨(Slt.wrsy D x s).2=11∨(Slt.wrsy D x s).2=12:=by
 unfold Slt.wrsy;split
 ·exact Dsk.sync_code _
 ·exact Dsk.write_code _ _ _
theorem Lg.append_zero {D:Dsk.D} {L:Lg.L} {e:bC} (hb:L.broken=false) (h:(Slt.wrsy D (L.side*L.half+(L.count+1)) (Frm.entry L.gen e)).2=0):Lg.append D L e=((Slt.wrsy D (L.side*L.half+(L.count+1)) (Frm.entry L.gen e)).1,{ L with count:=L.count+1},0):=by
 unfold Lg.append;rw[hb,if_neg (by simp),if_pos h]
theorem Lg.append_code {D:Dsk.D} {L:Lg.L} {e:bC} (hb:L.broken=false) (h:(Slt.wrsy D (L.side*L.half+(L.count+1)) (Frm.entry L.gen e)).2≠0):Lg.append D L e=((Slt.wrsy D (L.side*L.half+(L.count+1)) (Frm.entry L.gen e)).1,{ L with broken:=true},(Slt.wrsy D (L.side*L.half+(L.count+1)) (Frm.entry L.gen e)).2):=by
 unfold Lg.append;rw[hb,if_neg (by simp),if_neg h,Lg.note_yes (by rcases Slt.wrsy_code D (L.side*L.half+(L.count+1)) (Frm.entry L.gen e) with h'|h'<;>omega)]
def zT (v:Value) (d l:Nat) (b:Dsk.B) (r:Dsk.D×Lg.L) (w:World) (e:Ending) (w':World):Prop:=
 e= .returned v∧∃b',Dk w' d b' r.1∧Lk w' l d r.2∧Stp (fun i=>b.F d i∨i=l) (fun i=>b'.F d i∨i=l) w w'
theorem sA (l d:Nat) (b:Dsk.B) (D:Dsk.D) (L:Lg.L) (e:bC) (w:World) (h:Dk w d b D) (hL:Lk w l d L) (hs:L.side=0∨L.side=1) (hh:L.half=D.sec.length / 2) (hbr:L.broken=false) (hc:L.count<Lg.room L) (hg:L.gen<4294967296) (ho:Frm.okE e) (hr:Frm.right e=true) (hN:D.n<900000):
 Calls Tryz.prog 123 #[.pointer (some ⟨l,0,none⟩),.agg (ev e)] w (zT (iF (Lg.append D L e).2.2) d l b ((Lg.append D L e).1,(Lg.append D L e).2.1) w):=by
 have hb:=Hb.new w (ev e) 73;have gr:=aG (aE w none) (.cells (ev e) 73);have hroom:=h.ok.room;unfold Lg.room at hc;have hp:=sS d b D (L.side*L.half) L.half (L.count+1) L.gen e;have HD:=aD (h.below (aB gr));have HL:=aD (Hb.only hL gr);have GR:=aD (Stp.of_only gr (fun i=>b.F d i∨i=l));have hes:=bP e;go_enter Tryz.func123,Tryz.ntmps123;go_upto_region 1 with fail;generalize w.alloc (.cells (ev e) 73)=W at*;obtain⟨⟨c0,c1,c2,c3,c4,c5,c6,c7,c8,c9⟩,_⟩:=Lk.cells HL.out;rw[hbr] at c9;have HE:=aD hb;have HH:=aD (aQ hs (aQ hh hbr));clear h hL gr hbr hb;obtain⟨be,hbe⟩:∃be,be=w.heap.size:=⟨_,rfl⟩;rw[←hbe] at HE ⊢;clear hbe;obtain⟨sd,hsd⟩:∃sd,sd=L.side:=⟨_,rfl⟩;obtain⟨n,hn⟩:∃n,n=L.half:=⟨_,rfl⟩;obtain⟨g,hg'⟩:∃g,g=L.gen:=⟨_,rfl⟩;obtain⟨k,hk⟩:∃k,k=L.count:=⟨_,rfl⟩;rw[←hsd] at c5 hs;rw[←hn] at c2 c3 c4 hh hc;rw[←hg'] at c7 hg;rw[←hk] at c8 hc;have HQ:=aD (aQ hsd (aQ hn (aQ hg' hk)));clear hsd hn hg' hk hp c6;have hk9:k+1<1000000:=by omega
 have HC:=aD (aQ hh hc);clear hh hc;go_upto_region 5 with fail;have hsd0:(0:Int)≤(sd:Int):=by omega
 have hsd1:(sd:Int)<2:=by omega
 have hsd2:sd<2:=by omega
 have hwk:IntKind.i64.wrap ((k:Int)+1)=(k:Int)+1:=by simp only[IntKind.wrap_i64];omega
 have HSL:=aD (show ∀j v,(eD (sd*n) n)[j]? =some v→W.cell? ((⟨l,1+sd*2,none⟩:Addr).add j)=some v by
  have h1:=Lk.slot HL.out HH.out.1 sd hs;rw[←HQ.out.2.1] at h1
  rw[Nat.add_comm];exact h1)
 have HEL:=aD (show ∀j v,(ev e)[j]? =some v→W.cell? ((⟨be,0,none⟩:Addr).add j)=some v from fun j v hj=>by rw[Addr.add_mid,Nat.zero_add];exact HE.out.cell hj);go_still_tail 23,(by kernel_rfl)
 repeat (first|(refine aY rfl _ _ rfl ⟨l,1+sd*2,none⟩ rfl _ _ HSL.out rfl rfl (by kernel_rfl) ?_)|(refine aY rfl _ _ rfl ⟨be,0,none⟩ rfl _ _ HEL.out rfl rfl (cI _) ?_)|still_step)
 try refine wpStill_nil ?_
 change wpList _ _ _ _ _ (W.drewN 1);have HD1:=aD (HD.out.below (aU (Below.refl _ W) 1));have HL1:Hid (Lk (W.drewN 1) l d L):=aD (show Lk (W.drewN 1) l d L from HL.out);have GR1:=aD (GR.out.trans (Stp.drew _ W 1));have hhn:L.half<1000000:=by rw[←HQ.out.2.1,HC.out.1];omega
 have hpn:L.count+1≤L.half - 1:=by rw[←HQ.out.2.1,←HQ.out.2.2.2];have:=HC.out.2;omega
 have hpos:L.side*L.half+(L.count+1)<D.sec.length:=by
  have h1:=HH.out.2.1;rcases HH.out.1 with h|h<;>rw[h]<;>omega
 have hp:=sS d b D (L.side*L.half) L.half (L.count+1) L.gen e (W.drewN 1) HD1.out hpos (by omega) hpn hhn (by rw[←HQ.out.2.2.1];exact hg) ho hr (by omega);rw[←HQ.out.1,←HQ.out.2.1,←HQ.out.2.2.1,←HQ.out.2.2.2] at hp;simp only[Int.natCast_add,Int.natCast_one] at hp;generalize W.drewN 1=W1 at*;clear c0 c1 c2 c3 c4 c5 c7 c8 c9 HSL HEL hhn hpn hpos;go_upto_region 6 with (go_at_call 191;refine hp.mono ?_;clear hp;rintro e3 w3 ⟨rfl,b3,dk3,st3⟩);have hal:=HD1.out.alien HL1.out (by decide) (by decide) (by decide) (by decide);have lk3:Lk w3 l d L:=Stp.hb st3 HL1.out hal.1;have ST3:=aD (GR1.out.trans (st3.widen (fun i=>i=l)));have hpe:Slt.wrsy D (sd*n+(k+1)) (Frm.entry g e)=Slt.wrsy D (L.side*L.half+(L.count+1)) (Frm.entry L.gen e):=by rw[HQ.out.1,HQ.out.2.1,HQ.out.2.2.1,HQ.out.2.2.2]
 rw[hpe] at dk3 ⊢;have hcd:=Slt.wrsy_code D (L.side*L.half+(L.count+1)) (Frm.entry L.gen e);have hl3:l<w3.heap.size:=Hb.lt lk3;clear hpe st3
 by_cases hc0:(Slt.wrsy D (L.side*L.half+(L.count+1)) (Frm.entry L.gen e)).2=0
 ·have hap:=aD (Lg.append_zero HH.out.2.2 hc0)
  rw[hc0,kU];have c8:=(Lk.cells lk3).1.2.2.2.2.2.2.2.2.1;rw[←HQ.out.2.2.2] at c8;have f8:=(Lk.cells lk3).2 8;have H:=aD (aQ dk3 lk3);clear hc0 hcd dk3 lk3;go_wp2_with fail;go_ret;unfold zT;rw[hap.out];have g4:=bA (aE w3 (some l)) 8 (.int .i64 ((k:Int)+1));have lk4:=Hb.set H.out.2 8 (.int .i64 ((k:Int)+1));refine⟨rfl,b3,H.out.1.grown H.out.2 (by decide) (by decide) (by decide) (by decide) g4,?_,ST3.out.trans (Stp.of_grown g4 (fun x hx=>by cases hx;exact .inl (.inr rfl)))⟩;rw[show((k:Int)+1)=((L.count+1:Nat):Int) by rw[HQ.out.2.2.2];rfl] at lk4 ⊢;exact lk4
 ·have hap:=aD (Lg.append_code HH.out.2.2 hc0)
  obtain⟨c,hcc⟩:∃c,c=(Slt.wrsy D (L.side*L.half+(L.count+1)) (Frm.entry L.gen e)).2:=⟨_,rfl⟩;rw[←hcc] at hc0 hcd ⊢;have hnt:=aFC l d L c w3 lk3 hc0 (by omega);have hny:=aD (Lg.note_yes (L:=L) (show c=11∨c=12 by omega));have he:=aD (eV c hc0);rw[eV c hc0] at hnt ⊢;have H:=aD (aQ dk3 (aQ lk3 hcc));clear hc0 hcd dk3 lk3 hcc;go_wp2_with (go_at_call 155;refine hnt.mono ?_;clear hnt;rintro e4 w4 ⟨rfl,lk4,g4⟩);go_ret;unfold zT;rw[hap.out];dsimp only;rw[hny.out] at lk4;refine⟨by rw[←H.out.2.2,he.out];rfl,b3,H.out.1.grown H.out.2.1 (by decide) (by decide) (by decide) (by decide) g4,lk4,ST3.out.trans (Stp.of_grown g4 (fun x hx=>by cases hx;exact .inl (.inr rfl)))⟩
end Go.Proofs.YtcoolgnlhheaiaaGreatDoor
