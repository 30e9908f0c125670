import Derived.Test.YtcoolgnlhheaiaaGreatDoorG16
namespace Go.Proofs.YtcoolgnlhheaiaaGreatDoor
open Go.RowKit Go.Deep
set_option linter.all false
set_option maxRecDepth 100000
set_option maxHeartbeats 8000000
theorem Own.sep {w:World} {base b:Nat} {v:Value} {l:List Nat} {cs:Array Value} {t:TypeId} (h:Own w base v l) (k:Hb w b cs t) (ht:t≠5):v.ownBlock≠some b:=by
 intro e;rcases h.2.2 with ⟨rfl,_⟩|⟨g,cap,cur,rfl,_,hg,_⟩
 ·cases e
 ·simp[Value.ownBlock] at e
  subst e;unfold Hb at k;rw[hg] at k;injection k with k
  injection k with _ k _
  exact ht k.symm
def aI7 (w:World) (bb base:Nat) (v:Value) (l:List Nat) (e:Ending) (w':World):Prop:=
 e= .returned (.tuple #[])∧(∃v',Hb w' bb #[v'] 39∧Own w' base v' l)∧w'.os=w.os∧w'.tape=w.tape∧w'.output=w.output∧w.heap.size≤w'.heap.size∧∀b,b<w.heap.size→b≠bb→v.ownBlock≠some b→w'.heap[b]? =w.heap[b]?
theorem wJ (k x bb base:Nat) (l:List Nat) (v:Value) (w:World) (hk1:1≤k) (hk8:k≤8) (hx:x<256 ^ k) (hc:Hb w bb #[v] 39) (ho:Own w base v l) (hbase:base≤w.heap.size) (hl:l.length≤100000):
 Calls Tryz.prog 180 #[.int .i64 (k:Int),.int .u64 (x:Int),.pointer (some ⟨bb,0,none⟩)] w (aI7 w bb base v (l++Wir.enc k x)):=by
 have e8:=dH k x ⟨hk1,hk8⟩ hx;have hel:=Wir.enc_length k x;obtain⟨va,vc,rfl⟩:=ho.form;go_enter Tryz.func180,Tryz.ntmps180;go_wp2_with fail;refine(dW k x _ hk1 hk8 hx).mono ?_;rintro e w1 ⟨hb1,ht⟩;rw[e8] at ht;rcases ht with ⟨hno,_⟩|⟨l1,u1,hl1,rfl,o1⟩
 ·cases hno
 cases hl1
 obtain⟨ua,uc,rfl⟩:=o1.form;have hc1:=hc.only (aC hb1 none);have ho1:=ho.below hb1;have hsep:=ho1.sep hc1 (by decide);have c0:=hc1.cell (i:=0) rfl;have OB:=aD (show Bs w1 (.slice ua k uc) (Wir.enc k x) by have:=o1.bs;rwa [hel] at this);clear e8;go_wp2_with (at_builtin;go_must (refine bW rfl _ _ rfl base (.slice va l.length vc) l rfl ho1 _ (Wir.enc k x) rfl OB.out (by rw[hel];omega) (Nat.le_trans hbase hb1.size) ?_;intro v2 w2 o2 g2;obtain⟨a2,q2,rfl⟩:=o2.form;have hc2:=hc1.keep g2 (fun e=>hsep e.symm);have d0:=hc2.cell (i:=0) rfl;have f0:=hc2.frozen 0));go_end0;have o2:Own w2 base (.slice a2 (l.length+k) q2) (l++Wir.enc k x):=by have:=o2;rwa [List.length_append,hel] at this
 have s2:=o2.sep hc2 (by decide);have g3:w2.grownBy (w2.setCell ⟨bb,0,none⟩ (.slice a2 (l.length+k) q2)) (some bb):=jF _;refine⟨rfl,⟨_,hc2.set 0 _,o2.only g3 (.inr s2)⟩,?_,?_,?_,?_,?_⟩
 ·exact g3.os.trans (g2.os.trans hb1.os)
 ·exact g3.tape.trans (g2.tape.trans hb1.tape)
 ·exact g3.output.trans (g2.output.trans hb1.output)
 ·exact Nat.le_trans hb1.size (Nat.le_trans g2.size g3.size)
 ·intro b hb hne hv
  have h1:=hb1.block b hb;have h2:=g2.block b (Nat.lt_of_lt_of_le hb hb1.size) (fun e=>hv e.symm);have h3:=g3.block b (Nat.lt_of_lt_of_le hb (Nat.le_trans hb1.size g2.size)) (fun e=>hne (by injection e));exact h3.trans (h2.trans h1)
theorem qV (W:World):(Instr.index 293 (.agg #[.int .i64 8,.int .i64 4,.int .i64 4]) (.int .i64 0)).run Tryz.prog W= .ok (.int .i64 8) W:=by kernel_rfl
theorem qG (W:World):(Instr.index 293 (.agg #[.int .i64 8,.int .i64 4,.int .i64 4]) (.int .i64 1)).run Tryz.prog W= .ok (.int .i64 4) W:=by kernel_rfl
theorem qZ (W:World):(Instr.index 293 (.agg #[.int .i64 8,.int .i64 4,.int .i64 4]) (.int .i64 2)).run Tryz.prog W= .ok (.int .i64 4) W:=by kernel_rfl
theorem qA (w:World):Calls Tryz.prog 182 #[] w fun e w'=>e= .returned (.agg #[.int .i64 8,.int .i64 4,.int .i64 4])∧w.grownBy w' none:=by
 have H:=Hb.new w #[.int .i64 8,.int .i64 4,.int .i64 4] 293;go_enter Tryz.func182,Tryz.ntmps182;go_wp2_with fail;refine bodyPost_ret (results_cell_row rfl _ _ w.heap.size _ _ (0,0) _ rfl H rfl rfl (by kernel_rfl)) rfl ?_;exact⟨rfl,aG (aE w none) _⟩
theorem i9 (k x bb base:Nat) (k':Int) (hkk:k'=(k:Int)) (l:List Nat) (v:Value) (w:World) (hk1:1≤k) (hk8:k≤8) (hx:x<256 ^ k) (hc:Hb w bb #[v] 39) (ho:Own w base v l) (hbase:base≤w.heap.size) (hl:l.length≤100000):
 Calls Tryz.prog 180 #[.int .i64 k',.int .u64 (x:Int),.pointer (some ⟨bb,0,none⟩)] w (aI7 w bb base v (l++Wir.enc k x)):=by
 subst hkk;exact wJ k x bb base l v w hk1 hk8 hx hc ho hbase hl
def Wst (w wr:World) (bb bf:Nat) (F:Array Value) (l:List Nat):Prop:=∃v,Hb wr bb #[v] 39∧Own wr w.heap.size v l∧Hb wr bf F 292∧w.grownBy wr none
theorem Wst.step {w wr w':World} {bb bf:Nat} {F:Array Value} {v:Value} {l l':List Nat} {e:Ending} (h1:Hb wr bb #[v] 39) (h2:Own wr w.heap.size v l) (h3:Hb wr bf F 292) (h4:w.grownBy wr none) (hb:w.heap.size≤bb) (h:aI7 wr bb w.heap.size v l' e w'):e= .returned (.tuple #[])∧Wst w w' bb bf F l':=by
 obtain⟨he,⟨v',k1,k2⟩,ho,ht,hu,hs,hf⟩:=h;have hne:bf≠bb:=by
  rintro rfl;unfold Hb at h1 h3;rw[h1] at h3;injection h3 with h3
  injection h3 with _ h3 _
  cases h3
 refine⟨he,v',k1,k2,(hf bf h3.lt hne (h2.sep h3 (by decide))).trans h3,ho.trans h4.os,ht.trans h4.tape,hu.trans h4.output,Nat.le_trans h4.size hs,fun i hi hn=>?_⟩;exact(hf i (Nat.lt_of_lt_of_le hi h4.size) (by omega) (fun e=>by have:=(h2.lt i e).1;omega)).trans (h4.block i hi hn)
theorem uB (r:ByteArray) (u:Value) (ss:List ByteArray) (t:Int) (m s:Nat) (w:World) (hr:r.size≤maxLen) (hm:m<4294967296) (hs:s<4294967296) (h:Ss w u ss):
 Calls Tryz.prog 116 #[.agg (au r u t m s)] w (eA (if Aut.valid (aut r ss t m s)=true then some (Aut.bytes (aut r ss t m s)) else none) w):=by
 have hsz:=au_size r u t m s;have T0:=Ab.new (W:=w) (t:=t) h hr hm hs;have G0:=aG (aE w none) (.cells (au r u t m s) 67);obtain⟨ua,uc,rfl⟩:=h.form;generalize hR:(if Aut.valid (aut r ss t m s)=true then some (Aut.bytes (aut r ss t m s)) else none)=R;have HR:=aD hR;clear h hR;go_enter Tryz.func116,Tryz.ntmps116;go_wp2_with (refine wpList_load_row rfl _ _ rfl w.heap.size rfl _ _ (0,0) _ T0.1 rfl rfl (bJ _ _ _ _ _) ?_);refine(uE r _ ss t m s _ hr T0.2.1).mono ?_;rintro x w1 ⟨rfl,g1⟩;have G1:=aF G0 g1;have T1:=T0.only g1;clear T0 G0 g1
 cases hv:Aut.valid (aut r ss t m s)
 ·have E1:=aD (show R=none by rw[←HR.out,hv];rfl)
  clear HR;go_wp2_with fail;go_ret2;exact⟨aB G1,.inl ⟨E1.out,rfl⟩⟩
 ·have E1:=aD (show R=some (Aut.bytes (aut r ss t m s)) by rw[←HR.out,if_pos hv])
  clear HR;obtain⟨v1,v2,v3,v4⟩:=(Aut.valid_iff _).1 hv;have hnl:=Nam.bytes_len v1;dsimp only[aut] at v1 v2 v3 v4 hnl;obtain⟨a,rfl⟩:=Int.eq_ofNat_of_zero_le v2;have hbt:Aut.bytes (aut r ss a m s)=((([2]++Nam.bytes (nm r ss))++Wir.enc 8 a)++Wir.enc 4 m)++Wir.enc 4 s:=by
   unfold Aut.bytes aut;simp
  rw[hbt] at E1;have HV1:=aD v1;clear hv hbt v1 v2;have c0:=T1.c0;have c1:=T1.c1;go_wp2_with fail;refine(xK r hr _ ss _ T1.2.1).mono ?_;rintro x w2 ⟨hb2,ht⟩;rw[if_pos HV1.out] at ht;rcases ht with ⟨hno,_⟩|⟨l0,u0,hl0,rfl,o0⟩
  ·cases hno
  cases hl0
  have G2:=aF G1 (aC hb2 none);have T2:=T1.only (aC hb2 none);clear c0 c1 T1 hb2;generalize Nam.bytes (nm r ss)=NB at*;obtain⟨x0,y0,rfl⟩:=o0.form;have O0:=aD o0.bs.rs;clear o0;have A1:Below w2.heap.size w2 (w2.alloc (.cells #[.int .u8 2] 5)):=(Below.refl _ _).alloc (Nat.le_refl _) _;have r1:Rs (w2.alloc (.cells #[.int .u8 2] 5)) (.slice (some ⟨w2.heap.size,0,none⟩) 1 1) [2]:=(bL w2 0 [2] (AllB.one (by decide)) (Nat.zero_le _) (by decide)).bs.rs;have HB:=jA r1 (O0.out.below A1);have F3:=aG (aG (aE w2 none) (.cells #[.int .u8 2] 5)) (.cells #[.slice (some ⟨w2.heap.size,0,none⟩) 1 1,.slice x0 NB.length y0] 39);rw[World.size_alloc] at HB;have hjl:(Wir.join [[2],NB]).length≤140737488355328:=by
   unfold Wir.join;simp only[List.flatten_cons,List.flatten_nil,List.length_append,List.length_cons,List.length_nil];omega
  go_wp2_with fail;refine(iW _ _ _ HB hjl).mono ?_;rintro x w3 ⟨v3,rfl,o3,hb3⟩;have hj2:Wir.join [[2],NB]=[2]++NB:=by unfold Wir.join;simp
  rw[hj2] at o3;obtain⟨x3,y3,rfl⟩:=o3.form;have F4:=aF F3 (aC hb3 none);have T3:=T2.only F4;have G3:=aF G2 F4;have O3:=o3.mono (base':=w.heap.size) (Nat.le_trans G2.size F3.size);clear T2 G2 F3 F4 HB A1 r1 hb3 hjl o3 O0 hj2;have hln:([2]++NB).length=NB.length+1:=by simp
  have HLN:=aD hln;clear hln;generalize [2]++NB=P0 at*;have c2:=T3.c2;have c3:=T3.c3;have c4:=T3.c4;have T4:=T3.alloc (.cells #[.slice x3 P0.length y3] 39);have d2:=T4.c2;have d3:=T4.c3;have d4:=T4.c4;have hwa:IntKind.u64.wrap (a:Int)=(a:Int):=by simp only[IntKind.wrap_u64];omega
  have hwm:IntKind.u64.wrap (m:Int)=(m:Int):=by simp only[IntKind.wrap_u64];omega
  have hws:IntKind.u64.wrap (s:Int)=(s:Int):=by simp only[IntKind.wrap_u64];omega
  have B5:=(Hb.new w3 #[.slice x3 P0.length y3] 39).alloc (.cells #[.int .u64 (a:Int),.int .u64 (m:Int),.int .u64 (s:Int)] 292);have F5:=Hb.new (w3.alloc (.cells #[.slice x3 P0.length y3] 39)) #[.int .u64 (a:Int),.int .u64 (m:Int),.int .u64 (s:Int)] 292;rw[World.size_alloc] at F5;have G5:=aG (aG G3 (.cells #[.slice x3 P0.length y3] 39)) (.cells #[.int .u64 (a:Int),.int .u64 (m:Int),.int .u64 (s:Int)] 292);have O5:=(O3.alloc (.cells #[.slice x3 P0.length y3] 39)).alloc (.cells #[.int .u64 (a:Int),.int .u64 (m:Int),.int .u64 (s:Int)] 292);have hbb:=G3.size;go_upto_region 7 with fail;generalize (w3.alloc (.cells #[.slice x3 P0.length y3] 39)).alloc (.cells #[.int .u64 (a:Int),.int .u64 (m:Int),.int .u64 (s:Int)] 292)=W5 at*;clear c2 c3 c4 d2 d3 d4 hwa hwm hws T3 T4 O3 G3;generalize hbn:w3.heap.size=bb at*;clear hbn;go_wp2_with fail;refine(qA W5).mono ?_;rintro x w6 ⟨rfl,g6⟩;have B6:=B5.only g6;have F6:=F5.only g6;have G6:=aF G5 g6;have O6:=O5.below (aB g6);have W6:=aD (show Wst w w6 bb (bb+1) #[.int .u64 (a:Int),.int .u64 (m:Int),.int .u64 (s:Int)] P0 from ⟨_,B6,O6,F6,G6⟩);clear B5 F5 G5 O5 B6 F6 G6 O6 g6;obtain⟨bf,hbf⟩:∃x,x=bb+1:=⟨_,rfl⟩;rw[←hbf] at W6 ⊢;clear hbf;have q1:=Wir.enc_length 8 a;have q2:=Wir.enc_length 4 m;have q3:=Wir.enc_length 4 s;have Q1:=aD q1;have Q2:=aD q2;have Q3:=aD q3;clear q1 q2 q3;go_wp2_with fail
  go_loopw [36] (fun x wr=>∃(j:Int) (l:List Nat),x= .int .i64 j∧((j=0∧l=P0)∨(j=1∧l=P0++Wir.enc 8 a)∨(j=2∧l=(P0++Wir.enc 8 a)++Wir.enc 4 m)∨(j=3∧l=((P0++Wir.enc 8 a)++Wir.enc 4 m)++Wir.enc 4 s))∧Wst w wr bb bf #[.int .u64 (a:Int),.int .u64 (m:Int),.int .u64 (s:Int)] l) (fun x _=>4 - (intOf x).toNat)
  case atStart=>exact⟨0,_,rfl,.inl ⟨rfl,rfl⟩,W6.out⟩
  case round=>
   obtain⟨j,l,rfl,hj,v,hB,hO,hF,hG⟩:=hrel;clear W6;have c0:=hF.cell (i:=0) rfl;have c1:=hF.cell (i:=1) rfl;have c2:=hF.cell (i:=2) rfl;rcases hj with ⟨rfl,rfl⟩|⟨rfl,rfl⟩|⟨rfl,rfl⟩|⟨rfl,rfl⟩
   ·have hix:=qV
    go_wp2_with (go_at_call 180;go_must (refine(i9 8 a bb w.heap.size 8 rfl _ v wr (by omega) (by omega) (by omega) hB hO hG.size (by have:=HLN.out;omega)).mono ?_;intro e w7 hw7;obtain⟨rfl,S7⟩:=Wst.step hB hO hF hG hbb hw7));go_roundw
    case rel=>exact⟨1,_,by go_num,.inr (.inl ⟨rfl,rfl⟩),S7⟩
    case measure=>decide
   ·have hix:=qG
    go_wp2_with (go_at_call 180;go_must (refine(i9 4 m bb w.heap.size 4 rfl _ v wr (by omega) (by omega) (by omega) hB hO hG.size (by have:=HLN.out;have:=Q1.out;rw[List.length_append];omega)).mono ?_;intro e w7 hw7;obtain⟨rfl,S7⟩:=Wst.step hB hO hF hG hbb hw7));go_roundw
    case rel=>exact⟨2,_,by go_num,.inr (.inr (.inl ⟨rfl,rfl⟩)),S7⟩
    case measure=>decide
   ·have hix:=qZ
    go_wp2_with (go_at_call 180;go_must (refine(i9 4 s bb w.heap.size 4 rfl _ v wr (by omega) (by omega) (by omega) hB hO hG.size (by have:=HLN.out;have:=Q1.out;have:=Q2.out;rw[List.length_append,List.length_append];omega)).mono ?_;intro e w7 hw7;obtain⟨rfl,S7⟩:=Wst.step hB hO hF hG hbb hw7));go_roundw
    case rel=>exact⟨3,_,by go_num,.inr (.inr (.inr ⟨rfl,rfl⟩)),S7⟩
    case measure=>decide
   ·generalize ((P0++Wir.enc 8 a)++Wir.enc 4 m)++Wir.enc 4 s=L at*
    obtain⟨va,vc,rfl⟩:=hO.form;have b0:=hB.cell (i:=0) rfl;have OO:=aD hO;clear hO;go_wp2_with fail
    try simp only[Exit.inBlock,Exit.then,Exit.noGoto_ret]
    go_ret2;exact⟨aB hG,.inr ⟨_,_,E1.out,rfl,OO.out⟩⟩
end Go.Proofs.YtcoolgnlhheaiaaGreatDoor
