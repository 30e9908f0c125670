import Derived.Test.YtcoolgnlhheaiaaGreatDoorG17
namespace Go.Proofs.YtcoolgnlhheaiaaGreatDoor
open Go.RowKit Go.Deep
set_option linter.all false
set_option maxRecDepth 100000
set_option maxHeartbeats 8000000
def iL:Aut.A:=aut ⟨#[]⟩ [] 0 0 0
theorem au0:(#[.string ⟨#[]⟩,.slice none 0 0,.int .i64 0,.int .u32 0,.int .u32 0]:Array Value)=au ⟨#[]⟩ (.slice none 0 0) 0 0 0:=rfl
def aF3 (w:World) (o:Option Aut.A) (e:Ending) (w':World):Prop:=
 Below w.heap.size w w'∧∃r u ss t m s,e= .returned (.tuple #[.agg (au r u t m s),.bool o.isSome])∧OwnS w' w.heap.size u ss∧r.size≤maxLen∧m<4294967296∧s<4294967296∧aut r ss t m s=o.getD iL
theorem eS {w w':World} {e:Ending} (h:Below w.heap.size w w') (he:e= .returned (.tuple #[.agg (au ⟨#[]⟩ (.slice none 0 0) 0 0 0),.bool false])):aF3 w none e w':=
 ⟨h,⟨#[]⟩,.slice none 0 0,[],0,0,0,he,OwnS.nil _ _,Nat.zero_le _,by omega,by omega,rfl⟩
theorem Aut.parse_not2 {l:List Nat} (h:(Wir.num ⟨l,false⟩ 1).2≠2):Aut.parse l=none:=by
 unfold Aut.parse;rw[if_pos h]
theorem Aut.parse_noname {l:List Nat} (h2:(Nam.refRead (Wir.num ⟨l,false⟩ 1).1).2=none):Aut.parse l=none:=by
 unfold Aut.parse;split
 ·rfl
 ·rw[h2]
theorem Aut.parse_name {l:List Nat} {n:Nam.N} (h:(Wir.num ⟨l,false⟩ 1).2=2) (h2:(Nam.refRead (Wir.num ⟨l,false⟩ 1).1).2=some n):
 Aut.parse l=if ((Wir.num (Wir.num (Wir.num (Nam.refRead (Wir.num ⟨l,false⟩ 1).1).1 8).1 4).1 4).1.bad=true∨(Wir.num (Wir.num (Wir.num (Nam.refRead (Wir.num ⟨l,false⟩ 1).1).1 8).1 4).1 4).1.l.length≠0)∨1099511627776<(Wir.num (Nam.refRead (Wir.num ⟨l,false⟩ 1).1).1 8).2∨999999<(Wir.num (Wir.num (Nam.refRead (Wir.num ⟨l,false⟩ 1).1).1 8).1 4).2 then none
  else some ⟨n,(Wir.num (Nam.refRead (Wir.num ⟨l,false⟩ 1).1).1 8).2,(Wir.num (Wir.num (Nam.refRead (Wir.num ⟨l,false⟩ 1).1).1 8).1 4).2,(Wir.num (Wir.num (Wir.num (Nam.refRead (Wir.num ⟨l,false⟩ 1).1).1 8).1 4).1 4).2⟩:=by
 unfold Aut.parse;rw[if_neg (by omega),h2]
theorem Rd.all {w:World} {p:Nat} {r:Wir.R} (h:Rd w p r):∀x,x∈r.l→x<256:=by obtain⟨_,_,h,_⟩:=h;exact h.all
def Pst (w wr:World) (p bf bn B2:Nat) (q:ByteArray) (v:Value) (ss:List ByteArray) (F:Array Value) (rd:Wir.R):Prop:=
 Rd wr p rd∧Hb wr bf F 292∧Hb wr w.heap.size (au ⟨#[]⟩ (.slice none 0 0) 0 0 0) 67∧Hb wr bn #[.string q,v] 63∧OwnS wr B2 v ss∧w.grownBy wr none
theorem Rd.only' {w:World} {p bf:Nat} {r:Wir.R} (h:Rd w p r) (hf:p<bf) (i:Nat) (x:Value):Rd (w.setCell ⟨bf,i,none⟩ x) p r:=by
 obtain⟨v,h1,h2,h3⟩:=h
 exact⟨v,(Below.heap_setCell w ⟨bf,i,none⟩ x p (by show p≠bf;omega)).trans h1,h2.only (jF (p:=⟨bf,i,none⟩) x) (by
  cases hv:v.ownBlock with
  |none=>exact .inl rfl
  |some g=>exact .inr (fun e=>by have:=(h3 g hv).1;cases e;exact absurd this (by show ¬bf<p;omega))),fun b e=>⟨(h3 b e).1,(h3 b e).2.of_block (Below.heap_setCell w ⟨bf,i,none⟩ x b (by have:=(h3 b e).1;show b≠bf;omega))⟩⟩
theorem Pst.step {w wr w':World} {p bf bn B2:Nat} {q:ByteArray} {v:Value} {ss:List ByteArray} {F:Array Value} {rd rd':Wir.R} (h:Pst w wr p bf bn B2 q v ss F rd) (hw:w.heap.size<p) (hp:p<B2) (hne:p≠bn) (hf1:p<bf) (hf2:bn<bf) (hown:∀g,v.ownBlock=some g→g<bf) (k:Rd w' p rd') (g:wr.grownBy w' (some p)) (i:Nat) (x:Value):
 Pst w (w'.setCell ⟨bf,i,none⟩ x) p bf bn B2 q v ss (F.setIfInBounds i x) rd':=by
 obtain⟨h1,h2,h3,h4,h5,h6⟩:=h;have k1:=h2.keep g (by intro e;cases e;omega);have k2:=h3.keep g (by intro e;cases e;omega);have k3:=h4.keep g (by intro e;cases e;omega);have k4:=h5.only g (.inr (fun e=>by have:=(h5.lt _ e).1;omega));have k5:=aO h6 g (Nat.le_of_lt hw);refine⟨?_,k1.set i x,k2.far (p:=⟨bf,i,none⟩) (by show w.heap.size≠bf;omega) x,k3.far (p:=⟨bf,i,none⟩) (by show bn≠bf;omega) x,k4.only (jF x) (.inr (fun e=>by have:=hown _ e;exact Nat.lt_irrefl _ this)),dU k5 (by show w.heap.size≤bf;omega) x⟩;exact k.only' hf1 i x
theorem uV (v:Value) (l:List Nat) (w:World) (h:Rs w v l) (hb:l.length≤140737488355328):
 Calls Tryz.prog 169 #[v] w (aF3 w (Aut.parse l)):=by
 have Z0:=Hb.new w (au ⟨#[]⟩ (.slice none 0 0) 0 0 0) 67;have G0:=aG (aE w none) (.cells (au ⟨#[]⟩ (.slice none 0 0) 0 0 0) 67);have H:=aD (h.below (aB G0));clear h;obtain⟨a,cap,rfl⟩:=H.out.form;generalize hR:Aut.parse l=R;have HR:=aD hR;clear hR;go_enter Tryz.func169,Tryz.ntmps169;go_upto_region 1 with fail;rw[au0];generalize w.alloc (.cells (au ⟨#[]⟩ (.slice none 0 0) 0 0 0) 67)=V0 at*;go_wp2_with fail;refine(jO _ l V0 H.out hb).mono ?_;rintro e w1 ⟨p,rfl,hp,rd,hb1⟩;have Z1:=Z0.only (aC hb1 none);have G1:=aF G0 (aC hb1 none);have hpw:=Nat.le_trans G0.size hp;have hzp:=Nat.lt_of_lt_of_le Z0.lt hp;clear Z0 G0 hp hb1;go_wp2_with fail;refine(cH p ⟨l,false⟩ 1 w1 rd).mono ?_;rintro e w2 ⟨rfl,rd2,hg2⟩;have G2:=aO G1 hg2 hpw;have Z2:=Z1.keep hg2 (by intro e;cases e;omega);clear Z1 G1 hg2 rd
 by_cases h1:(Wir.num ⟨l,false⟩ 1).2=2
 ·have hl1:(Wir.num ⟨l,false⟩ 1).1.l.length≤l.length:=eZ _ _
  have HN:=aD (fun h2=>(Aut.parse_noname (l:=l) h2).symm.trans HR.out);have HS:=aD (fun n h2=>(Aut.parse_name (l:=l) (n:=n) h1 h2).symm.trans HR.out);rw[h1];clear HR h1;generalize (Wir.num ⟨l,false⟩ 1).1=r1 at*;go_wp2_with fail;refine(pX p r1 w2 rd2 (by omega)).mono ?_;rintro e w3 ⟨hg3,⟨v3,ss3,q3,rfl,o3,hq3,hn3⟩,rd3⟩;have G3:=aO G2 hg3 hpw;have Z3:=Z2.keep hg3 (by intro e;cases e;omega);have O3:=o3;have hp2:=rd2.lt;have hw2:=G2.size;obtain⟨va3,vc3,rfl⟩:=o3.ss.form;have F:=aQ (Hb.new w3 #[.string q3,.slice va3 ss3.length vc3] 63) (aG (aE w3 none) (.cells #[.string q3,.slice va3 ss3.length vc3] 63));clear Z2 G2 hg3 rd2 o3;generalize w2.heap.size=B2 at*
  cases hr:(Nam.refRead r1).2 with
  |none=>
   have E1:=aD (show R=none from (HN.out hr).symm);have Z4:=Z3.only F.2;have G4:=aF G3 F.2;rw[hr] at hn3;clear HN HS hr rd3 O3 Z3 G3;go_upto_region 6 with fail;generalize w3.alloc (.cells #[.string q3,.slice va3 ss3.length vc3] 63)=V at*;clear F;go_wp2_with (first|refine wpList_buildTo rfl 67 _ rfl _ rfl (au ⟨#[]⟩ (.slice none 0 0) 0 0 0) (by kernel_rfl) ?_|refine wpList_store_rowTo rfl _ _ _ rfl rfl w.heap.size _ rfl rfl _ _ Z4 (bJ _ _ _ _ _) (by simp only[au_size]) (cY _ _ _ _ _ rfl) ?_)
   all_goals first|omega|skip
   try simp only[Exit.inBlock,Exit.then,Exit.noGoto_ret]
   refine bodyPost_ret (aV rfl _ _ w.heap.size _ _ (0,0) _ rfl (Z4.row _).1 rfl rfl (bJ _ _ _ _ _)) rfl ?_;rw[E1.out];exact eS (bR _ Z4 G4 (Nat.le_refl _)) rfl
  |some n=>
   have HS:=aD (HS.out n hr);have rd3:=rd3 (by rw[hr];rfl);rw[hr] at hn3;have hn3:nm q3 ss3=n:=hn3;have hn4:p≠w3.heap.size:=Nat.ne_of_lt rd3.lt;have hp3:=rd3.lt;have A4:=aF F.2 (aG (aE _ none) (.cells #[.int .u64 0,.int .u64 0,.int .u64 0] 292));have F4:=Hb.new (w3.alloc (.cells #[.string q3,.slice va3 ss3.length vc3] 63)) #[.int .u64 0,.int .u64 0,.int .u64 0] 292;rw[World.size_alloc] at F4;have rd4:=rd3.below (aB A4);have Z4:=Z3.only A4;have G4:=aF G3 A4;have N4:=F.1.alloc (.cells #[.int .u64 0,.int .u64 0,.int .u64 0] 292);have O4:=O3.below (aB A4);have hown:∀g,(Value.slice va3 ss3.length vc3).ownBlock=some g→g<w3.heap.size+1:=fun g e=>by have:=(O3.lt g e).2;omega
   have HOWN:=aD hown;clear HN hr rd3 O3 Z3 G3 F A4 hown;generalize (Nam.refRead r1).1=r2 at*;go_upto_region 8 with fail;generalize (w3.alloc (.cells #[.string q3,.slice va3 ss3.length vc3] 63)).alloc (.cells #[.int .u64 0,.int .u64 0,.int .u64 0] 292)=V at*;obtain⟨bf,hbf⟩:∃x,x=w3.heap.size+1:=⟨_,rfl⟩;rw[←hbf] at F4 HOWN ⊢;have hf2:w3.heap.size<bf:=by omega
   have hf1:p<bf:=by omega
   clear hbf;generalize hbn:w3.heap.size=bn at*;clear hbn;go_wp2_with fail;refine(qA V).mono ?_;rintro e w5 ⟨rfl,g5⟩;have ST5:=aD (show Pst w w5 p bf bn B2 q3 (.slice va3 ss3.length vc3) ss3 #[.int .u64 0,.int .u64 0,.int .u64 0] r2 from ⟨rd4.below (aB g5),F4.only g5,Z4.only g5,N4.only g5,O4.below (aB g5),aF G4 g5⟩);clear rd4 F4 Z4 N4 O4 G4 g5 hl1;generalize hX:Wir.num r2 8=X at HS;generalize hY:Wir.num X.1 4=Y at HS;generalize hZ:Wir.num Y.1 4=Zn at HS;have HX:=aD hX;have HY:=aD hY;have HZ:=aD hZ;clear hX hY hZ;go_wp2_with fail
   go_loopw [25] (fun x wr=>∃(j:Int) (F:Array Value) (rd:Wir.R),x= .int .i64 j∧((j=0∧F=#[.int .u64 0,.int .u64 0,.int .u64 0]∧rd=r2)∨(j=1∧F=#[.int .u64 (X.2:Int),.int .u64 0,.int .u64 0]∧rd=X.1)∨(j=2∧F=#[.int .u64 (X.2:Int),.int .u64 (Y.2:Int),.int .u64 0]∧rd=Y.1)∨(j=3∧F=#[.int .u64 (X.2:Int),.int .u64 (Y.2:Int),.int .u64 (Zn.2:Int)]∧rd=Zn.1∧Zn.2<4294967296))∧Pst w wr p bf bn B2 q3 (.slice va3 ss3.length vc3) ss3 F rd) (fun x _=>4 - (intOf x).toNat)
   case atStart=>exact⟨0,_,_,rfl,.inl ⟨rfl,rfl,rfl⟩,ST5.out⟩
   case round=>
    obtain⟨j,F,rd,rfl,hj,st⟩:=hrel;clear ST5;have ST:=aD st;have hF:=st.2.1;have hrd:=st.1;clear st;rcases hj with ⟨rfl,rfl,rfl⟩|⟨rfl,rfl,rfl⟩|⟨rfl,rfl,rfl⟩|⟨rfl,rfl,rfl,hz⟩
    ·have hix:=qV
     go_wp2_with (go_at_call 164;refine(cH p rd 8 wr hrd).mono ?_);rintro e w6 ⟨rfl,rd6,g6⟩;have hs:=Pst.step ST.out hzp hp2 hn4 hf1 hf2 HOWN.out rd6 g6 0 (.int .u64 (X.2:Int));have hF6:=hF.keep g6 (by intro e;cases e;omega);have c0:=hF6.cell (i:=0) rfl;have f0:=hF6.frozen 0;rw[HX.out] at hs ⊢;go_wp2_with fail;go_roundw
     case rel=>exact⟨1,_,_,by go_num,.inr (.inl ⟨rfl,rfl,rfl⟩),hs⟩
     case measure=>decide
    ·have hix:=qG
     go_wp2_with (go_at_call 164;refine(cH p X.1 4 wr hrd).mono ?_);rintro e w6 ⟨rfl,rd6,g6⟩;have hs:=Pst.step ST.out hzp hp2 hn4 hf1 hf2 HOWN.out rd6 g6 1 (.int .u64 (Y.2:Int));have hF6:=hF.keep g6 (by intro e;cases e;omega);have c0:=hF6.cell (i:=1) rfl;have f0:=hF6.frozen 1;rw[HY.out] at hs ⊢;go_wp2_with fail;go_roundw
     case rel=>exact⟨2,_,_,by go_num,.inr (.inr (.inl ⟨rfl,rfl,rfl⟩)),hs⟩
     case measure=>decide
    ·have hix:=qZ
     have hlt:=Wir.num_lt (r:=Y.1) (k:=4) (by omega) hrd.all;have e4:((4:Nat):Int)=4:=rfl;rw[e4,HZ.out] at hlt;have HLT:=aD (show Zn.2<4294967296 by omega);clear hlt e4;go_wp2_with (go_at_call 164;refine(cH p Y.1 4 wr hrd).mono ?_);rintro e w6 ⟨rfl,rd6,g6⟩;have hs:=Pst.step ST.out hzp hp2 hn4 hf1 hf2 HOWN.out rd6 g6 2 (.int .u64 (Zn.2:Int));have hF6:=hF.keep g6 (by intro e;cases e;omega);have c0:=hF6.cell (i:=2) rfl;have f0:=hF6.frozen 2;rw[HZ.out] at hs ⊢;go_wp2_with fail;go_roundw
     case rel=>exact⟨3,_,_,by go_num,.inr (.inr (.inr ⟨rfl,rfl,rfl,HLT.out⟩)),hs⟩
     case measure=>decide
    ·obtain⟨xr,x⟩:=X
     obtain⟨yr,y⟩:=Y;obtain⟨kb,z⟩:=Zn;dsimp only at HS hz hF hrd ST ⊢;have f0:=hF.cell (i:=0) rfl;have f1:=hF.cell (i:=1) rfl;have f2:=hF.cell (i:=2) rfl;obtain⟨_,_,ZZ,NN,OO,GG⟩:=ST.out;have rd:=hrd;clear ST hF hrd HX HY HZ;generalize hD:(!kb.bad&&kb.l.length==0)=D
     cases D
     ·have hbad:kb.bad=true∨kb.l.length≠0:=by
       cases hk:kb.bad
       ·right;intro h0;rw[hk,h0] at hD;cases hD
       ·left;rfl
      have E1:=aD (show R=none by rw[←HS.out,if_pos (.inl hbad)]);clear HS hbad;go_upto_region 14 with (go_at_call 166;refine(dO p kb wr rd).mono ?_;rintro e w8 ⟨rfl,rfl⟩;rw[hD])
      all_goals first|omega|skip
      go_wp2_with (first|refine wpList_buildTo rfl 67 _ rfl _ rfl (au ⟨#[]⟩ (.slice none 0 0) 0 0 0) (by kernel_rfl) ?_|refine wpList_store_rowTo rfl _ _ _ rfl rfl w.heap.size _ rfl rfl _ _ ZZ (bJ _ _ _ _ _) (by simp only[au_size]) (cY _ _ _ _ _ rfl) ?_)
      all_goals first|omega|skip
      try simp only[Exit.inBlock,Exit.then,Exit.noGoto_ret]
      refine bodyPost_ret (aV rfl _ _ w.heap.size _ _ (0,0) _ rfl (ZZ.row _).1 rfl rfl (bJ _ _ _ _ _)) rfl ?_;rw[E1.out];exact eS (bR _ ZZ GG (Nat.le_refl _)) rfl
     ·have hkb:kb.bad=false∧kb.l.length=0:=by
       cases hk:kb.bad
       ·rw[hk] at hD;exact⟨rfl,by simpa using hD⟩
       ·rw[hk] at hD;cases hD
      have HKB:=aD hkb;clear hkb
      by_cases hx:1099511627776<x
      ·have E1:=aD (show R=none by rw[←HS.out,if_pos (.inr (.inl hx))])
       clear HS;go_upto_region 14 with (go_at_call 166;refine(dO p kb wr rd).mono ?_;rintro e w8 ⟨rfl,rfl⟩;rw[hD])
       all_goals first|omega|skip
       go_wp2_with (first|refine wpList_buildTo rfl 67 _ rfl _ rfl (au ⟨#[]⟩ (.slice none 0 0) 0 0 0) (by kernel_rfl) ?_|refine wpList_store_rowTo rfl _ _ _ rfl rfl w.heap.size _ rfl rfl _ _ ZZ (bJ _ _ _ _ _) (by simp only[au_size]) (cY _ _ _ _ _ rfl) ?_)
       all_goals first|omega|skip
       try simp only[Exit.inBlock,Exit.then,Exit.noGoto_ret]
       refine bodyPost_ret (aV rfl _ _ w.heap.size _ _ (0,0) _ rfl (ZZ.row _).1 rfl rfl (bJ _ _ _ _ _)) rfl ?_;rw[E1.out];exact eS (bR _ ZZ GG (Nat.le_refl _)) rfl
      by_cases hy:999999<y
      ·have E1:=aD (show R=none by rw[←HS.out,if_pos (.inr (.inr hy))])
       clear HS;go_upto_region 14 with (go_at_call 166;refine(dO p kb wr rd).mono ?_;rintro e w8 ⟨rfl,rfl⟩;rw[hD])
       all_goals first|omega|skip
       go_wp2_with (first|refine wpList_buildTo rfl 67 _ rfl _ rfl (au ⟨#[]⟩ (.slice none 0 0) 0 0 0) (by kernel_rfl) ?_|refine wpList_store_rowTo rfl _ _ _ rfl rfl w.heap.size _ rfl rfl _ _ ZZ (bJ _ _ _ _ _) (by simp only[au_size]) (cY _ _ _ _ _ rfl) ?_)
       all_goals first|omega|skip
       try simp only[Exit.inBlock,Exit.then,Exit.noGoto_ret]
       refine bodyPost_ret (aV rfl _ _ w.heap.size _ _ (0,0) _ rfl (ZZ.row _).1 rfl rfl (bJ _ _ _ _ _)) rfl ?_;rw[E1.out];exact eS (bR _ ZZ GG (Nat.le_refl _)) rfl
      have E1:=aD (show R=some ⟨n,x,y,z⟩ by
       rw[←HS.out,if_neg];rintro((h|h)|h|h)
       ·rw[HKB.out.1] at h;cases h
       ·exact h HKB.out.2
       ·exact hx h
       ·exact hy h)
      clear HS;have hwx:IntKind.i64.wrap (x:Int)=(x:Int):=by simp only[IntKind.wrap_i64];omega
      have hwy:IntKind.u32.wrap (y:Int)=(y:Int):=by simp only[IntKind.wrap_u32];omega
      have hwz:IntKind.u32.wrap (z:Int)=(z:Int):=by simp only[IntKind.wrap_u32];omega
      have n0:=NN.cell (i:=0) rfl;have n1:=NN.cell (i:=1) rfl;go_upto_region 15 with (go_at_call 166;refine(dO p kb wr rd).mono ?_;rintro e w8 ⟨rfl,rfl⟩;rw[hD])
      all_goals first|omega|skip
      go_wp2_with (first|refine wpList_buildTo rfl 67 _ rfl _ rfl (au q3 (.slice va3 ss3.length vc3) x y z) (by kernel_rfl) ?_|refine wpList_store_rowTo rfl _ _ _ rfl rfl w.heap.size _ rfl rfl _ _ ZZ (bJ _ _ _ _ _) (by simp only[au_size]) (cY _ _ _ _ _ rfl) ?_)
      all_goals first|omega|skip
      try simp only[Exit.inBlock,Exit.then,Exit.noGoto_ret]
      refine bodyPost_ret (aV rfl _ _ w.heap.size _ _ (0,0) _ rfl (ZZ.row _).1 rfl rfl (bJ _ _ _ _ _)) rfl ?_;rw[E1.out];refine⟨bR _ ZZ GG (Nat.le_refl _),q3,_,ss3,x,y,z,rfl,?_,hq3,by omega,hz,?_⟩
      ·exact(OO.only (ZZ.row _).2 (.inr (fun e=>by have:=(OO.lt _ e).1;omega))).mono hw2
      ·show aut q3 ss3 x y z=_
       unfold aut;rw[hn3];rfl
 ·have E1:=aD (show R=none by rw[←HR.out];exact Aut.parse_not2 h1)
  have hne:(((Wir.num ⟨l,false⟩ 1).2:Int)!=2)=true:=by rw[bne_iff_ne];omega
  generalize (Wir.num ⟨l,false⟩ 1).2=x1 at*;go_wp2_with (first|refine wpList_buildTo rfl 67 _ rfl _ rfl (au ⟨#[]⟩ (.slice none 0 0) 0 0 0) (by kernel_rfl) ?_|refine wpList_store_rowTo rfl _ _ _ rfl rfl w.heap.size _ rfl rfl _ _ Z2 (bJ _ _ _ _ _) (by simp only[au_size]) (cY _ _ _ _ _ rfl) ?_)
  all_goals first|omega|skip
  try simp only[Exit.inBlock,Exit.then,Exit.noGoto_ret]
  refine bodyPost_ret (aV rfl _ _ w.heap.size _ _ (0,0) _ rfl (Z2.row _).1 rfl rfl (bJ _ _ _ _ _)) rfl ?_;rw[E1.out];exact eS (bR _ Z2 G2 (Nat.le_refl _)) rfl
set_option linter.all false
def Aut.opn (key:Nat→Nat) (s:List Nat):Aut.A×Int:=match Sea.op key 11 s with
 |none=>(iL,2)
 |some b=>match Aut.parse b with
  |none=>(iL,1)
  |some t=>(t,0)
theorem Aut.opn_yes {key:Nat→Nat} {s b:List Nat} {t:Aut.A} (h:Sea.op key 11 s=some b) (h2:Aut.parse b=some t):Aut.opn key s=(t,0):=by unfold Aut.opn;rw[h];dsimp only;rw[h2]
def zX (w:World) (o:Aut.A×Int) (e:Ending) (w':World):Prop:=
 Below w.heap.size w w'∧∃r u ss t m s,e= .returned (.tuple #[.agg (au r u t m s),.int .i64 o.2])∧OwnS w' w.heap.size u ss∧r.size≤maxLen∧m<4294967296∧s<4294967296∧aut r ss t m s=o.1
theorem kH {w w':World} {e:Ending} {c:Int} (h:Below w.heap.size w w') (he:e= .returned (.tuple #[.agg (au ⟨#[]⟩ (.slice none 0 0) 0 0 0),.int .i64 c])):zX w (iL,c) e w':=
 ⟨h,⟨#[]⟩,.slice none 0 0,[],0,0,0,he,OwnS.nil _ _,Nat.zero_le _,by omega,by omega,rfl⟩
def Aut.digI (a:Aut.A):Nat→Nat:=if Aut.valid a=true then Sha.dig (Aut.bytes a) else fun _=>0
theorem mT (f:Nat→Nat):((Tryz.prog).info? 36).map (·.size)=some (aH .u8 32 f).size:=by rw[aA];kernel_rfl
theorem kX (r:ByteArray) (u:Value) (ss:List ByteArray) (t:Int) (m s:Nat) (w:World) (hr:r.size≤maxLen) (hm:m<4294967296) (hs:s<4294967296) (h:Ss w u ss) (hK:Consts w Sha.tab):
 Calls Tryz.prog 79 #[.agg (au r u t m s)] w fun e w'=>e= .returned (.tuple #[.agg (aH .u8 32 (Aut.digI (aut r ss t m s))),.bool (Aut.valid (aut r ss t m s))])∧Below w.heap.size w w':=by
 have HK:=aD hK;clear hK;have hsz:=au_size r u t m s;have hs32:=aA .u8 32 (fun _=>0);have t0:=(Hb.new w (au r u t m s) 67).alloc (.cells (aH .u8 32 (fun _=>0)) 36);have d0:=Hb.new (w.alloc (.cells (au r u t m s) 67)) (aH .u8 32 (fun _=>0)) 36;simp only[World.size_alloc] at d0;have G0:=aG (aG (aE w none) (.cells (au r u t m s) 67)) (.cells (aH .u8 32 (fun _=>0)) 36);have H:=aD (h.only G0);obtain⟨ua,uc,rfl⟩:=h.form;clear h;generalize hD:Aut.digI (aut r ss t m s)=D;generalize hW:Aut.valid (aut r ss t m s)=vv;have HD:=aD hD;have HW:=aD hW;clear hD hW;go_enter Tryz.func79,Tryz.ntmps79;go_upto_region 1 with fail;rw[aAO];generalize (w.alloc (.cells (au r (.slice ua ss.length uc) t m s) 67)).alloc (.cells (aH .u8 32 (fun _=>0)) 36)=V at*;obtain⟨zb,hzb⟩:∃z,z=w.heap.size+1:=⟨_,rfl⟩;rw[←hzb] at d0 ⊢;have hz:w.heap.size≤zb:=by omega
 clear hzb;go_wp2_with (refine wpList_load_row rfl _ _ rfl w.heap.size rfl _ _ (0,0) _ t0 rfl rfl (bJ _ _ _ _ _) ?_);refine(uB r _ ss t m s V hr hm hs H.out).mono ?_;rintro x w1 ⟨hb1,hp⟩;have G1:=aF G0 (aC hb1 none);have d1:=d0.only (aC hb1 none);clear t0 d0 G0 hb1 H
 cases hv:Aut.valid (aut r ss t m s)
 ·have hD:D=fun _=>0:=by rw[←HD.out];unfold Aut.digI;rw[hv];rfl
  have hW:vv=false:=by rw[←HW.out,hv]
  subst hD hW;rw[hv] at hp;rcases hp with ⟨_,rfl⟩|⟨l,v,hno,_⟩
  rotate_left
  ·cases hno
  go_wp2_with (first|refine wpList_buildTo rfl 36 _ rfl _ rfl (aH .u8 32 (fun _=>0)) (by kernel_rfl) ?_|refine wpList_store_rowTo rfl _ _ _ rfl rfl zb _ rfl rfl _ _ d1 (mT _) (by simp only[aA]) (aL _ _ _) ?_)
  try simp only[Exit.inBlock,Exit.then,Exit.noGoto_ret]
  refine bodyPost_ret (aV rfl _ _ zb _ _ (0,0) _ rfl (d1.row _).1 rfl rfl (mT _)) rfl ?_;exact⟨rfl,bR _ d1 G1 hz⟩
 ·have hD:D=Sha.dig (Aut.bytes (aut r ss t m s)):=by rw[←HD.out];unfold Aut.digI;rw[if_pos hv]
  have hW:vv=true:=by rw[←HW.out,hv]
  subst hW;have HD:=aD hD;clear hD;rw[if_pos hv] at hp;have hbl:=Aut.bytes_len hv;rcases hp with ⟨hno,_⟩|⟨l,v,hl,rfl,o1⟩
  ·cases hno
  cases hl
  obtain⟨va,vc,rfl⟩:=o1.form;have O1:=aD o1.bs.rs;clear o1;generalize Aut.bytes (aut r ss t m s)=b at*;have hjb:Wir.join [b]=b:=by unfold Wir.join;simp
  have HJB:=aD hjb
  have HBS:=aD (show Bss (w1.alloc (.cells #[.slice va b.length vc] 39)) (.slice (some ⟨w1.heap.size,0,none⟩) 1 1) [b] from gK w1 [_] [b] rfl (by simp) fun i y hy=>by
   match i with
   |0=>simp at hy;subst hy;exact O1.out
   |_+1=>simp at hy)
  have HLN:=aD (show(Wir.join [b]).length≤140737488355000 by rw[hjb];omega);have F2:=aG (aE w1 none) (.cells #[.slice va b.length vc] 39);have d2:=d1.only F2;have G2:=aF G1 F2;clear d1 G1 F2 O1 hjb;go_wp2_with fail;refine(rP _ [b] _ HBS.out HLN.out (HK.out.below (aB G2))).mono ?_;rintro x w3 ⟨rfl,hb3⟩;rw[HJB.out];have d3:=d2.only (aC hb3 none);have G3:=aF G2 (aC hb3 none);clear d2 G2 hb3 HBS HLN HJB;rw[←HD.out];go_wp2_with (refine wpList_store_rowTo rfl _ _ _ rfl rfl zb _ rfl rfl _ _ d3 (mT _) (by simp only[aA]) (aL _ _ _) ?_)
  try simp only[Exit.inBlock,Exit.then,Exit.noGoto_ret]
  refine bodyPost_ret (aV rfl _ _ zb _ _ (0,0) _ rfl (d3.row _).1 rfl rfl (mT _)) rfl ?_;exact⟨rfl,bR _ d3 G3 hz⟩
theorem xC (key:Nat→Nat) (v:Value) (l:List Nat) (w:World) (hk:Aes.B8 key) (hv:Rs w v l) (hl:l.length≤1000000) (hK:Consts w Sha.tab):
 Calls Tryz.prog 114 #[.agg (aH .u8 16 key),v] w (zX w (Aut.opn key l)):=by
 have HK:=aD hK;clear hK;obtain⟨a,cap,rfl⟩:=hv.form;have HV:=aD hv;clear hv;have s1:=aA .u8 16 key;have a0:=(aN w 22 .u8 16 key).alloc (.cells (au ⟨#[]⟩ (.slice none 0 0) 0 0 0) 67);have z0:=Hb.new (w.alloc (.cells (aH .u8 16 key) 22)) (au ⟨#[]⟩ (.slice none 0 0) 0 0 0) 67;simp only[World.size_alloc] at z0;have G0:=aG (aG (aE w none) (.cells (aH .u8 16 key) 22)) (.cells (au ⟨#[]⟩ (.slice none 0 0) 0 0 0) 67);generalize hR:Aut.opn key l=R;have HR:=aD hR;clear hR;go_enter Tryz.func114,Tryz.ntmps114;go_upto_region 1 with fail;rw[au0];generalize (w.alloc (.cells (aH .u8 16 key) 22)).alloc (.cells (au ⟨#[]⟩ (.slice none 0 0) 0 0 0) 67)=V at*;obtain⟨zb,hzb⟩:∃z,z=w.heap.size+1:=⟨_,rfl⟩;rw[←hzb] at z0 ⊢;have hz:=Nat.le_trans (Nat.le_succ w.heap.size) (Nat.le_of_eq hzb.symm);clear hzb;go_wp2_with (refine wpList_load_row rfl _ _ rfl w.heap.size rfl _ _ (0,0) _ a0 rfl rfl (dJ _) ?_);refine(sU key 11 11 rfl _ l V hk (by omega) (HV.out.below (aB G0)) hl (HK.out.below (aB G0))).mono ?_;rintro e w1 ⟨hb1,ht⟩;have z1:=z0.only (aC hb1 none);have G1:=aF G0 (aC hb1 none);clear a0 z0 G0 hb1;unfold Aut.opn at HR
 cases hop:Sea.op key 11 l with
 |none=>
  rw[hop] at ht;have E1:=aD (show R=(iL,2) by rw[←HR.out,hop]);clear HR hop;rcases ht with ⟨_,rfl⟩|⟨_,_,hno,_⟩
  rotate_left
  ·cases hno
  go_wp2_with (first|refine wpList_buildTo rfl 67 _ rfl _ rfl (au ⟨#[]⟩ (.slice none 0 0) 0 0 0) (by kernel_rfl) ?_|refine wpList_store_rowTo rfl _ _ _ rfl rfl zb _ rfl rfl _ _ z1 (bJ _ _ _ _ _) (by simp only[au_size]) (cY _ _ _ _ _ rfl) ?_)
  try simp only[Exit.inBlock,Exit.then,Exit.noGoto_ret]
  refine bodyPost_ret (aV rfl _ _ zb _ _ (0,0) _ rfl (z1.row _).1 rfl rfl (bJ _ _ _ _ _)) rfl ?_;rw[E1.out];exact kH (bR _ z1 G1 hz) rfl
 |some b=>
  rw[hop] at ht;have hbl:=Sea.op_len hop;have HR2:=aD (show(match Aut.parse b with|none=>(iL,(1:Int))|some t=>(t,0))=R by have:=HR.out;rw[hop] at this;exact this);clear HR hop;rcases ht with ⟨hno,_⟩|⟨b',vb,hb',rfl,o1⟩
  ·cases hno
  cases hb'
  obtain⟨ba,bc,rfl⟩:=o1.form;have O1:=aD o1.bs.rs;clear o1;go_wp2_with fail;refine(uV _ b w1 O1.out (by omega)).mono ?_;rintro e w2 ⟨hb2,q,u,ss,t,m,s,rfl,o2,hq,hm,hs,htt⟩;obtain⟨ua,uc,rfl⟩:=o2.ss.form;have z2:=z1.only (aC hb2 none);have G2:=aF G1 (aC hb2 none);have F:=dL w2 #[.string ⟨#[]⟩,.slice none 0 0,.int .i64 0,.int .u32 0,.int .u32 0] (au q (.slice ua ss.length uc) t m s) 67;have z3:=z2.only F.2;have G3:=aF G2 F.2;have o3:=(o2.mono G1.size).below (aB F.2);have hsep:∀g,(Value.slice ua ss.length uc).ownBlock=some g→g≠zb:=fun g e=>by have:=(o2.lt g e).1;have:=z1.lt;omega
  have T3:=F.1;go_upto_region 5 with (refine wpList_store_rowTo rfl _ _ _ rfl rfl w2.heap.size _ rfl rfl _ _ (heap_alloc_new _ _) (bJ _ _ _ _ _) (by rw[au_size];rfl) (cY _ _ _ _ _ rfl) ?_);generalize World.setRow _ w2.heap.size _=V3 at*;clear F hb2 o2 z1 z2 G1 G2 O1;have HSEP:=aD hsep;clear hsep
  cases hpp:Aut.parse b with
  |none=>
   rw[hpp] at htt;have E1:=aD (show R=(iL,1) by rw[←HR2.out,hpp]);clear HR2 hpp;go_wp2_with (first|refine wpList_buildTo rfl 67 _ rfl _ rfl (au ⟨#[]⟩ (.slice none 0 0) 0 0 0) (by kernel_rfl) ?_|refine wpList_store_rowTo rfl _ _ _ rfl rfl zb _ rfl rfl _ _ z3 (bJ _ _ _ _ _) (by simp only[au_size]) (cY _ _ _ _ _ rfl) ?_)
   try simp only[Exit.inBlock,Exit.then,Exit.noGoto_ret]
   refine bodyPost_ret (aV rfl _ _ zb _ _ (0,0) _ rfl (z3.row _).1 rfl rfl (bJ _ _ _ _ _)) rfl ?_;rw[E1.out];exact kH (bR _ z3 G3 hz) rfl
  |some t'=>
   rw[hpp] at htt;have htt:aut q ss t m s=t':=htt;have E1:=aD (show R=(t',0) by rw[←HR2.out,hpp]);clear HR2 hpp;go_wp2_with (first|refine wpList_load_row rfl _ _ rfl w2.heap.size rfl _ _ (0,0) _ T3 rfl rfl (bJ _ _ _ _ _) ?_|refine wpList_store_rowTo rfl _ _ _ rfl rfl zb _ rfl rfl _ _ z3 (bJ _ _ _ _ _) (by simp only[au_size]) (cY _ _ _ _ _ rfl) ?_)
   try simp only[Exit.inBlock,Exit.then,Exit.noGoto_ret]
   refine bodyPost_ret (aV rfl _ _ zb _ _ (0,0) _ rfl (z3.row _).1 rfl rfl (bJ _ _ _ _ _)) rfl ?_;rw[E1.out];refine⟨bR _ z3 G3 hz,q,_,ss,t,m,s,rfl,?_,hq,hm,hs,htt⟩
   exact o3.only (z3.row _).2 (by
    cases he:(Value.slice ua ss.length uc).ownBlock with
    |none=>exact .inl rfl
    |some g=>exact .inr (fun e=>HSEP.out g he (by cases e;rfl)))
end Go.Proofs.YtcoolgnlhheaiaaGreatDoor
