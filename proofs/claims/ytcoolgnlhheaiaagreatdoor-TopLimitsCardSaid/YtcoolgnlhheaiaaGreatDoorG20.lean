import Derived.Defers
import Derived.LoopN
import Derived.Recover
import Derived.Test.YtcoolgnlhheaiaaGreatDoorG17
namespace Go.Proofs.YtcoolgnlhheaiaaGreatDoor
open Go.RowKit Go.Deep
set_option linter.all false
set_option maxRecDepth 100000
section
variable {W:World} {b:Nat} {u v:Value} {x y:List Nat}
end
theorem dD (u v:Value):(Tryz.prog.info? 216).map (·.size)=some (#[u,v]:Array Value).size:=by rw[show(#[u,v]:Array Value).size=2 from rfl];kernel_rfl
theorem aA7 {w:World} {u v x:Value} {a b c:List Nat} (hu:Rs w u a) (hv:Rs w v b) (hx:Rs w x c):Bss (w.alloc (.cells #[u,v,x] 39)) (.slice (some ⟨w.heap.size,0,none⟩) 3 3) [a,b,c]:=
 gK w [u,v,x] [a,b,c] rfl (by simp) fun i t ht=>by
  match i with
  |0=>simp at ht;subst ht;exact hu
  |1=>simp at ht;subst ht;exact hv
  |2=>simp at ht;subst ht;exact hx
  |_+3=>simp at ht
theorem pH (l:List Nat) (h:l.length<65536):Wir.putString 2 l=some (Wir.enc 2 l.length++l):=by
 have:=dH 2 l.length (by omega) (by omega);unfold Wir.putString;rw[show((2:Int))=((2:Nat):Int) from rfl,this];rfl
theorem aFV (w:World):Calls Tryz.prog 163 #[] w fun e w'=>e= .returned (.agg #[.int .u8 65,.int .u8 80,.int .u8 1])∧w.grownBy w' none:=by
 have H:=Hb.new w #[.int .u8 65,.int .u8 80,.int .u8 1] 283;go_enter Tryz.func163,Tryz.ntmps163;go_wp2_with fail;refine bodyPost_ret (results_cell_row rfl _ _ w.heap.size _ _ (0,0) _ rfl H rfl rfl (by kernel_rfl)) rfl ?_;exact⟨rfl,aG (aE w none) _⟩
set_option linter.all false
set_option maxHeartbeats 8000000
theorem iN (u v:Value) (hu:u.oneCell'=true) (hv:v.oneCell'=true):(#[u,v]:Array Value).all (·.oneCell')=true:=by
 simp only[List.all_toArray,List.all_cons,List.all_nil,hu,hv];rfl
def aIN (w:World) (o:Option (List Nat×List Nat)) (e:Ending) (w':World):Prop:=
 Below w.heap.size w w'∧∃u v x y,e= .returned (.tuple #[.agg #[u,v],.bool o.isSome])∧Own w' w.heap.size u x∧Own w' w.heap.size v y∧(x,y)=o.getD ([],[])
theorem fD {w w':World} {e:Ending} (h:Below w.heap.size w w') (he:e= .returned (.tuple #[.agg #[.slice none 0 0,.slice none 0 0],.bool false])):aIN w none e w':=
 ⟨h,.slice none 0 0,.slice none 0 0,[],[],he,Own.nil _ _,Own.nil _ _,rfl⟩
theorem aGH (W:World):(Instr.index 283 (.agg #[.int .u8 65,.int .u8 80,.int .u8 1]) (.int .i64 0)).run Tryz.prog W= .ok (.int .u8 65) W:=by kernel_rfl
theorem aE0 (W:World):(Instr.index 283 (.agg #[.int .u8 65,.int .u8 80,.int .u8 1]) (.int .i64 1)).run Tryz.prog W= .ok (.int .u8 80) W:=by kernel_rfl
theorem aED (W:World):(Instr.index 283 (.agg #[.int .u8 65,.int .u8 80,.int .u8 1]) (.int .i64 2)).run Tryz.prog W= .ok (.int .u8 1) W:=by kernel_rfl
theorem yC (r:Wir.R) (k:Nat) (hk:1≤k∧k≤8):(Wir.string r k).1.l.length≤r.l.length:=by
 have h:=eZ r k;rw[Wir.stringK r k hk]
 by_cases hb:(Wir.num r k).1.bad=true
 ·rw[if_pos hb];simp[Wir.failed]
 ·rw[if_neg hb]
  refine Nat.le_trans ?_ h;unfold Wir.next;split
  ·simp[Wir.failed]
  ·simp
namespace Req
theorem parse_long {b:List Nat} (h:65536<b.length):parse b=none:=by unfold parse;rw[if_pos h]
theorem parse_a {b:List Nat} {A:Wir.R×Nat} (hA:Wir.num ⟨b,false⟩ 1=A) (h:A.2≠65):parse b=none:=by
 subst hA;unfold parse;split
 ·rfl
 ·rfl
theorem parse_b {b:List Nat} {A B:Wir.R×Nat} (hA:Wir.num ⟨b,false⟩ 1=A) (hB:Wir.num A.1 1=B) (h:B.2≠80):parse b=none:=by
 subst hA hB;unfold parse;split
 ·rfl
 ·split
  ·rfl
  ·rfl
theorem parse_c {b:List Nat} {A B C:Wir.R×Nat} (hA:Wir.num ⟨b,false⟩ 1=A) (hB:Wir.num A.1 1=B) (hC:Wir.num B.1 1=C) (h:C.2≠1):parse b=none:=by
 subst hA hB hC;unfold parse;split
 ·rfl
 ·split
  ·rfl
  ·split
   ·rfl
   ·rfl
theorem parse_rest {b:List Nat} {A B C:Wir.R×Nat} (hl:¬65536<b.length) (hA:Wir.num ⟨b,false⟩ 1=A) (hB:Wir.num A.1 1=B) (hC:Wir.num B.1 1=C) (h1:A.2=65) (h2:B.2=80) (h3:C.2=1):
 parse b=if (Wir.string (Wir.string C.1 2).1 2).1.bad=true∨(Wir.string (Wir.string C.1 2).1 2).1.l.length≠0 then none else some ((Wir.string C.1 2).2,(Wir.string (Wir.string C.1 2).1 2).2):=by
 subst hA hB hC;unfold parse;rw[if_neg hl,if_neg (by omega),if_neg (by omega),if_neg (by omega)]
end Req
def Qst (w wr:World) (p:Nat) (rd:Wir.R):Prop:=Rd wr p rd∧Hb wr w.heap.size #[.slice none 0 0,.slice none 0 0] 216∧w.grownBy wr none
theorem s6 (v:Value) (l:List Nat) (w:World) (h:Rs w v l) (hb:l.length≤140737488355328):
 Calls Tryz.prog 112 #[v] w (aIN w (Req.parse l)):=by
 obtain⟨a,cap,rfl⟩:=h.form;have Z0:=Hb.new w #[.slice none 0 0,.slice none 0 0] 216;have G0:=aG (aE w none) (.cells #[.slice none 0 0,.slice none 0 0] 216);have H:=aD (h.below (aB G0));clear h;generalize hR:Req.parse l=R;have HR:=aD hR;clear hR;go_enter Tryz.func112,Tryz.ntmps112;go_upto_region 1 with fail;generalize w.alloc (.cells #[.slice none 0 0,.slice none 0 0] 216)=V0 at*
 by_cases hlong:65536<l.length
 ·have E1:=aD (show R=none by rw[←HR.out];exact Req.parse_long hlong)
  clear HR;go_wp2_with (first|refine wpList_buildTo rfl 216 _ rfl _ rfl #[.slice none 0 0,.slice none 0 0] (by kernel_rfl) ?_|refine wpList_store_rowTo rfl _ _ _ rfl rfl w.heap.size _ rfl rfl _ _ Z0 (dD _ _) (by rfl) (iN _ _ rfl rfl) ?_)
  all_goals first|omega|skip
  try simp only[Exit.inBlock,Exit.then,Exit.noGoto_ret]
  refine bodyPost_ret (aV rfl _ _ w.heap.size _ _ (0,0) _ rfl (Z0.row _).1 rfl rfl (dD _ _)) rfl ?_;rw[E1.out];exact fD (bR _ Z0 G0 (Nat.le_refl _)) rfl
 have HLL:=aD hlong;go_wp2_with fail
 all_goals first|omega|skip
 refine(jO _ l V0 H.out hb).mono ?_;rintro e w1 ⟨p,rfl,hp,rd,hb1⟩;have Z1:=Z0.only (aC hb1 none);have G1:=aF G0 (aC hb1 none);have hpw:=Nat.le_trans G0.size hp;have hzp:=Nat.lt_of_lt_of_le Z0.lt hp;clear Z0 G0 hp hb1;go_wp2_with fail;refine(aFV w1).mono ?_;rintro e w2 ⟨rfl,g2⟩;have ST2:=aD (show Qst w w2 p ⟨l,false⟩ from ⟨rd.only g2,Z1.only g2,aF G1 g2⟩);clear rd Z1 G1 g2;generalize hA:Wir.num ⟨l,false⟩ 1=A;generalize hB:Wir.num A.1 1=B;generalize hC:Wir.num B.1 1=C;have HA:=aD hA;have HB:=aD hB;have HC:=aD hC
 have HLC:=aD (show C.1.l.length≤l.length by
  rw[←hC];refine Nat.le_trans (eZ _ _) ?_;rw[←hB];refine Nat.le_trans (eZ _ _) ?_;rw[←hA]
  exact eZ _ _)
 clear hA hB hC;have HS:=aD HR.out;clear HR;go_wp2_with fail
 go_loopw [15] (fun x wr=>∃(j:Int) (rd:Wir.R),x= .int .i64 j∧((j=0∧rd=⟨l,false⟩)∨(j=1∧rd=A.1∧A.2=65)∨(j=2∧rd=B.1∧A.2=65∧B.2=80)∨(j=3∧rd=C.1∧A.2=65∧B.2=80∧C.2=1))∧Qst w wr p rd) (fun x _=>4 - (intOf x).toNat)
 case atStart=>exact⟨0,_,rfl,.inl ⟨rfl,rfl⟩,ST2.out⟩
 case round=>
  obtain⟨j,rd,rfl,hj,st⟩:=hrel;clear ST2;have hrd:=st.1;rcases hj with ⟨rfl,rfl⟩|⟨rfl,rfl,ha⟩|⟨rfl,rfl,ha,hbb⟩|⟨rfl,rfl,ha,hbb,hcc⟩
  ·have hix:=aGH
   have ZZ:=st.2.1;have GG:=st.2.2;go_wp2_with (go_at_call 164;refine(cH p ⟨l,false⟩ 1 wr hrd).mono ?_);rintro e w6 ⟨rfl,rd6,g6⟩;have Z6:=ZZ.keep g6 (by intro e;cases e;omega);have G6:=aO GG g6 hpw;clear ZZ GG hrd st g6;rw[HA.out] at rd6 ⊢
   by_cases hc:A.2=65
   ·have hc2:((A.2:Int)!=65)=false:=by rw[bne_eq_false_iff_eq];omega
    go_wp2_with fail
    all_goals first|omega|skip
    go_roundw
    case rel=>exact⟨1,_,by go_num,.inr (.inl ⟨rfl,rfl,hc⟩),rd6,Z6,G6⟩
    case measure=>decide
   ·have hc2:((A.2:Int)!=65)=true:=by rw[bne_iff_ne];omega
    have E1:=aD (show R=none from ((Req.parse_a HA.out hc).symm.trans HS.out).symm);clear HS HA HB HC;generalize A.2=xx at*;go_wp2_with (first|refine wpList_buildTo rfl 216 _ rfl _ rfl #[.slice none 0 0,.slice none 0 0] (by kernel_rfl) ?_|refine wpList_store_rowTo rfl _ _ _ rfl rfl w.heap.size _ rfl rfl _ _ Z6 (dD _ _) (by rfl) (iN _ _ rfl rfl) ?_)
    all_goals first|omega|skip
    try simp only[Exit.inBlock,Exit.then,Exit.noGoto_ret]
    refine bodyPost_ret (aV rfl _ _ w.heap.size _ _ (0,0) _ rfl (Z6.row _).1 rfl rfl (dD _ _)) rfl ?_;rw[E1.out];exact fD (bR _ Z6 G6 (Nat.le_refl _)) rfl
  ·have hix:=aE0
   have ZZ:=st.2.1;have GG:=st.2.2;go_wp2_with (go_at_call 164;refine(cH p A.1 1 wr hrd).mono ?_);rintro e w6 ⟨rfl,rd6,g6⟩;have Z6:=ZZ.keep g6 (by intro e;cases e;omega);have G6:=aO GG g6 hpw;clear ZZ GG hrd st g6;rw[HB.out] at rd6 ⊢
   by_cases hc:B.2=80
   ·have hc2:((B.2:Int)!=80)=false:=by rw[bne_eq_false_iff_eq];omega
    go_wp2_with fail
    all_goals first|omega|skip
    go_roundw
    case rel=>exact⟨2,_,by go_num,.inr (.inr (.inl ⟨rfl,rfl,ha,hc⟩)),rd6,Z6,G6⟩
    case measure=>decide
   ·have hc2:((B.2:Int)!=80)=true:=by rw[bne_iff_ne];omega
    have E1:=aD (show R=none from ((Req.parse_b HA.out HB.out hc).symm.trans HS.out).symm);clear HS HA HB HC;generalize B.2=xx at*;go_wp2_with (first|refine wpList_buildTo rfl 216 _ rfl _ rfl #[.slice none 0 0,.slice none 0 0] (by kernel_rfl) ?_|refine wpList_store_rowTo rfl _ _ _ rfl rfl w.heap.size _ rfl rfl _ _ Z6 (dD _ _) (by rfl) (iN _ _ rfl rfl) ?_)
    all_goals first|omega|skip
    try simp only[Exit.inBlock,Exit.then,Exit.noGoto_ret]
    refine bodyPost_ret (aV rfl _ _ w.heap.size _ _ (0,0) _ rfl (Z6.row _).1 rfl rfl (dD _ _)) rfl ?_;rw[E1.out];exact fD (bR _ Z6 G6 (Nat.le_refl _)) rfl
  ·have hix:=aED
   have ZZ:=st.2.1;have GG:=st.2.2;go_wp2_with (go_at_call 164;refine(cH p B.1 1 wr hrd).mono ?_);rintro e w6 ⟨rfl,rd6,g6⟩;have Z6:=ZZ.keep g6 (by intro e;cases e;omega);have G6:=aO GG g6 hpw;clear ZZ GG hrd st g6;rw[HC.out] at rd6 ⊢
   by_cases hc:C.2=1
   ·have hc2:((C.2:Int)!=1)=false:=by rw[bne_eq_false_iff_eq];omega
    go_wp2_with fail
    all_goals first|omega|skip
    go_roundw
    case rel=>exact⟨3,_,by go_num,.inr (.inr (.inr ⟨rfl,rfl,ha,hbb,hc⟩)),rd6,Z6,G6⟩
    case measure=>decide
   ·have hc2:((C.2:Int)!=1)=true:=by rw[bne_iff_ne];omega
    have E1:=aD (show R=none from ((Req.parse_c HA.out HB.out HC.out hc).symm.trans HS.out).symm);clear HS HA HB HC;generalize C.2=xx at*;go_wp2_with (first|refine wpList_buildTo rfl 216 _ rfl _ rfl #[.slice none 0 0,.slice none 0 0] (by kernel_rfl) ?_|refine wpList_store_rowTo rfl _ _ _ rfl rfl w.heap.size _ rfl rfl _ _ Z6 (dD _ _) (by rfl) (iN _ _ rfl rfl) ?_)
    all_goals first|omega|skip
    try simp only[Exit.inBlock,Exit.then,Exit.noGoto_ret]
    refine bodyPost_ret (aV rfl _ _ w.heap.size _ _ (0,0) _ rfl (Z6.row _).1 rfl rfl (dD _ _)) rfl ?_;rw[E1.out];exact fD (bR _ Z6 G6 (Nat.le_refl _)) rfl
  ·have HS:=aD ((Req.parse_rest HLL.out HA.out HB.out HC.out ha hbb hcc).symm.trans HS.out)
   have ZZ:=st.2.1;have GG:=st.2.2;have HLC:=aD (Nat.le_trans HLC.out (Nat.le_of_not_lt HLL.out));obtain⟨rc,xc⟩:=C;clear HA HB HC st ha hbb hcc;dsimp only at HS HLC hrd ⊢;generalize hX:Wir.string rc 2=X at HS;obtain⟨rx,x⟩:=X;dsimp only at HS;generalize hY:Wir.string rx 2=Y at HS;obtain⟨ry,y⟩:=Y;dsimp only at HS;have HX:=aD hX;have HY:=aD hY;have HLX:=aD (show rx.l.length≤rc.l.length by have:=yC rc 2 (by omega);rw[show((2:Nat):Int)=2 from rfl,hX] at this;exact this);clear hX hY;go_wp2_with (go_at_call 165;refine(fM p rc 2 wr hrd (by have:=HLC.out;omega)).mono ?_);rintro e w6 ⟨v6,rfl,o6,rd6,g6⟩;rw[HX.out] at o6 rd6;obtain⟨va6,vc6,rfl⟩:=o6.form;have Z6:=ZZ.keep g6 (by intro e;cases e;omega);have G6:=aO GG g6 hpw;have hp6:=hrd.lt;have HB6:=aD GG.size;have HB7:=aD G6.size;have N6:=aD (fun e=>by have:=(o6.lt p e).1;omega:(Value.slice va6 x.length vc6).ownBlock≠some p);clear ZZ GG hrd g6;go_wp2_with (go_at_call 165;refine(fM p rx 2 w6 rd6 (by have:=HLC.out;have:=HLX.out;omega)).mono ?_);rintro e w7 ⟨v7,rfl,o7,rd7,g7⟩;rw[HY.out] at o7 rd7;obtain⟨va7,vc7,rfl⟩:=o7.form;have Z7:=Z6.keep g7 (by intro e;cases e;omega);have G7:=aO G6 g7 hpw;have O6:=o6.only g7 (.inr N6.out);clear Z6 G6 rd6 g7 o6 N6;have F:=dL w7 #[.slice none 0 0,.slice none 0 0] #[.slice va6 x.length vc6,.slice va7 y.length vc7] 216;have Z8:=Z7.only F.2;have G8:=aF G7 F.2;have rd8:=rd7.only F.2;have O8:=O6.below (aB F.2);have P8:=o7.below (aB F.2);have Q8:=F.1;clear Z7 G7 rd7 O6 o7;go_upto_region 11 with (first|refine wpList_buildTo rfl 216 _ rfl _ rfl #[.slice va6 x.length vc6,.slice va7 y.length vc7] (by kernel_rfl) ?_|refine wpList_store_rowTo rfl _ _ _ rfl rfl w7.heap.size _ rfl rfl _ _ (heap_alloc_new _ _) (dD _ _) (by rfl) (iN _ _ rfl rfl) ?_);generalize World.setRow _ w7.heap.size _=W8 at*;generalize w7.heap.size=b8 at*;clear F;generalize hD:(!ry.bad&&ry.l.length==0)=D;go_wp2_with (go_at_call 166;refine(dO p ry W8 rd8).mono ?_);rintro e w9 ⟨rfl,rfl⟩;rw[hD]
   cases D
   ·have hbad:ry.bad=true∨ry.l.length≠0:=by
     cases hk:ry.bad
     ·right;intro h0;rw[hk,h0] at hD;cases hD
     ·left;rfl
    have E1:=aD (show R=none by rw[←HS.out,if_pos hbad]);clear HS hbad hD;go_wp2_with (first|refine wpList_buildTo rfl 216 _ rfl _ rfl #[.slice none 0 0,.slice none 0 0] (by kernel_rfl) ?_|refine wpList_store_rowTo rfl _ _ _ rfl rfl w.heap.size _ rfl rfl _ _ Z8 (dD _ _) (by rfl) (iN _ _ rfl rfl) ?_)
    all_goals first|omega|skip
    try simp only[Exit.inBlock,Exit.then,Exit.noGoto_ret]
    refine bodyPost_ret (aV rfl _ _ w.heap.size _ _ (0,0) _ rfl (Z8.row _).1 rfl rfl (dD _ _)) rfl ?_;rw[E1.out];exact fD (bR _ Z8 G8 (Nat.le_refl _)) rfl
   ·have hkb:ry.bad=false∧ry.l.length=0:=by
     cases hk:ry.bad
     ·rw[hk] at hD;exact⟨rfl,by simpa using hD⟩
     ·rw[hk] at hD;cases hD
    have E1:=aD (show R=some (x,y) by
     rw[←HS.out,if_neg];rintro(h|h)
     ·rw[hkb.1] at h;cases h
     ·exact h hkb.2)
    clear HS hkb hD;go_wp2_with (first|refine wpList_load_row rfl _ _ rfl b8 rfl _ _ (0,0) _ Q8 rfl rfl (dD _ _) ?_|refine wpList_store_rowTo rfl _ _ _ rfl rfl w.heap.size _ rfl rfl _ _ Z8 (dD _ _) (by rfl) (iN _ _ rfl rfl) ?_)
    try simp only[Exit.inBlock,Exit.then,Exit.noGoto_ret]
    refine bodyPost_ret (aV rfl _ _ w.heap.size _ _ (0,0) _ rfl (Z8.row _).1 rfl rfl (dD _ _)) rfl ?_;rw[E1.out];exact⟨bR _ Z8 G8 (Nat.le_refl _),_,_,x,y,rfl,(O8.only (Z8.row _).2 (.inr (O8.sep Z8 (by decide)))).mono HB6.out,(P8.only (Z8.row _).2 (.inr (P8.sep Z8 (by decide)))).mono HB7.out,rfl⟩
set_option linter.all false
def iF (c:Nat):Value:=if c=0 then .nilIface else .iface 34 (.int .i64 (c:Int))
theorem kU:iF 0= .nilIface:=rfl
theorem eV (c:Nat) (h:c≠0):iF c= .iface 34 (.int .i64 (c:Int)):=if_neg h
theorem pY (w:World):CallsD Tryz.prog 203 #[] .returning w fun e u' w'=>e= .returned (.tuple #[])∧u'= .returning∧w'=w:=by
 refine callsD_of_wpS Tryz.func203 rfl fun c₀ cs hu=>?_
 apply wpS_region
 cases c₀
 simp_all [wpOpsS,go_sem,recoverD,Tryz.ntmps203,bodyPostS,results,Tryz.results203]
theorem xJ (b c:Nat) (old:Value) (w:World) (hb:Hb w b #[old] 34):
 Calls Tryz.prog 150 #[.iface 34 (.int .i64 (c:Int)),.pointer (some ⟨b,0,none⟩)] w fun e w'=>e= .returned (.bool true)∧w'=w.setCell ⟨b,0,none⟩ (.int .i64 (c:Int)):=by
 have c0:=hb.cell (i:=0) rfl;have f0:=hb.frozen 0;clear hb;have hta:∀w,(Instr.typeAssert (.iface 34 (.int .i64 (c:Int))) 30 34 true).run Tryz.prog w= .ok (.tuple #[.int .i64 (c:Int),.bool true]) w:=fun w=>by kernel_rfl
 go_enter Tryz.func150,Tryz.ntmps150;go_wp2;go_ret;exact⟨rfl,rfl⟩
theorem zF (f:Value) (w:World):
 Calls Tryz.prog 149 #[.nilIface,f] w fun e w'=>e= .returned (.tuple #[])∧w'=w:=by
 have hmf:∀(fn:Fn) (first cap:Array Value) (w:World),(Instr.makeFunc fn first cap).run Tryz.prog w= .ok (.func fn first cap) w:=fun _ _ _ _=>rfl
 go_enter_defers Tryz.func149,Tryz.ntmps149
 go_wp2;refine wp_loop_rounds 1 ?_;rw[rounds_succ];go_wp2;refine leaves_cons (f:=203) (args:=#[]) (by simp) (by simp[go_sem]) ?_;refine(pY _).mono ?_;rintro e u' w'' ⟨rfl,rfl,rfl⟩;simp[Leaves,settle,results,Tryz.results149,go_sem]
theorem wM (b c:Nat) (old:Value) (w:World) (hb:Hb w b #[old] 34):
 Calls Tryz.prog 149 #[.iface 34 (.int .i64 (c:Int)),.func (.func 150) #[] #[.pointer (some ⟨b,0,none⟩)]] w fun e w'=>e= .returned (.tuple #[])∧w'=w.setCell ⟨b,0,none⟩ (.int .i64 (c:Int)):=by
 have hmf:∀(fn:Fn) (first cap:Array Value) (w:World),(Instr.makeFunc fn first cap).run Tryz.prog w= .ok (.func fn first cap) w:=fun _ _ _ _=>rfl
 go_enter_defers Tryz.func149,Tryz.ntmps149
 go_wp2;refine wp_loop_rounds 1 ?_;rw[rounds_succ];go_wp2_with (go_at_call 150;refine(xJ b c old w hb).mono ?_;rintro e w' ⟨rfl,rfl⟩);refine leaves_cons (f:=203) (args:=#[]) (by simp) (by simp[go_sem]) ?_;refine(pY _).mono ?_;rintro e u' w'' ⟨rfl,rfl,rfl⟩;simp[Leaves,settle,results,Tryz.results149,go_sem]
theorem nW (c:Nat) (w:World):
 Calls Tryz.prog 102 #[iF c] w fun e w'=>e= .returned (.int .i64 (c:Int))∧w.grownBy w' none:=by
 have hmf:∀(fn:Fn) (first cap:Array Value) (w:World),(Instr.makeFunc fn first cap).run Tryz.prog w= .ok (.func fn first cap) w:=fun _ _ _ _=>rfl
 have hz:=Hb.new w #[.int .i64 0] 34;have hg:=aG (aE w none) (.cells #[.int .i64 0] 34)
 by_cases hc:c=0
 ·subst hc
  rw[kU];go_enter Tryz.func102,Tryz.ntmps102;go_wp2_with (go_at_call 149;refine(zF _ _).mono ?_;rintro e w' ⟨rfl,rfl⟩);go_ret;exact⟨rfl,hg⟩
 ·rw[eV c hc]
  clear hc;go_enter Tryz.func102,Tryz.ntmps102;go_wp2_with (go_at_call 149;refine(wM w.heap.size c _ _ hz).mono ?_;rintro e w' ⟨rfl,rfl⟩);go_ret;exact⟨rfl,aG (aE w none) _⟩
set_option linter.all false
def cL (n:Int):Nat→Nat:=fun i=>([9,(n % 256).toNat]:List Nat).getD i 0
theorem aDU (n:Int):Aes.B8 (cL n):=fun i=>by
 unfold cL;rcases i with _|_|i
 ·show 9<256;decide
 ·show(n % 256).toNat<256
  omega
 ·simp
theorem aHW (n:Int):IntKind.u8.wrap n=((n % 256).toNat:Int):=by
 have e:IntKind.u8.wrap n=n % 256:=by
  simp only[IntKind.wrap_u8]
 rw[e];omega
theorem aHF (o:Oper) (a:Act) (w:World) (x:Operand) (n:Int) (ho:o.op= .convert 3 5 x) (hx:a.eval x= .int .i64 n):(execOp a.eval o).run Tryz.prog w= .ok (.value (.int .u8 ((n % 256).toNat:Int))) w:=by
 rw[←aHW];unfold execOp;simp only[ho,hx]
 kernel_rfl
theorem aEW (k:Nat):Tryz.prog.built 22 [(0,.int .u8 9),(1,.int .u8 (k:Int))]=some (aH .u8 16 fun i=>([9,k]:List Nat).getD i 0):=by kernel_rfl
theorem aG0 (o:Oper) (a:Act) (w:World) (j:Operand) (n:Int) (ho:o.op= .build 22 #[(0,.const (.int .u8 9)),(1,j)]) (hj:a.eval j= .int .u8 ((n % 256).toNat:Int)):
 (execOp a.eval o).run Tryz.prog w= .ok (.value (.agg (aH .u8 16 (cL n)))) w:=by
 unfold execOp;simp only[ho];rw[show(#[(0,.const (.int .u8 9)),(1,j)]:Array (Nat×Operand)).map (fun(i,x)=>(i,a.eval x))=#[(0,.int .u8 9),(1,.int .u8 ((n % 256).toNat:Int))] by simp[hj];rfl];rw[Sem.run_bind,run_build w 22 _ _ (aEW (n % 256).toNat)];rfl
theorem aB8 (r:ByteArray) (g:Nat) (s e:Int) (k:Nat→Nat):Tryz.prog.built 65 [(0,.agg #[.string r,.slice (some ⟨g,0,none⟩) 1 1]),(1,.int .i64 s),(2,.int .i64 e),(3,.agg (aH .u8 16 k))]=some (tk r (.slice (some ⟨g,0,none⟩) 1 1) s e k):=by kernel_rfl
theorem tX (o:Oper) (a:Act) (w:World) (i j l m:Operand) (r:ByteArray) (g:Nat) (s e:Int) (k:Nat→Nat) (ho:o.op= .build 65 #[(0,i),(1,j),(2,l),(3,m)]) (hi:a.eval i= .agg #[.string r,.slice (some ⟨g,0,none⟩) 1 1]) (hj:a.eval j= .int .i64 s) (hl:a.eval l= .int .i64 e) (hm:a.eval m= .agg (aH .u8 16 k)):
 (execOp a.eval o).run Tryz.prog w= .ok (.value (.agg (tk r (.slice (some ⟨g,0,none⟩) 1 1) s e k))) w:=by
 unfold execOp;simp only[ho];rw[show(#[(0,i),(1,j),(2,l),(3,m)]:Array (Nat×Operand)).map (fun(i,x)=>(i,a.eval x))=#[(0,.agg #[.string r,.slice (some ⟨g,0,none⟩) 1 1]),(1,.int .i64 s),(2,.int .i64 e),(3,.agg (aH .u8 16 k))] by simp[hi,hj,hl,hm]];rw[Sem.run_bind,run_build w 65 _ _ (aB8 r g s e k)];rfl
theorem aBF (r:ByteArray) (g:Nat) (t:Int) (z:Nat):Tryz.prog.built 67 [(0,.agg #[.string r,.slice (some ⟨g,0,none⟩) 1 1]),(1,.int .i64 t),(3,.int .u32 (z:Int))]=some (au r (.slice (some ⟨g,0,none⟩) 1 1) t 0 z):=by kernel_rfl
theorem aEG (o:Oper) (a:Act) (w:World) (i j l:Operand) (r:ByteArray) (g:Nat) (t:Int) (z:Nat) (ho:o.op= .build 67 #[(0,i),(1,j),(3,l)]) (hi:a.eval i= .agg #[.string r,.slice (some ⟨g,0,none⟩) 1 1]) (hj:a.eval j= .int .i64 t) (hl:a.eval l= .int .u32 (z:Int)):
 (execOp a.eval o).run Tryz.prog w= .ok (.value (.agg (au r (.slice (some ⟨g,0,none⟩) 1 1) t 0 z))) w:=by
 unfold execOp;simp only[ho];rw[show(#[(0,i),(1,j),(3,l)]:Array (Nat×Operand)).map (fun(i,x)=>(i,a.eval x))=#[(0,.agg #[.string r,.slice (some ⟨g,0,none⟩) 1 1]),(1,.int .i64 t),(3,.int .u32 (z:Int))] by simp[hi,hj,hl]];rw[Sem.run_bind,run_build w 67 _ _ (aBF r g t z)];rfl
end Go.Proofs.YtcoolgnlhheaiaaGreatDoor
