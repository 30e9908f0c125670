import Derived.Test.YtcoolgnlhheaiaaGreatDoorG11
namespace Go.Proofs.YtcoolgnlhheaiaaGreatDoor
open Go.RowKit Go.Deep
set_option linter.all false
set_option maxRecDepth 100000
namespace Crc
def one (x:Nat):Nat:=if x % 2=1 then x / 2 ^^^ 2197175160 else x / 2
def steps:Nat→Nat→Nat
 |0,x=>x
 |n+1,x=>steps n (one x)
def add:Nat→List Nat→Nat
 |x,[]=>x
 |x,b::l=>add (steps 8 (x ^^^ b)) l
def regs:Nat→List (List Nat)→Nat
 |x,[]=>x
 |x,l::ll=>regs (add x l) ll
def sum (ll:List (List Nat)):Nat:=4294967295 - regs 4294967295 ll
theorem one_lt {x:Nat} (h:x<4294967296):one x<4294967296:=by
 unfold one;split
 ·exact Nat.xor_lt_two_pow (n:=32) (by omega) (by omega)
 ·omega
theorem steps_lt:∀(n:Nat) {x:Nat},x<4294967296→steps n x<4294967296
 |0,_,h=>h
 |n+1,_,h=>steps_lt n (one_lt h)
theorem add_lt:∀(l:List Nat) {x:Nat},x<4294967296→(∀b∈l,b<256)→add x l<4294967296
 |[],_,h,_=>h
 |b::l,x,h,hb=>add_lt l (steps_lt 8 (Nat.xor_lt_two_pow (n:=32) (by omega) (by have:=hb b (by simp);omega))) (fun c hc=>hb c (by simp[hc]))
theorem regs_lt:∀(ll:List (List Nat)) {x:Nat},x<4294967296→(∀l∈ll,∀b∈l,b<256)→regs x ll<4294967296
 |[],_,h,_=>h
 |l::ll,x,h,hb=>regs_lt ll (add_lt l h (hb l (by simp))) (fun c hc=>hb c (by simp[hc]))
theorem sum_lt (ll:List (List Nat)):sum ll<4294967296:=by unfold sum;omega
theorem add_snoc:∀(l:List Nat) (x b:Nat),add x (l++[b])=steps 8 (add x l ^^^ b)
 |[],_,_=>rfl
 |_::l,_,b=>add_snoc l _ b
theorem regs_snoc:∀(ll:List (List Nat)) (x:Nat) (l:List Nat),regs x (ll++[l])=add (regs x ll) l
 |[],_,_=>rfl
 |_::ll,_,l=>regs_snoc ll _ l
end Crc
theorem aJ0 (x:Nat) (hx:x<4294967296):bits .and .u32 (x:Int) 1=((x % 2:Nat):Int):=by
 have:=u32_and_nat x 1 hx (by omega);rw[←nat_mask1];exact this
theorem aHH (x:Nat) (w:World) (hx:x<4294967296):
 Calls Tryz.prog 311 #[.int .u32 x] w fun e w'=>e= .returned (.int .u32 (Crc.one x))∧w=w':=by
 have h1:=aJ0 x hx;have h2:bits .xor .u32 ((x:Int) / 2) 2197175160=((x / 2 ^^^ 2197175160:Nat):Int):=u32_xor_nat (x / 2) 2197175160 (by omega) (by omega);go_enter Tryz.func311,Tryz.ntmps311
 by_cases h:x % 2=1
 ·go_wp2
  go_ret;exact⟨by unfold Crc.one;rw[if_pos h];rfl,rfl⟩
 ·go_wp2
  go_ret;exact⟨by unfold Crc.one;rw[if_neg h];rfl,rfl⟩
theorem aC0 (x:Nat) (w:World) (hx:x<4294967296):
 Calls Tryz.prog 305 #[.int .u32 x] w fun e w'=>e= .returned (.int .u32 (Crc.steps 8 x))∧w=w':=by
 go_enter Tryz.func305,Tryz.ntmps305;go_wp2
 go_loop [0,3] (fun v i=>∃k y:Nat,k≤8∧y<4294967296∧i= .int .i64 k∧v= .int .u32 y∧Crc.steps (8 - k) y=Crc.steps 8 x) (fun _ i=>8 - (intOf i).toNat)
 case atStart=>exact⟨0,x,by omega,hx,rfl,rfl,rfl⟩
 case round=>
  obtain⟨k,y,hk,hy,rfl,rfl,hs⟩:=hrel;have HS:=aD hs;clear hs
  by_cases hlt:k<8
  ·go_wp2_with (refine(aHH y _ hy).mono ?_;rintro e w' ⟨rfl,rfl⟩)
   all_goals first|omega|skip
   go_round
   case rel=>exact⟨k+1,Crc.one y,by omega,Crc.one_lt hy,by go_num,rfl,by
    rw[←HS.out,show 8 - k=(8 - (k+1))+1 by omega];rfl⟩
   case measure=>simp[intOf];omega
  ·go_wp2
   all_goals first|omega|skip
   go_ret;have e:k=8:=by omega
   subst e;have:=HS.out;exact⟨by rw[←this];rfl,rfl⟩
theorem aEB (b x:Nat) (v:Value) (l:List Nat) (w:World) (hx:x<4294967296) (hb:Hb w b #[.int .u32 x] 416) (h:Rs w v l) (hl:l.length<64):
 Calls Tryz.prog 292 #[.pointer (some ⟨b,0,none⟩),v] w fun e w'=>e= .returned (.tuple #[])∧w'=w.setCell ⟨b,0,none⟩ (.int .u32 (Crc.add x l)):=by
 obtain⟨a,cap,rfl⟩:=h.form;have H:=aD h;clear h;have c0:=hb.cell (i:=0) rfl;have f0:=hb.frozen 0;clear hb;obtain⟨n,hn⟩:∃n,n=l.length:=⟨_,rfl⟩;rw[←hn] at hl ⊢;have HN:=aD hn;clear hn;have hd:decide ((n:Int)<64)=true:=by simp;omega
 go_enter Tryz.func292,Tryz.ntmps292;go_wp2
 all_goals first|omega|skip
 go_loop [4,18] (fun v i=>∃k:Nat,k≤n∧i= .int .i64 k∧v= .int .u32 (Crc.add x (l.take k))) (fun _ i=>n - (intOf i).toNat)
 case atStart=>exact⟨0,by omega,rfl,rfl⟩
 case round=>
  obtain⟨k,hk,rfl,rfl⟩:=hrel;have hall:=H.out.1
  by_cases hlt:k<n
  ·obtain⟨b1,o1,rfl,c1⟩:=H.out.at (k:=k) (by rw[←HN.out];exact hlt)
   have c1:=c1 k (by rw[←HN.out];exact hlt);have hx8:l.getD k 0<256:=hall.get k
   have HT:=aD (show Crc.add x (l.take (k+1))=Crc.steps 8 (Crc.add x (l.take k) ^^^ l.getD k 0) by
    rw[←Crc.add_snoc];congr 1;rw[List.take_add_one];have:k<l.length:=by rw[←HN.out];exact hlt
    simp[List.getD,this])
   have hy:Crc.add x (l.take k)<4294967296:=Crc.add_lt _ hx (fun c hc=>hall c (List.mem_of_mem_take hc));generalize Crc.add x (l.take k)=y at*;generalize l.getD k 0=c at*;have hxr:bits .xor .u32 (y:Int) (c:Int)=((y ^^^ c:Nat):Int):=u32_xor_nat y c hy (by omega);have hlx:y ^^^ c<4294967296:=Nat.xor_lt_two_pow (n:=32) (by omega) (by omega);go_wp2_with (refine(aC0 (y ^^^ c) _ hlx).mono ?_;rintro e w' ⟨rfl,rfl⟩)
   all_goals first|omega|skip
   go_round
   case rel=>exact⟨k+1,by omega,by go_num,by rw[HT.out]⟩
   case measure=>simp[intOf];omega
  ·have e:k=n:=by omega
   subst e;have HT:=aD (show l.take k=l by rw[HN.out];exact List.take_length);rw[HT.out];go_wp2
   all_goals first|omega|skip
   go_end0;exact⟨rfl,rfl⟩
theorem aH6 (x:Nat) (h:x<4294967296):4294967295 ^^^ x=4294967295 - x:=by
 apply Nat.eq_of_testBit_eq;intro i;have e:4294967295 - x=2 ^ 32 - (x+1):=by omega
 rw[e,Nat.testBit_two_pow_sub_succ h,Nat.testBit_xor,show 4294967295=2 ^ 32 - 1 by rfl,Nat.testBit_two_pow_sub_one]
 by_cases hi:i<32
 ·simp[hi]
 ·have:x.testBit i=false:=Nat.testBit_lt_two_pow (Nat.lt_of_lt_of_le h (Nat.pow_le_pow_right (n:=2) (i:=32) (by omega) (by omega)))
  simp[hi,this]
theorem aJ8 (x:Nat) (h:x<4294967296):bits .xor .u32 IntKind.u32.max (x:Int)=((4294967295 - x:Nat):Int):=by
 rw[←aH6 x h];exact u32_xor_nat 4294967295 x (by omega) h
theorem Crc.join_snoc (ll:List (List Nat)) (j:Nat) (h:j<ll.length):Crc.regs 4294967295 (ll.take (j+1))=Crc.add (Crc.regs 4294967295 (ll.take j)) (ll.getD j []):=by
 rw[←Crc.regs_snoc,List.take_add_one];simp[List.getD,h]
theorem uC (v:Value) (ll:List (List Nat)) (w:World) (h:Bss w v ll) (hl:∀l∈ll,l.length<64) (hall:∀l∈ll,AllB l):
 Calls Tryz.prog 277 #[v] w fun e w'=>e= .returned (.int .u32 (Crc.sum ll))∧w.grownBy w' none:=by
 have H:=aD h;obtain⟨a,cap,rfl,hll,-⟩:=h;obtain⟨n,hn⟩:∃n,n=ll.length:=⟨_,rfl⟩;rw[←hn] at hll ⊢;have HN:=aD hn;clear hn;have hz:=Hb.new w #[.int .u32 4294967295] 416;have hg:=aG (aE w none) (.cells #[.int .u32 4294967295] 416);have hmf:∀(fn:Fn) (first cap:Array Value) (w:World),(Instr.makeFunc fn first cap).run Tryz.prog w= .ok (.func fn first cap) w:=fun _ _ _ _=>rfl
 go_enter Tryz.func277,Tryz.ntmps277;go_wp2_with fail
 go_loopw [10] (fun i wr=>∃j:Nat,j≤n∧i= .int .i64 j∧w.grownBy wr none∧Hb wr w.heap.size #[.int .u32 (Crc.regs 4294967295 (ll.take j))] 416) (fun i _=>n - (intOf i).toNat)
 case atStart=>exact⟨0,by omega,rfl,hg,hz⟩
 case round=>
  clear hz hg;obtain⟨j,hj,rfl,hg,hz⟩:=hrel;have HG:=aD hg;have HZ:=aD hz;have hlt2:=hz.lt
  by_cases hlt:j<n
  ·obtain⟨b,off,u,rfl,hu,hbs⟩:=(H.out.below (aB hg)).at (k:=j) (by rw[←HN.out];exact hlt)
   have hm:ll.getD j []∈ll:=by
    have:j<ll.length:=by rw[←HN.out];exact hlt
    simp[List.getD,this]
   have hx:=Crc.regs_lt (ll.take j) (x:=4294967295) (by omega) (fun l hl'=>hall l (List.mem_of_mem_take hl'));have hs:=aD (Crc.join_snoc ll j (by rw[←HN.out];exact hlt));have HB:=aD hbs;have HLL:=aD (hl _ hm);obtain⟨ua,ucap,rfl⟩:=hbs.form;clear hg hz hbs hm;generalize Crc.regs 4294967295 (ll.take j)=x at*;generalize ll.getD j []=l at*;go_wp2_with (go_at_call 292;refine(aEB w.heap.size x _ l wr hx HZ.out HB.out HLL.out).mono ?_;rintro e w3 ⟨rfl,rfl⟩);go_roundw
   case rel=>exact⟨j+1,by omega,by go_num,dU HG.out (Nat.le_refl _) _,by rw[hs.out];exact HZ.out.set 0 _⟩
   case measure=>simp[intOf];omega
  ·obtain rfl:j=n:=by omega
   have e0:ll.take j=ll:=List.take_of_length_le (by rw[HN.out];exact Nat.le_refl _);rw[e0] at hz;have hx:=Crc.regs_lt ll (x:=4294967295) (by omega) hall;have c0:=hz.cell (i:=0) rfl;clear hz HZ e0;generalize hR:Crc.regs 4294967295 ll=x at*;have HR:=aD hR;clear hR;go_wp2_with fail;go_ret;exact⟨by unfold Crc.sum;rw[HR.out,←aJ8 x hx];rfl,HG.out⟩
end Go.Proofs.YtcoolgnlhheaiaaGreatDoor
namespace Go.Proofs.YtcoolgnlhheaiaaGreatDoor
open Go.RowKit Go.Deep
set_option linter.all false
set_option maxRecDepth 100000
set_option maxHeartbeats 2000000
theorem aI6 (key:Nat→Nat):Sea.ek key=fun i=>(Mac.dn (Sea.nl 16 key) (lb Sea.encS) 16).getD i 0:=rfl
theorem aE4 {w:World} {v:Value} {l:List Nat} (h:Bs w v l) (n:Nat) (hl:n≤l.length) (hn:0<n):∃g off c,v= .slice (some ⟨g,off,none⟩) l.length c∧l.length≤c∧∀j u,(aH .u8 n (fun i=>l.getD i 0))[j]? =some u→w.cell? ((⟨g,off,none⟩:Addr).add j)=some u:=by
 rcases h.cases with ⟨_,rfl⟩|⟨g,off,gc,rfl,hc1,_,_,hc⟩
 ·simp at hl;omega
 ·have HC:=uD (o:=0) (n:=n) hc (by omega)
  have hf:(fun i=>l.getD (0+i) 0)=fun i=>l.getD i 0:=by funext i;rw[Nat.zero_add]
  rw[hf,Nat.add_zero] at HC;exact⟨g,off,gc,rfl,hc1,HC⟩
theorem mL (o:Oper) (a:Act) (w:World) (ho:o.op= .buildSlice 39 0 #[]):
 (execOp a.eval o).run Tryz.prog w= .ok (.value (.slice (some ⟨w.heap.size,0,none⟩) 0 0)) (w.alloc (.cells #[] 5)):=by
 unfold execOp;simp only[ho];have hz:((Tryz.prog).info? 5).map (·.size)=some 1:=by kernel_rfl
 have hu:=Tryz.underlying39
 go_simp
attribute [local irreducible] wpAnyH in
theorem vX (key nonce:Nat→Nat) (u:Nat) (v:Value) (l:List Nat) (w:World) (hk:Aes.B8 key) (hn:Aes.B8 nonce) (hu:u<256) (hv:Rs w v l) (hl:l.length≤1000000):
 Calls Tryz.prog 82 #[.agg (aH .u8 16 key),.int .u8 (u:Int),.agg (aH .u8 8 nonce),v] w (cG (Sea.sld key u nonce l) w):=by
 have HB:=aD hk;clear hk;have HN:=aD hn;clear hn;obtain⟨a,cap,rfl⟩:=hv.form;have HV:=aD hv;clear hv;have hsz:=aA .u8 16 key;have hsz2:=aA .u8 8 nonce;have hat:∀(ad:Option Addr) cp wx,(Instr.arrayAt 22 (.slice ad 16 cp)).run Tryz.prog wx= .ok (.pointer ad) wx:=fun ad cp wx=>run_arrayAt wx 22 5 16 ad 16 cp Tryz.underlying22 (Nat.le_refl _)
 have A0:=(aN w 22 .u8 16 key).alloc (.cells (aH .u8 8 nonce) 127);have A1:=aN (w.alloc (.cells (aH .u8 16 key) 22)) 127 .u8 8 nonce;simp only[World.size_alloc] at A1;have B0:=aB (aG (aG (aE w none) (.cells (aH .u8 16 key) 22)) (.cells (aH .u8 8 nonce) 127));have hKs:=aD (A0.bs HB.out (by omega)).rs;go_enter Tryz.func82,Tryz.ntmps82
 go_upto_region 2 with (first
  |(go_at_call 125;go_must (refine(kJ (Sea.nl 16 key) _ Sea.encS 16 _ (by omega) hKs.out (by rw[Sea.nl_length];omega) (by decide)).mono ?_;rintro e w1 ⟨v1,rfl,o1,hb1⟩;have hln:=Mac.dn_length (Sea.nl 16 key) (lb Sea.encS) 16;obtain⟨g,off,gc,rfl,hc1,hc⟩:=aE4 o1.bs 16 (by omega) (by omega);rw[hln];rw[←aI6] at hc;have HC:=aD hc;clear hc hln hc1 o1))
  |refine cF rfl _ _ rfl ⟨g,off,none⟩ rfl _ _ HC.out rfl rfl (dJ _) ?_
  |refine wpList_store_rowTo rfl _ _ _ rfl rfl w1.heap.size _ rfl rfl _ _ (heap_alloc_new _ _) (dJ _) (by rw[aA];rfl) (aL _ _ _) ?_)
 generalize hW:World.setRow _ w1.heap.size _=V2;have E2:isArr V2 w1.heap.size 22 .u8 16 (Sea.ek key):=by rw[←hW];exact setRow_heap _ _ _ _ _ _ (heap_alloc_new _ _)
 have hV2:Below w1.heap.size w1 V2:=by rw[←hW];exact below_setRow ((Below.refl _ _).alloc (Nat.le_refl _) _) (Nat.le_refl _) _
 clear hW;have B1:=B0.trans (hb1.mono B0.size);have B2:=B1.trans (hV2.mono B1.size);have K2:=aD ((hKs.out.below hb1).below hV2);have N2:=(A1.below hb1 A1.lt).below hV2 (A1.below hb1 A1.lt).lt;obtain⟨gE,hgE⟩:∃g,g=w1.heap.size:=⟨_,rfl⟩;rw[←hgE] at E2 ⊢;obtain⟨gN,hgN⟩:∃g,g=w.heap.size+1:=⟨_,rfl⟩;rw[←hgN] at N2 ⊢;clear hgE hgN HC hb1 hV2 B1 B0 A0 A1 hKs hat hsz hsz2;go_upto_region 3 with (go_at_call 125;go_must (refine(kJ (Sea.nl 16 key) _ Sea.proS 32 _ (by omega) K2.out (by rw[Sea.nl_length];omega) (by decide)).mono ?_;rintro e w3 ⟨v3,rfl,o3,hb3⟩));have M3:Rs w3 v3 (Sea.mk key):=o3.bs.rs;have E3:=E2.below hb3 E2.lt;have N3:=N2.below hb3 N2.lt;have B3:=B2.trans (hb3.mono B2.size);have hV3:=HV.out.below B3;clear o3 hb3 K2 E2 N2 B2;obtain⟨ma,mc,rfl⟩:=M3.form;rw[Sea.mk_length] at M3 ⊢;have hNs:Rs w3 (.slice (some ⟨gN,0,none⟩) 8 8) (Sea.nl 8 nonce):=(N3.bs HN.out (by omega)).rs;refine bO Tryz.f82 3 9 (fun w'=>Below w3.heap.size w3 w') (by kernel_rfl) (by kernel_rfl) (by kernel_rfl) (aU (Below.refl _ _) 1) (fun K hK h0=>?_);refine aW (listed':=#[false,false,false,false,false,false,false,false,false]) (by kernel_rfl) rfl ?_;have HF:=aD hK;clear hK;refine aX 1 20 (.slice (some ⟨gN,0,none⟩) 8 8) (fun _ _=>by kernel_rfl) h0 ?_;simp only[Act.put,aJ,aK,aI];refine bG 3 22 (by kernel_rfl) _ (.tmp 9) (by kernel_rfl) ⟨gE,0,none⟩ (by kernel_rfl) (aH .u8 16 (Sea.ek key)) _ (fun w' hw'=>(E3.below hw' E3.lt).cells) rfl rfl (dJ _) h0 ?_;simp only[Act.put,aJ,aK,aI];refine bG 4 23 (by kernel_rfl) _ (.tmp 6) (by kernel_rfl) ⟨gN,0,none⟩ (by kernel_rfl) (aH .u8 8 nonce) _ (fun w' hw'=>(N3.below hw' N3.lt).cells) rfl rfl (fX _) h0 ?_;simp only[Act.put,aJ,aK,aI];refine aX 5 24 (.slice a l.length cap) (fun _ _=>by kernel_rfl) h0 ?_;simp only[Act.put,aJ,aK,aI];have hL:Below w3.heap.size w3 ((w3.drewN 1).alloc (.cells #[] 5)):=h0.alloc (Nat.le_refl _) _;have O0:Own ((w3.drewN 1).alloc (.cells #[] 5)) w3.heap.size (.slice (some ⟨(w3.drewN 1).heap.size,0,none⟩) 0 0) []:=bL (w3.drewN 1) w3.heap.size [] AllB.nil (Nat.le_refl _) (by simp);refine aR 0 (by kernel_rfl) (by kernel_rfl) (HStep.value (some 19) (by kernel_rfl) (by kernel_rfl) _ _ (mL _ _ _ (by kernel_rfl)) hL ?_);simp only[Act.put,aJ,aK,aI];refine aR 2 (by kernel_rfl) (by kernel_rfl) (HStep.of_law #[] (by kernel_rfl) fun K' hK'=>?_);refine bB rfl (.tmp 19) (.tmp 20) (by kernel_rfl) w3.heap.size _ [] (by kernel_rfl) O0 _ (Sea.nl 8 nonce) (by kernel_rfl) (hNs.below hL) (by simp[Sea.nl_length]) hL.size ?_;intro v4 w4 o4 hg4;have h4:Below w3.heap.size w3 w4:=aP hL (Nat.le_refl _) hg4 (fun q hq=>(O0.lt q hq).1);refine hK' _ _ h4 ?_;rw[show({ opn (iJ Tryz.f82 3) 2 with guard:=none}:Oper).dst=some 21 from by kernel_rfl];clear hK' K';simp only[Act.put,aJ,aK,aI];refine bE 6 25 126 #[.agg (aH .u8 16 (Sea.ek key)),.agg (aH .u8 8 nonce),.slice a l.length cap] (by kernel_rfl) (by kernel_rfl) ?_;refine(rW (Sea.ek key) nonce _ l w4 (Sea.ek_b8 key) HN.out (hV3.below h4) (by omega)).mono ?_;rintro e w5 ⟨v5,rfl,o5,hb5⟩;have h5:Below w3.heap.size w3 w5:=h4.trans (hb5.mono h4.size);have O5:=o4.below hb5;refine⟨_,rfl,h5,?_⟩;simp only[Act.put,aJ,aK,aI];refine aR 7 (by kernel_rfl) (by kernel_rfl) (HStep.of_law #[] (by kernel_rfl) fun K' hK'=>?_);refine bB rfl (.tmp 21) (.tmp 25) (by kernel_rfl) w3.heap.size _ _ rfl O5 _ _ rfl o5.bs.rs (by simp[Sea.nl_length,Ctr.crypt_length];omega) h5.size ?_;intro v6 w6 o6 hg6;have h6:Below w3.heap.size w3 w6:=aP h5 (Nat.le_refl _) hg6 (fun q hq=>(O5.lt q hq).1);refine hK' _ _ h6 ?_;rw[show({ opn (iJ Tryz.f82 3) 7 with guard:=none}:Oper).dst=some 26 from by kernel_rfl];clear hK' K';simp only[Act.put,aJ,aK,aI];refine aX 8 11 v6 (fun _ _=>by kernel_rfl) h6 ?_;simp only[Act.put,aJ,aK,aI];refine aZ (by kernel_rfl) (HF.out _ _ ?_);have hfr:[]++Sea.nl 8 nonce++Ctr.crypt (Sea.ek key) nonce 0 l=Sea.front key nonce l:=rfl;rw[hfr] at o6;have M6:=M3.below h6;have B6:=B3.trans (h6.mono B3.size);have O6:=o6.mono (base':=w.heap.size) B3.size;clear HF h0 hL O0 o4 hg4 h4 o5 hb5 h5 O5 o6 hg6 h6 M3 E3 N3 B3 hV3 hNs hfr K
 obtain⟨a6,c6,rfl⟩:=O6.form;have hs6:=B6.size;have hfl:=Sea.front_length key nonce l;have hfm:(u::Sea.front key nonce l).length≤140737488354000:=by simp;omega
 have hf2:[u].length+(Sea.front key nonce l).length≤140737488355328:=by simp;omega
 have HFL:=aD hfl;clear hfl;have OU:=bL w6 w.heap.size [u] (AllB.one hu) hs6 (by simp);have OU6:=bL w6 w6.heap.size [u] (AllB.one hu) (Nat.le_refl _) (by simp);have BU:=B6.alloc hs6 (.cells ([u].map bv).toArray 5);have hsz7:w.heap.size≤(w6.alloc (.cells ([u].map bv).toArray 5)).heap.size:=Nat.le_trans hs6 (by simp)
 go_upto_region 5 with (first
  |(at_builtin;go_must (refine bB rfl _ _ rfl w.heap.size (.slice (some ⟨w6.heap.size,0,none⟩) 1 1) [u] rfl OU _ (Sea.front key nonce l) rfl (O6.alloc _).bs.rs hf2 hsz7 ?_;intro v7 w7 o7 hg7;have o7:Own w7 w.heap.size v7 (u::Sea.front key nonce l):=o7;have O7:=(O6.alloc (.cells ([u].map bv).toArray 5)).only hg7 (.inr (fun e=>Nat.lt_irrefl _ (O6.lt _ e).2));have M7:=M6.below (aP ((Below.refl _ w6).alloc (Nat.le_refl _) (.cells ([u].map bv).toArray 5)) (Nat.le_refl _) hg7 (fun q hq=>(OU6.lt q hq).1));have B7:=aP BU (Nat.le_refl _) hg7 (fun q hq=>(OU.lt q hq).1)))
  |(go_at_call 127;go_must (refine(nJ (Sea.mk key) (u::Sea.front key nonce l) _ _ w7 M7 (by rw[Sea.mk_length];omega) o7.bs.rs hfm).mono ?_;rintro e w9 ⟨rfl,hb9⟩))
  |refine wpList_store_rowTo rfl _ _ _ rfl rfl w9.heap.size _ rfl rfl _ _ (heap_alloc_new _ _) (kW _) (by rw[aA];rfl) (aL _ _ _) ?_)
 generalize hW:World.setRow _ w9.heap.size _=V3;have C2:isArr V3 w9.heap.size 35 .u8 32 (Mac.hm (Sea.mk key) (u::Sea.front key nonce l)):=by rw[←hW];exact setRow_heap _ _ _ _ _ _ (heap_alloc_new _ _)
 have hV3:Below w9.heap.size w9 V3:=by rw[←hW];exact below_setRow ((Below.refl _ _).alloc (Nat.le_refl _) _) (Nat.le_refl _) _
 clear hW;have B9:=B7.trans (hb9.mono B7.size);have B10:=B9.trans (hV3.mono B9.size);have O10:=(O7.below hb9).below hV3;obtain⟨gC,hgC⟩:∃g,g=w9.heap.size:=⟨_,rfl⟩;rw[←hgC] at C2 ⊢;clear hgC B7 B9 hb9 hV3 O7 M7 o7 hg7 OU OU6 BU hsz7 hs6 hf2 hfm;have hCs:Rs V3 (.slice (some ⟨gC,0,none⟩) 16 32) (Sea.code key u (Sea.front key nonce l)):=by
  have h:=((C2.bs (fun i=>Mac.hm_lt _ _ i) (by omega)).rs).pre (m:=16) (by simp);have e:((List.range 32).map (Mac.hm (Sea.mk key) (u::Sea.front key nonce l))).take 16=Sea.code key u (Sea.front key nonce l):=by
   unfold Sea.code Sea.nl;rw[←List.map_take,List.take_range];rfl
  rwa [e] at h
 have hcl:(Sea.code key u (Sea.front key nonce l)).length=16:=Sea.nl_length _ _;have hlen:(Sea.front key nonce l).length+(Sea.code key u (Sea.front key nonce l)).length≤140737488355328:=by rw[hcl,HFL.out];omega
 clear hcl;go_wp2_with (at_builtin;go_must (refine bB rfl _ _ rfl w.heap.size (.slice a6 (Sea.front key nonce l).length c6) (Sea.front key nonce l) rfl O10 _ (Sea.code key u (Sea.front key nonce l)) rfl hCs hlen B10.size ?_;intro v11 w11 o11 hg11));go_ret;exact⟨_,rfl,o11,aP B10 (Nat.le_refl _) hg11 (fun q hq=>(O10.lt q hq).1)⟩
end Go.Proofs.YtcoolgnlhheaiaaGreatDoor
namespace Go.Proofs.YtcoolgnlhheaiaaGreatDoor
open Go.RowKit Go.Deep
set_option linter.all false
set_option maxRecDepth 100000
set_option maxHeartbeats 2000000
end Go.Proofs.YtcoolgnlhheaiaaGreatDoor
namespace Go.Proofs.YtcoolgnlhheaiaaGreatDoor
open Go.RowKit Go.Deep
set_option linter.all false
set_option maxRecDepth 100000
set_option maxHeartbeats 2000000
namespace Sea
end Sea
end Go.Proofs.YtcoolgnlhheaiaaGreatDoor
namespace Go.Proofs.YtcoolgnlhheaiaaGreatDoor
open Go.RowKit Go.Deep
set_option linter.all false
set_option maxRecDepth 100000
set_option maxHeartbeats 2000000
end Go.Proofs.YtcoolgnlhheaiaaGreatDoor
