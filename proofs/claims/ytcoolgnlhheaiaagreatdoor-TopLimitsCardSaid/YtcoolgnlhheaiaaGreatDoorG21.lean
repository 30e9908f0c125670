import Derived.Test.YtcoolgnlhheaiaaGreatDoorG14
import Derived.Test.YtcoolgnlhheaiaaGreatDoorG15
namespace Go.Proofs.YtcoolgnlhheaiaaGreatDoor
open Go.RowKit Go.Deep
set_option linter.all false
set_option maxRecDepth 100000
def sv (s:List Nat):Value:=.agg (aH .u8 64 (aT s))
theorem aI2 {s:List Nat} (h:s.length=64):(List.range 64).map (aT s)=s:=by
 apply List.ext_getElem?;intro i
 by_cases hi:i<64
 ·simp[aT,List.getD,hi,show i<s.length by omega]
 ·rw[List.getElem?_eq_none (by simp;omega),List.getElem?_eq_none (by omega)]
theorem aJ9 {s:List Nat} (h:AllB s):Aes.B8 (aT s):=fun i=>h.get i
theorem eO {w:World} {b:Nat} {t:TypeId} {s:List Nat} (h:isArr w b t .u8 64 (aT s)) (ho:Frm.okS s) (o n c:Nat) (hn:o+n≤64) (hc:n≤c) (hcc:c≤1000000):Rs w (.slice (some ⟨b,o,none⟩) n c) ((s.drop o).take n):=by
 refine⟨fun x hx=>ho.2 x (List.mem_of_mem_drop (List.mem_of_mem_take hx)),?_,?_⟩
 ·have:=ho.1;rw[List.length_take,List.length_drop];omega
 ·right
  refine⟨⟨b,o,none⟩,c,?_,?_,fun i hi=>?_⟩
  ·have:=ho.1;rw[List.length_take,List.length_drop,show min n (s.length - o)=n by omega]
  ·have:=ho.1;rw[List.length_take,List.length_drop];omega
  ·have:=ho.1
   rw[List.length_take,List.length_drop] at hi;have e:((s.drop o).take n).getD i 0=aT s (o+i):=by
    unfold aT;simp only[List.getD,List.getElem?_take,List.getElem?_drop];rw[if_pos (by omega)]
   rw[Addr.add_mid,e];exact h.cell (i:=o+i) (by omega)
theorem fF (l:List Nat) (k:Nat) (hk:1≤k∧k≤8) (h:k≤l.length):Wir.num ⟨l,false⟩ k=(⟨l.drop k,false⟩,Wir.be (l.take k)):=by
 unfold Wir.num Wir.number Wir.next;rw[if_neg (by omega)];dsimp only;rw[if_neg (by simp;omega)];simp
theorem wE (l:List Nat) (k:Nat) (hk:1≤k∧k≤8) (h:l.length<k):Wir.num ⟨l,false⟩ k=(Wir.failed,0):=by
 unfold Wir.num Wir.number Wir.next;rw[if_neg (by omega)];dsimp only;rw[if_pos (by simp;omega)];rfl
theorem take_take (l:List Nat) (k:Nat) (h:k≤l.length):Wir.take ⟨l,false⟩ k=(⟨l.drop k,false⟩,l.take k):=by
 unfold Wir.take Wir.next;rw[if_neg (by omega)];dsimp only;rw[if_neg (by simp;omega)];simp
theorem aAH (s:List Nat) (w:World) (ho:Frm.okS s):
 Calls Tryz.prog 195 #[sv s] w fun e w'=>e= .returned (.int .u32 (Frm.tag s))∧w.grownBy w' none:=by
 have b0:=aN w 191 .u8 64 (aT s);have g0:=aG (aE w none) (.cells (aH .u8 64 (aT s)) 191);have HR:=aD (eO b0 ho 60 4 4 (by omega) (by omega) (by omega));have hl:=ho.1;have hL:((s.drop 60).take 4).length=4:=by rw[List.length_take,List.length_drop];omega
 have he:(s.drop 60).take 4=s.drop 60:=List.take_of_length_le (by rw[List.length_drop];omega);have hsl:∀w b,(Instr.sliceAt 191 (.pointer (some ⟨b,0,none⟩)) (some (.int .i64 60)) none none).run Tryz.prog w= .ok (.slice (some ⟨b,60,none⟩) 4 4) w:=fun w b=>by kernel_rfl
 have hx:Wir.be (s.drop 60)<4294967296:=by rw[←he];have:=Wir.be_lt ((s.drop 60)) (fun x hx=>ho.2 x (List.mem_of_mem_drop hx)) 4 (by rw[List.length_drop];omega);exact this
 unfold sv Frm.tag;generalize hX:Wir.be (s.drop 60)=x at hx ⊢;have HX:=aD hX;clear hX;go_enter Tryz.func195,Tryz.ntmps195;go_wp2_with (go_at_call 162;refine(jO _ _ _ HR.out (by rw[hL];omega)).mono ?_;rintro e w1 ⟨p,rfl,hp,hr,hb⟩);rw[he] at hr;have hn:=fF (s.drop 60) 4 (by omega) (by rw[List.length_drop];omega);rw[he] at hn;have hv:=congrArg Prod.snd hn;dsimp only at hv;rw[HX.out] at hv;clear hn;go_wp2_with (go_at_call 164;refine(cH p ⟨s.drop 60,false⟩ (4:Nat) w1 hr).mono ?_;rintro e w2 ⟨rfl,hr2,hg2⟩;rw[hv]);go_ret;refine⟨congrArg (fun z:Int=>Ending.returned (.int .u32 z)) (by show _=(x:Int);omega),aO (aF g0 (aC hb none)) hg2 (Nat.le_trans (by simp) hp)⟩
set_option linter.all false
set_option maxHeartbeats 2000000
theorem aEK (C:Nat) (h:C<4294967296) (w:World):(convert 44 194 (.int .u32 (C:Int))).run Tryz.prog w= .ok (.int .u64 (C:Int)) w:=by
 go_simp
 simp only[IntKind.wrap_u64];omega
theorem aE7 {w:World} {base p:Nat} {v:Value} {l:List Nat} (h:Own w base v l) (hp:p<base):v.ownBlock=none∨v.ownBlock≠some p:=by
 cases hv:v.ownBlock with
 |none=>exact .inl rfl
 |some g=>exact .inr (fun e=>by have:=(h.lt g hv).1;cases e;omega)
theorem q8 (o:Oper) (a:Act) (w:World) (x y:Operand) (p q:Option Addr) (n m i j:Nat) (ho:o.op= .buildSlice 197 2 #[(0,x),(1,y)]) (hx:a.eval x= .slice p n m) (hy:a.eval y= .slice q i j):
 (execOp a.eval o).run Tryz.prog w= .ok (.value (.slice (some ⟨w.heap.size,0,none⟩) 2 2)) (w.alloc (.cells #[.slice p n m,.slice q i j] 39)):=by
 unfold execOp;simp only[ho];rw[show(#[(0,x),(1,y)]:Array (Nat×Operand)).map (fun(i,x)=>(i,a.eval x))=#[(0,.slice p n m),(1,.slice q i j)] by simp[hx,hy]]
 kernel_rfl
section
variable {ops:Array Oper} {Q:Exit→Act→World→Prop} {md:Region.Mode} {S:World→Prop} {fuel:Nat} {listed:Array Bool} {a:Act} {w:World}
theorem HStep.l2 {i:Nat} {o:Oper} (dst:Option Tmp) (hdst:o.dst=dst) (hw:Region.wanted o (yielded ops a.tmps)=true) (x y:Operand) (u v:Value) (l m:List Nat) (ho:o.op= .buildSlice 197 2 #[(0,x),(1,y)]) (hx:a.eval x=u) (hy:a.eval y=v) (hu:Rs w u l) (hv:Rs w v m)
 (hS:∀w',Below w.heap.size w w'→S w')
 (h:∀(w':World) (v:Value),Below w.heap.size w w'→Bss w' v [l,m]→wpAnyH Tryz.prog md ops Q S fuel (listed.setIfInBounds i true) (a.put dst v) w'):HStep Tryz.prog md ops Q S fuel listed a w i o:=by
 obtain⟨p,k,rfl⟩:=hu.form;obtain⟨q,j,rfl⟩:=hv.form;exact HStep.value dst hdst hw _ _ (q8 o a w x y p q _ k _ j ho hx hy) (hS _ ((Below.refl _ _).alloc (Nat.le_refl _) _)) (h _ _ ((Below.refl _ _).alloc (Nat.le_refl _) _) (jA hu hv))
end
theorem Blk.lists {w:World} {g n:Nat} {us:List Value} {ll:List (List Nat)} (h:Blk w g us.toArray 39) (hn:n=ll.length) (hl:us.length=ll.length) (h63:ll.length≤9223372036854775807) (hr:∀i u,us[i]? =some u→Rs w u (ll.getD i [])):
 Bss w (.slice (some ⟨g,0,none⟩) n n) ll:=by
 subst hn;refine⟨_,ll.length,rfl,h63,fun _=>⟨g,0,rfl,fun i hi=>?_⟩⟩;have hi':i<us.length:=by omega
 exact⟨us[i],by rw[Nat.zero_add];exact h.cell (by simp[hi']),hr i _ (List.getElem?_eq_getElem hi')⟩
theorem Blk.lists2 {w:World} {g:Nat} {u v:Value} {l m:List Nat} (h:Blk w g #[u,v] 39) (hr:Rs w u l) (hs:Rs w v m):Bss w (.slice (some ⟨g,0,none⟩) 2 2) [l,m]:=
 Blk.lists (us:=[u,v]) h rfl rfl (by simp) fun i y hy=>by
  match i with
  |0=>simp at hy;subst hy;exact hr
  |1=>simp at hy;subst hy;exact hs
  |_+2=>simp at hy
def aEX (o:Option (Nat×List Nat)) (w:World) (e:Ending) (w':World):Prop:=
 Below w.heap.size w w'∧∃(v:Value) (g:Nat) (p:List Nat),e= .returned (.tuple #[.int .u32 g,v,.bool o.isSome])∧Own w' w.heap.size v p∧(g,p)=o.getD (0,[])
theorem nL (s:List Nat) (w:World) (ho:Frm.okS s):Calls Tryz.prog 274 #[sv s] w (aEX (Frm.parse s) w):=by
 have b0:=aN w 191 .u8 64 (aT s);have g0:=aG (aE w none) (.cells (aH .u8 64 (aT s)) 191);have hl:=ho.1;have HA:=aD (aEZ b0 (aJ9 ho.2) (by omega));rw[aI2 hl] at HA;have hsl:∀w b,(Instr.sliceAt 191 (.pointer (some ⟨b,0,none⟩)) none none none).run Tryz.prog w= .ok (.slice (some ⟨b,0,none⟩) 64 64) w:=fun w b=>by kernel_rfl
 have e2:=fF s 2 (by omega) (by omega);have hn:=Wir.be_lt s ho.2 2 (by omega);unfold sv;go_enter Tryz.func274,Tryz.ntmps274;go_wp2;refine wp_scope_jumps 0 (fun a' w'=>(∃x0 x1 x2 x3 x4 l,a'=⟨(x0::x1::x2::x3::x4::l:List Value).toArray,[]⟩)∧Below w.heap.size w w'∧Frm.parse s=none) (fun _ _=>0) rfl ?first ?pass
 case pass=>
  rintro a' w' ⟨⟨x0,x1,x2,x3,x4,l,rfl⟩,hb,hnone⟩;go_wp2;refine bodyPost_ret (results_tmp3 rfl _ _ _) rfl ?_;exact⟨hb,_,0,[],by rw[hnone];rfl,Own.nil _ _,by rw[hnone];rfl⟩
 case first=>
 go_wp2_with fail;refine(jO _ s _ HA.out (by omega)).mono ?_;rintro e w1 ⟨p,rfl,hp,hr,hb⟩;have hp0:w.heap.size<p:=Nat.lt_of_lt_of_le (by simp) hp;have g1:=aF g0 (aC hb none);have b1:=isArr.only b0 (aC hb none);clear b0 g0 hb HA hp;have h2:=congrArg Prod.snd e2;have h1:=congrArg Prod.fst e2;dsimp only at h1 h2;clear e2;generalize hN:Wir.be (s.take 2)=n at*;have HN:=aD hN;clear hN;go_upto_region 4 with (go_at_call 164;refine(cH p ⟨s,false⟩ (2:Nat) w1 hr).mono ?_;rintro e w2 ⟨rfl,hr2,hg2⟩;rw[h2]);have g2:=aO g1 hg2 (Nat.le_of_lt hp0);have b2:isArr w2 w.heap.size 191 .u8 64 (aT s):=Hb.keep b1 hg2 (by simp;omega);rw[h1] at hr2;clear g1 b1 hg2 hr h1 h2
 by_cases h54:54<n
 ·go_wp2_with fail
  all_goals first|omega|skip
  go_step3;refine⟨rfl,⟨_,_,_,_,_,_,rfl⟩,aB g2,?_⟩;unfold Frm.parse;rw[HN.out,if_pos h54]
 have h54':decide ((54:Int)<(n:Int))=false:=by simp;omega
 have hL2:(s.drop 2).length≤140737488355328:=by rw[List.length_drop];omega
 have hn9:(n:Int)≤9223372036854775807:=by omega
 have ht:=jI p ⟨s.drop 2,false⟩ (n:Int) w2 hr2 hn9 hL2;rw[take_take (s.drop 2) n (by rw[List.length_drop];omega)] at ht;go_upto_region 6 with (go_at_call 231;refine ht.mono ?_;rintro e w3 ⟨v3,rfl,o3,hr3,hg3⟩)
 all_goals first|omega|skip
 clear ht;obtain⟨m,hm⟩:∃m,m=54 - n:=⟨_,rfl⟩;have hm':(54:Int) - (n:Int)=(m:Int):=by omega
 have hmn:m+n=54:=by omega
 have HM:=aD hm;clear hm;have hL3:((s.drop 2).drop n).length≤140737488355328:=by rw[List.length_drop,List.length_drop];omega
 have ht:=jI p ⟨(s.drop 2).drop n,false⟩ (m:Int) w3 hr3 (by omega) hL3;rw[take_take ((s.drop 2).drop n) m (by rw[List.length_drop,List.length_drop];omega)] at ht;have g3:=aO g2 hg3 (Nat.le_of_lt hp0);have b3:isArr w3 w.heap.size 191 .u8 64 (aT s):=Hb.keep b2 hg3 (by simp;omega);have hg2s:=g2.size;have hp2:=hr2.lt;clear g2 b2 hg3 hr2;have hz3:((s.drop 2).take n).length=n:=by rw[List.length_take,List.length_drop];omega
 have hz:(((s.drop 2).drop n).take m).length=m:=by rw[List.length_take,List.length_drop,List.length_drop];omega
 obtain⟨va3,vc3,rfl⟩:∃a c,v3= .slice a n c:=by obtain⟨a,c,e⟩:=o3.form;exact⟨a,c,by rw[e,hz3]⟩
 go_wp2_with (go_at_call 231;refine ht.mono ?_;rintro e w4 ⟨v4,rfl,o4,hr4,hg4⟩;obtain⟨va4,vc4,rfl⟩:∃a c,v4= .slice a m c:=by obtain⟨a,c,e⟩:=o4.form;exact⟨a,c,by rw[e,hz]⟩);have hZ:((s.drop (2+n)).take (54 - n))=((s.drop 2).drop n).take m:=by rw[List.drop_drop,HM.out]
 have HZ:=aD hZ;have g4:=aO g3 hg4 (Nat.le_of_lt hp0);have b4:isArr w4 w.heap.size 191 .u8 64 (aT s):=Hb.keep b3 hg4 (by simp;omega);have hg3s:=g3.size
 have o34:=o3.only hg4 (by
  cases hv:(Value.slice va3 n vc3).ownBlock with
  |none=>exact .inl rfl
  |some g=>exact .inr (fun e=>by have:=(o3.lt g hv).1;cases e;omega))
 clear g3 b3 hg4 hr3 o3 hZ ht;have HO:=aD o34;have HR4:=aD hr4;have H:=aD o4.bs.rs;clear o34 hr4 o4;generalize ((s.drop 2).drop n).take m=Z at*;obtain⟨V,hV⟩:∃V,V=w4:=⟨_,rfl⟩;rw[←hV];have HV:=aD hV;clear hV
 go_loopw [25] (fun x wr=>∃k:Nat,k≤m∧x= .int .i64 k∧wr=V∧∀i,i<k→Z.getD i 0=0) (fun x _=>m - (intOf x).toNat)
 case atStart=>exact⟨0,by omega,rfl,rfl,fun i hi=>by omega⟩
 case round=>
  obtain⟨k,hk,rfl,rfl,hall⟩:=hrel;have HALL:=aD hall;clear hall
  by_cases hlt:k<m
  ·obtain⟨b,o,rfl,c0⟩:=(show Rs wr _ Z by rw[HV.out];exact H.out).at (k:=k) (by rw[hz];exact hlt)
   have c1:=c0 k (by rw[hz];exact hlt);clear c0;generalize hzk:Z.getD k 0=z at*;have HZK:=aD hzk;clear hzk
   by_cases h0:z=0
   ·subst h0
    go_wp2_with fail
    all_goals first|omega|skip
    go_roundw
    case rel=>exact⟨k+1,by omega,by go_num,trivial,fun i hi=>by
     by_cases h:i<k
     ·exact HALL.out i h
     ·rw[show i=k by omega];exact HZK.out⟩
    case measure=>simp[intOf];omega
   ·have hne:((z:Int)!=0)=true:=by rw[bne_iff_ne];omega
    go_wp2_with fail
    all_goals first|omega|skip
    go_step3;rename_i Q1 K1 a1;simp only[Exit.inBlock,Exit.then,Q1];refine⟨rfl,⟨_,_,_,_,_,_,rfl⟩,by rw[HV.out];exact aB g4,?_⟩;unfold Frm.parse;rw[HN.out,if_neg (by omega),HZ.out,if_pos];rw[List.any_eq_true];refine⟨z,?_,by simpa using h0⟩;rw[←HZK.out];simp[List.getD,show k<Z.length by omega]
  ·obtain rfl:k=m:=by omega
   have HZ0:=aD (show(Z.any fun c=>c !=0)=false by
    rw[List.any_eq_false];intro x hx;obtain⟨i,hi,rfl⟩:=List.getElem_of_mem hx;have:=HALL.out i (by omega);simp only[List.getD,List.getElem?_eq_getElem hi,Option.getD_some] at this
    simp[this])
   obtain rfl:wr=w4:=HV.out;clear HALL;go_upto_region 11 with fail
   all_goals first|omega|skip
   have HA4:=aD (eO (show isArr (wr.drewN 1) w.heap.size _ _ _ _ from b4) ho 0 56 64 (by omega) (by omega) (by omega));have HB4:=aD (eO (show isArr (wr.drewN 1) w.heap.size _ _ _ _ from b4) ho 60 4 4 (by omega) (by omega) (by omega));have hr4:Rd (wr.drewN 1) p ⟨((s.drop 2).drop n).drop k,false⟩:=HR4.out;have ho4:Own (wr.drewN 1) w2.heap.size (.slice va3 n vc3) ((s.drop 2).take n):=HO.out;have g5:=aM g4 1;have b5:isArr (wr.drewN 1) w.heap.size 191 .u8 64 (aT s):=b4;rw[List.drop_drop,List.drop_drop,show 2+(n+k)=56 by omega] at hr4;rw[List.drop_zero] at HA4;rw[List.take_of_length_le (i:=4) (by rw[List.length_drop];omega)] at HB4;have hnum:=fF (s.drop 56) 4 (by omega) (by rw[List.length_drop];omega);refine bO Tryz.f274 11 8 (fun _=>True) (by kernel_rfl) (by kernel_rfl) (by kernel_rfl) trivial (fun K hK _=>?_);refine aW (listed':=#[false,false,false,false,false,false,false,false]) (by kernel_rfl) rfl ?_;have HF:=aD hK;clear hK;clear g4 b4 HR4 HO;generalize wr.drewN 1=U at*;refine aX 0 32 (.pointer (some ⟨p,0,none⟩)) (fun _ _=>by kernel_rfl) trivial ?_;simp only[Act.put,aJ,aK,aI];refine aX 2 34 (.slice (some ⟨w.heap.size,0,none⟩) 56 64) (fun _ _=>by kernel_rfl) trivial ?_;simp only[Act.put,aJ,aK,aI];refine aX 3 35 (.slice (some ⟨w.heap.size,60,none⟩) 4 4) (fun _ _=>by kernel_rfl) trivial ?_;simp only[Act.put,aJ,aK,aI];obtain⟨x,hx⟩:∃x,x=Wir.be ((s.drop 56).take 4):=⟨_,rfl⟩;rw[←hx] at hnum;have hnv:=congrArg Prod.snd hnum;have hnr:=congrArg Prod.fst hnum;dsimp only at hnv hnr;rw[List.drop_drop] at hnr;refine fA (α:=Value) 3 #[true,true,true,true,true,false,false,false] (fun a v=>(a.put (some 33) (.int .u64 (x:Int))).put (some 36) v) (fun v w'=>Rd w' p ⟨s.drop 60,false⟩∧w.grownBy w' none∧Own w' w2.heap.size (.slice va3 n vc3) ((s.drop 2).take n)∧Bss w' v [s.take 56,s.drop 60]) (fun v w5 hc=>?_) (fun CUT=>?_)
   ·obtain⟨hr6,hg6,ho6,hbs⟩:=hc
    simp only[Act.put,aJ,aK,aI];have hparts:∀l∈[s.take 56,s.drop 60],l.length<64∧AllB l:=fun l hl'=>by
     simp only[List.mem_cons,List.not_mem_nil,or_false] at hl';rcases hl' with rfl|rfl
     ·exact⟨by rw[List.length_take];omega,fun x hx=>ho.2 x (List.mem_of_mem_take hx)⟩
     ·exact⟨by rw[List.length_drop];omega,fun x hx=>ho.2 x (List.mem_of_mem_drop hx)⟩
    refine bE 5 37 277 #[v] (by kernel_rfl) (by kernel_rfl) ?_;refine(uC v _ w5 hbs (fun l hl'=>(hparts l hl').1) (fun l hl'=>(hparts l hl').2)).mono ?_;rintro e w6 ⟨rfl,hg7⟩;refine⟨_,rfl,trivial,?_⟩;have hC:=Crc.sum_lt [s.take 56,s.drop 60];generalize hCC:Crc.sum [s.take 56,s.drop 60]=C at*;have HC:=aD hCC;clear hCC;simp only[Act.put,aJ,aK,aI];refine aX 6 38 (.int .u64 (C:Int)) (fun w' _=>?_) trivial ?_
    ·have e:(opn (iJ Tryz.f274 11) 6).op= .convert 44 194 (.tmp 37):=by kernel_rfl
     unfold execOp;rw[e];simp only[Act.eval,Array.getD_eq_getD_getElem?,List.getElem?_toArray,List.getElem?_cons_succ,List.getElem?_cons_zero,Option.getD_some];rw[Sem.run_bind,aEK C hC];rfl
    simp only[Act.put,aJ,aK,aI];refine aX 7 39 (.bool ((x:Int)!=(C:Int))) (fun w' _=>by kernel_rfl) trivial ?_;simp only[Act.put,aJ,aK,aI];refine aZ (by kernel_rfl) (HF.out _ _ ?_);have hr8:=Rd.only hr6 hg7;have hg8:=aF hg6 hg7;have ho8:=ho6.below (aB hg7);have hp8:=hr8.lt;clear HF hr4 ho4 hr6 hg6 ho6 hbs hg7 b5 HA4 HB4
    by_cases hxc:x=C
    ·subst hxc
     have e0:=fF (s.drop 60) 4 (by omega) (by rw[List.length_drop];omega);rw[List.take_of_length_le (l:=s.drop 60) (i:=4) (by rw[List.length_drop];omega)] at e0;have hgl:=Wir.be_lt (s.drop 60) (fun x hx=>ho.2 x (List.mem_of_mem_drop hx)) 4 (by rw[List.length_drop];omega);rw[List.take_of_length_le (l:=s.drop 60) (i:=4) (by rw[List.length_drop];omega)] at hgl;have e0v:=congrArg Prod.snd e0;dsimp only at e0v;obtain⟨g,hgg⟩:∃g,g=Wir.be (s.drop 60):=⟨_,rfl⟩;rw[←hgg] at e0v hgl;have HG:=aD hgg;clear hgg e0;go_wp2_with (go_at_call 164;refine(cH p ⟨s.drop 60,false⟩ (4:Nat) w6 hr8).mono ?_;rintro e w7 ⟨rfl,hr7,hg9⟩;rw[e0v]);refine bodyPost_ret (results_tmp3 rfl _ _ _) rfl ?_;have hP:Frm.parse s=some (g,(s.drop 2).take n):=by
      unfold Frm.parse;rw[HN.out,if_neg (by omega),HZ.out,if_neg (by rw[HZ0.out];simp),if_neg (by rw[←hx,HC.out];simp),HG.out]
     rw[hP];refine⟨aB (aO hg8 hg9 (Nat.le_of_lt hp0)),_,g,_,?_,(ho8.only hg9 (aE7 ho8 hp2)).mono hg2s,rfl⟩;rfl
    ·have hne:((x:Int)!=(C:Int))=true:=by rw[bne_iff_ne];omega
     go_wp2_with fail;go_step3;refine⟨rfl,⟨_,_,_,_,_,_,rfl⟩,aB hg8,?_⟩;unfold Frm.parse;rw[HN.out,if_neg (by omega),HZ.out,if_neg (by rw[HZ0.out];simp),if_pos];rw[←hx,HC.out];exact hxc
   ·simp only[Act.put,aJ,aK,aI] at CUT
    have hpw:p≠w.heap.size:=by omega
    refine cU 1 4 (by kernel_rfl) (by kernel_rfl) ?_ ?_
    ·refine HStep.call (some 33) (by kernel_rfl) (by kernel_rfl) 164 #[.pointer (some ⟨p,0,none⟩),.int .i64 4] (by kernel_rfl) ?_
     refine(cH p ⟨s.drop 56,false⟩ (4:Nat) U hr4).mono ?_;rintro e w5 ⟨rfl,hr5,hg5⟩;refine⟨_,rfl,trivial,?_⟩;rw[hnv];rw[hnr] at hr5;simp only[Act.put,aJ,aK,aI];have b6:isArr w5 w.heap.size 191 .u8 64 (aT s):=Hb.keep b5 hg5 (by simp;omega);have HA6:=eO b6 ho 0 56 64 (by omega) (by omega) (by omega);have HB6:=eO b6 ho 60 4 4 (by omega) (by omega) (by omega);rw[List.drop_zero] at HA6;rw[List.take_of_length_le (l:=s.drop 60) (i:=4) (by rw[List.length_drop];omega)] at HB6;have o6:=ho4.only hg5 (aE7 ho4 hp2);refine aR 4 (by kernel_rfl) (by kernel_rfl) (HStep.l2 (some 36) (by kernel_rfl) (by kernel_rfl) (.tmp 34) (.tmp 35) (.slice (some ⟨w.heap.size,0,none⟩) 56 64) (.slice (some ⟨w.heap.size,60,none⟩) 4 4) (s.take 56) (s.drop 60) (by kernel_rfl) (by kernel_rfl) (by kernel_rfl) HA6 HB6 (fun _ _=>trivial) (fun w6 v6 hb6 hbs6=>?_));simp only[Act.put,aJ,aK,aI];exact CUT v6 w6 ⟨hr5.below hb6,aF (aO g5 hg5 (Nat.le_of_lt hp0)) (aC hb6 none),o6.below hb6,hbs6⟩
    ·have HA6:=HA4.out
     have HB6:=HB4.out;have hu6:=Hb.new U #[.slice (some ⟨w.heap.size,0,none⟩) 56 64,.slice (some ⟨w.heap.size,60,none⟩) 4 4] 39;have hb6:=aB (aG (aE U none) (.cells #[.slice (some ⟨w.heap.size,0,none⟩) 56 64,.slice (some ⟨w.heap.size,60,none⟩) 4 4] 39));have hpU:=hr4.lt;refine HStep.value (some 36) (by kernel_rfl) (by kernel_rfl) _ _ (q8 _ _ U (.tmp 34) (.tmp 35) (some ⟨w.heap.size,0,none⟩) (some ⟨w.heap.size,60,none⟩) 56 64 4 4 (by kernel_rfl) (by kernel_rfl) (by kernel_rfl)) trivial ?_;simp only[Act.put,aJ,aK,aI];generalize U.alloc (.cells #[.slice (some ⟨w.heap.size,0,none⟩) 56 64,.slice (some ⟨w.heap.size,60,none⟩) 4 4] 39)=w6 at*;have hr6:=hr4.below hb6;refine bE 1 33 164 #[.pointer (some ⟨p,0,none⟩),.int .i64 4] (by kernel_rfl) (by kernel_rfl) ?_;refine(cH p ⟨s.drop 56,false⟩ (4:Nat) w6 hr6).mono ?_;rintro e w5 ⟨rfl,hr5,hg5⟩;refine⟨_,rfl,trivial,?_⟩;rw[hnv];rw[hnr] at hr5;simp only[Act.put,aJ,aK,aI];have b6:isArr w6 w.heap.size 191 .u8 64 (aT s):=isArr.only b5 (aC hb6 none);have b7:isArr w5 w.heap.size 191 .u8 64 (aT s):=Hb.keep b6 hg5 (by simp;omega);have HA7:=eO b7 ho 0 56 64 (by omega) (by omega) (by omega);have HB7:=eO b7 ho 60 4 4 (by omega) (by omega) (by omega);rw[List.drop_zero] at HA7;rw[List.take_of_length_le (l:=s.drop 60) (i:=4) (by rw[List.length_drop];omega)] at HB7;exact CUT _ w5 ⟨hr5,aO (aF g5 (aC hb6 none)) hg5 (Nat.le_of_lt hp0),(ho4.below hb6).only hg5 (aE7 ho4 hp2),Blk.lists2 ⟨(0,0),Hb.keep hu6 hg5 (by simp;omega)⟩ HA7 HB7⟩
end Go.Proofs.YtcoolgnlhheaiaaGreatDoor
