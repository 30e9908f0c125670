import Derived.Test.YtcoolgnlhheaiaaGreatDoorG12
namespace Go.Proofs.YtcoolgnlhheaiaaGreatDoor
open Go.RowKit Go.Deep
set_option linter.all false
set_option maxRecDepth 100000
namespace Dsk
abbrev Sec:=Nat→Nat
def cutN (c:Int):Nat:=(min (max c 0) 64).toNat
def tear (old new:Sec) (c:Nat):Sec:=fun j=>if j<c then new j else old j
def lay (f:Nat→Nat) (off m:Nat) (l:List Nat):Nat→Nat:=fun i=>if off≤i∧i<off+m then l.getD (i - off) 0 else f i
theorem cutN_le (c:Int):cutN c≤64:=by unfold cutN;omega
end Dsk
theorem aHO (c:Int) (w:World):Calls Tryz.prog 210 #[.int .i64 c] w fun e w'=>e= .returned (.int .i64 (Dsk.cutN c))∧w=w':=by
 go_enter Tryz.func210,Tryz.ntmps210;go_wp2
 all_goals
  go_ret;exact⟨congrArg (fun z:Int=>Ending.returned (.int .i64 z)) (by unfold Dsk.cutN;omega),rfl⟩
theorem sR (N off:Nat) (f:Nat→Nat) (x:List Nat) (h:off+x.length≤N):
 ((aH .u8 N f).toList.take off++(x.map bv++(aH .u8 N f).toList.drop (off+x.length))).toArray=aH .u8 N (Dsk.lay f off x.length x):=by
 have hg:∀i,i<N→(aH .u8 N f).toList[i]? =some (bv (f i)):=fun i hi=>by rw[Array.getElem?_toList,cJ _ _ _ _ hi]
 have hs:(aH .u8 N f).toList.length=N:=by rw[Array.length_toList,aA]
 refine bY _ _ _ _ (by simp[aA];omega) fun i hi=>?_
 rw[List.getElem?_toArray];unfold Dsk.lay
 by_cases h1:i<off
 ·rw[List.getElem?_append_left (by rw[List.length_take];omega),List.getElem?_take_of_lt h1,hg i hi,if_neg (by omega)]
 ·rw[List.getElem?_append_right (by rw[List.length_take];omega),List.length_take,hs,Nat.min_eq_left (by omega)]
  by_cases h2:i<off+x.length
  ·rw[List.getElem?_append_left (by rw[List.length_map];omega),if_pos ⟨by omega,h2⟩,List.getElem?_map,List.getElem?_eq_getElem (by omega)]
   simp[List.getD,show i - off<x.length by omega]
  ·rw[List.getElem?_append_right (by rw[List.length_map];omega),List.length_map,List.getElem?_drop,show off+x.length+(i - off - x.length)=i by omega,hg i hi,if_neg (by omega)]
theorem aCR {f:Nat→Nat} {off m m':Nat} {l l':List Nat} (hm:m=m') (h:∀i,i<m→l.getD i 0=l'.getD i 0):Dsk.lay f off m l=Dsk.lay f off m' l':=by
 subst hm;funext i;unfold Dsk.lay
 by_cases hi:off≤i∧i<off+m
 ·rw[if_pos hi,if_pos hi,h _ (by omega)]
 ·rw[if_neg hi,if_neg hi]
theorem kT {w:World} {ops:Array Oper} {rest:List Oper} {o:Oper} {a:Act} {Q:Exit→Act→World→Prop} (hgd:o.guard=none) (d s:Operand)
 (ho:o.op= .call { callee:=.builtin .copy,args:=#[d,s],argTypes:=#[39,39]}) (g off n c N:Nat) (t:TypeId) (f:Nat→Nat) (hd:a.eval d= .slice (some ⟨g,off,none⟩) n c) (hg:isArr w g t .u8 N f) (hfit:off+n≤N)
 (x:Value) (l:List Nat) (hs:a.eval s=x) (hx:Rs w x l)
 (h:∀w',isArr w' g t .u8 N (Dsk.lay f off (Nat.min l.length n) l)→w.grownBy w' (some g)→wpList Tryz.prog ops Q rest (a.put o.dst (goInt (Nat.min l.length n))) w'):wpList Tryz.prog ops Q (o::rest) a w:=by
 obtain⟨i0,hi,hz0,hz1,hz2⟩:=info_parts dC;have hsz:(Tryz.prog.info? 5).map (·.size)=some 1:=by rw[hi];simp[hz1]
 obtain⟨m,hm⟩:∃m,m=Nat.min l.length n:=⟨_,rfl⟩;have hm1:m≤l.length:=by rw[hm];exact Nat.min_le_left _ _
 have hm2:m≤n:=by rw[hm];exact Nat.min_le_right _ _
 rw[←hm] at h
 by_cases h0:m=0
 ·obtain⟨xa,xc,rfl⟩:=hx.form
  refine wpList_copy_nothing hgd d s 39 39 ho 5 Tryz.underlying39 hsz _ _ _ _ _ _ hd hs (by rw[←hm];exact h0) ?_;have:=h w (hg.congr fun i hi=>by unfold Dsk.lay;rw[if_neg (by omega)]) (aE _ _);rw[h0] at this;exact this
 ·rcases hx.2.2 with ⟨rfl,rfl⟩|⟨ad,cap,rfl,_,hc⟩
  ·simp at hm1;omega
  ·have hlen:(l.take m).length=m:=by rw[List.length_take];omega
   refine wpList_copy_own hgd d s 39 39 ho 5 Tryz.underlying39 hsz g off n c ad l.length cap hd hs (aH .u8 N f) t hg ((l.take m).map bv) (by rw[List.length_map,hlen,hm]) (kD hc hm1) (by rw[List.length_map,hlen,aA];omega) (oR _) ?_;have e:=sR N off f (l.take m) (by rw[hlen];omega);rw[List.length_map,e,hlen];refine h _ ((show isArr _ g t .u8 N _ from setRow_heap w g _ _ _ (0,0) hg).congr fun i hi=>?_) (cO w g _);exact congrFun (aCR rfl fun j hj=>jR _ _ _ (by omega)) i
theorem z64:(#[.int .u8 0,.int .u8 0,.int .u8 0,.int .u8 0,.int .u8 0,.int .u8 0,.int .u8 0,.int .u8 0,.int .u8 0,.int .u8 0,.int .u8 0,.int .u8 0,.int .u8 0,.int .u8 0,.int .u8 0,.int .u8 0,.int .u8 0,.int .u8 0,.int .u8 0,.int .u8 0,.int .u8 0,.int .u8 0,.int .u8 0,.int .u8 0,.int .u8 0,.int .u8 0,.int .u8 0,.int .u8 0,.int .u8 0,.int .u8 0,.int .u8 0,.int .u8 0,.int .u8 0,.int .u8 0,.int .u8 0,.int .u8 0,.int .u8 0,.int .u8 0,.int .u8 0,.int .u8 0,.int .u8 0,.int .u8 0,.int .u8 0,.int .u8 0,.int .u8 0,.int .u8 0,.int .u8 0,.int .u8 0,.int .u8 0,.int .u8 0,.int .u8 0,.int .u8 0,.int .u8 0,.int .u8 0,.int .u8 0,.int .u8 0,.int .u8 0,.int .u8 0,.int .u8 0,.int .u8 0,.int .u8 0,.int .u8 0,.int .u8 0,.int .u8 0]:Array Value)=aH .u8 64 (fun _=>0):=by kernel_rfl
theorem aEZ {w:World} {b n:Nat} {t:TypeId} {f:Nat→Nat} (h:isArr w b t .u8 n f) (hf:∀i,f i<256) (hn:n≤1000000):Rs w (.slice (some ⟨b,0,none⟩) n n) ((List.range n).map f):=(h.bs hf (by omega)).rs
theorem aBH (g n:Nat) (hn:n≤64) (w:World):(Instr.sliceAt 191 (.pointer (some ⟨g,0,none⟩)) none (some (.int .i64 (n:Int))) none).run Tryz.prog w= .ok (.slice (some ⟨g,0,none⟩) n 64) w:=by
 have hl:Tryz.prog.arrayLen 191=64:=by kernel_rfl
 have hs:(sizeOf (Tryz.prog.elem 191)).run Tryz.prog w= .ok 1 w:=by kernel_rfl
 rw[run_sliceAt_array_h (P:=Tryz.prog) w 191 ⟨g,0,none⟩ (by kernel_rfl) .i64 (n:Int) (by omega) (by rw[hl];omega),hs,hl];simp[Result.andThen,slicedAt,Addr.add]
theorem aEV (old new:Dsk.Sec) (c:Int) (w:World) (hn:Aes.B8 new):
 Calls Tryz.prog 157 #[.agg (aH .u8 64 old),.agg (aH .u8 64 new),.int .i64 c] w fun e w'=>e= .returned (.agg (aH .u8 64 (Dsk.tear old new (Dsk.cutN c))))∧w.grownBy w' none:=by
 have hc:=Dsk.cutN_le c;have s1:=aA .u8 64 old;have s2:=aA .u8 64 new;have a0:=((aN w 191 .u8 64 old).alloc (.cells (aH .u8 64 new) 191)).alloc (.cells (aH .u8 64 (fun _=>0)) 191);have a1:=(aN (w.alloc (.cells (aH .u8 64 old) 191)) 191 .u8 64 new).alloc (.cells (aH .u8 64 (fun _=>0)) 191);simp only[World.size_alloc] at a1;go_enter Tryz.func157,Tryz.ntmps157;go_upto_region 1 with fail;rw[z64];have g0:=aG (aG (aG (aE w none) (.cells (aH .u8 64 old) 191)) (.cells (aH .u8 64 new) 191)) (.cells (aH .u8 64 (fun _=>0)) 191);have a2:=aN ((w.alloc (.cells (aH .u8 64 old) 191)).alloc (.cells (aH .u8 64 new) 191)) 191 .u8 64 (fun _=>0);simp only[World.size_alloc] at a2;generalize ((w.alloc (.cells (aH .u8 64 old) 191)).alloc (.cells (aH .u8 64 new) 191)).alloc (.cells (aH .u8 64 (fun _=>0)) 191)=V at*;have a0':=a0.drewN 1;have HR:=aD (aEZ (a1.drewN 1) hn (by omega));have g1:=aM g0 1;have a2':=a2.drewN 1;refine bO Tryz.f157 1 5 (fun _=>True) (by kernel_rfl) (by kernel_rfl) (by kernel_rfl) trivial (fun K hK _=>?_);refine aW (listed':=#[false,false,false,false,false]) (by kernel_rfl) rfl ?_;have HF:=aD hK;clear hK;generalize V.drewN 1=U at*;clear a0 a1 a2 g0;refine aX 0 7 (.int .i64 c) (fun _ _=>by kernel_rfl) trivial ?_;simp only[Act.put,aJ,aK,aI];refine aX 3 10 (.slice (some ⟨w.heap.size+1,0,none⟩) 64 64) (fun _ _=>by kernel_rfl) trivial ?_;simp only[Act.put,aJ,aK,aI];refine bE 1 8 210 #[.int .i64 c] (by kernel_rfl) (by kernel_rfl) ?_;refine(aHO c _).mono ?_;rintro e w5 ⟨rfl,rfl⟩;refine⟨_,rfl,trivial,?_⟩;simp only[Act.put,aJ,aK,aI];refine aX 2 9 (.slice (some ⟨w.heap.size,0,none⟩) (Dsk.cutN c) 64) (fun w' _=>?_) trivial ?_
 ·have e:(opn (iJ Tryz.f157 1) 2).op= .slice 191 (.tmp 3) none (some (.tmp 8)) none:=by kernel_rfl
  unfold execOp;rw[e];have hl:((Dsk.cutN c:Nat):Int)≤(Tryz.prog.arrayLen 191:Int):=by rw[show Tryz.prog.arrayLen 191=64 by kernel_rfl];omega
  simp only[Act.eval,Array.getD_eq_getD_getElem?,List.getElem?_toArray,List.getElem?_cons_succ,List.getElem?_cons_zero,Option.getD_some,Option.map_some,Option.map_none];rw[Sem.run_bind,aBH _ _ hc];rfl
 simp only[Act.put,aJ,aK,aI];refine aR 4 (by kernel_rfl) (by kernel_rfl) (HStep.of_law #[] (by kernel_rfl) fun K' hK'=>?_);refine kT rfl (.tmp 9) (.tmp 10) (by kernel_rfl) w.heap.size 0 (Dsk.cutN c) 64 64 _ _ (by kernel_rfl) a0' (by omega) (.slice (some ⟨w.heap.size+1,0,none⟩) 64 64) ((List.range 64).map new) (by kernel_rfl) HR.out ?_;intro w6 b6 gr;have hd4:(opn (iJ Tryz.f157 1) 4).dst=some 11:=by kernel_rfl
 rw[hd4];refine bH (hK' _ _ trivial ?_);simp only[Act.put,aJ,aK,aI];refine aZ (by kernel_rfl) (HF.out _ _ ?_);have b7:Hb w6 (w.heap.size+1+1) (aH .u8 64 (fun _=>0)) 191:=Hb.keep a2' gr (by simp;omega);have g7:=aO g1 gr (Nat.le_refl _);have e:aH .u8 64 (Dsk.lay old 0 (Nat.min ((List.range 64).map new).length (Dsk.cutN c)) ((List.range 64).map new))=aH .u8 64 (Dsk.tear old new (Dsk.cutN c)):=by
  refine dS _ _ _ _ fun i hi=>?_
  have hm:Nat.min ((List.range 64).map new).length (Dsk.cutN c)=Dsk.cutN c:=by rw[List.length_map,List.length_range];exact Nat.min_eq_right hc
  rw[hm];unfold Dsk.lay Dsk.tear
  by_cases h:i<Dsk.cutN c
  ·rw[if_pos ⟨by omega,by omega⟩,if_pos h]
   simp[List.getD,show i<64 by omega]
  ·rw[if_neg (by omega),if_neg h]
 have b6':isArr w6 w.heap.size 191 .u8 64 (Dsk.tear old new (Dsk.cutN c)):=by
  unfold isArr at b6 ⊢;rw[←e];exact b6
 have z:=b7.row (aH .u8 64 (Dsk.tear old new (Dsk.cutN c)));clear b6 e HF HR g1 a0' a2';have hss:(aH .u8 64 (Dsk.tear old new (Dsk.cutN c))).size=64:=aA _ _ _;have hz:=aA .u8 64 (fun _=>0);go_wp2_with (first|refine wpList_load_row rfl _ _ rfl w.heap.size rfl _ _ (0,0) _ b6' rfl rfl (by rw[aA];rfl) ?_|refine wpList_store_rowTo rfl _ _ _ rfl rfl (w.heap.size+1+1) _ rfl rfl _ _ b7 (by rw[aA];rfl) (by rw[aA,aA]) (aL _ _ _) ?_)
 try simp only[Exit.inBlock,Exit.then,Exit.noGoto_ret]
 refine bodyPost_ret (results_cell_row rfl _ _ (w.heap.size+1+1) _ _ (0,0) _ rfl z.1 rfl rfl (by rw[aA];rfl)) rfl ?_;exact⟨rfl,aO g7 z.2 (by omega)⟩
set_option linter.all false
def aT (l:List Nat):Nat→Nat:=fun i=>l.getD i 0
theorem aBJ (v:Value) (l:List Nat) (w:World) (h:Rs w v l) (hl:l.length≤64):
 Calls Tryz.prog 276 #[v] w fun e w'=>e= .returned (.tuple #[.agg (aH .u8 64 (aT l)),.bool true])∧w.grownBy w' none:=by
 obtain⟨va,vc,rfl⟩:=h.form;have HR:=aD h;clear h;have b0:=aN w 191 .u8 64 (fun _=>0);have b1:=aN (w.alloc (.cells (aH .u8 64 (fun _=>0)) 191)) 191 .u8 64 (fun _=>0);rw[World.size_alloc] at b1;have g0:=aG (aG (aE w none) (.cells (aH .u8 64 (fun _=>0)) 191)) (.cells (aH .u8 64 (fun _=>0)) 191);have b0:=b0.alloc (.cells (aH .u8 64 (fun _=>0)) 191);have HR:=aD (HR.out.below (aB g0));have hz:=aA .u8 64 (fun _=>0);have hsl:∀w,(Instr.sliceAt 191 (.pointer (some ⟨w.heap.size+1,0,none⟩)) none none none).run Tryz.prog w= .ok (.slice (some ⟨w.heap.size+1,0,none⟩) 64 64) w:=fun w=>by kernel_rfl
 go_enter Tryz.func276,Tryz.ntmps276;go_upto_region 2 with fail;rw[z64];generalize (w.alloc (.cells (aH .u8 64 (fun _=>0)) 191)).alloc (.cells (aH .u8 64 (fun _=>0)) 191)=V at*;go_upto_region 5 with (refine kT rfl _ _ rfl (w.heap.size+1) 0 64 64 64 _ _ rfl b1 (by omega) _ _ rfl HR.out ?_;intro w6 b6 gr)
 all_goals first|omega|skip
 have e:aH .u8 64 (Dsk.lay (fun _=>0) 0 l.length l)=aH .u8 64 (aT l):=by
  refine dS _ _ _ _ fun i hi=>?_
  unfold Dsk.lay aT
  by_cases h:i<l.length
  ·rw[if_pos ⟨by omega,by omega⟩,Nat.sub_zero]
  ·rw[if_neg (by omega),List.getD,List.getElem?_eq_none (by omega)];rfl
 have b6':isArr w6 (w.heap.size+1) 191 .u8 64 (aT l):=by
  have hm:Nat.min l.length 64=l.length:=Nat.min_eq_left hl;unfold isArr at b6 ⊢;rw[hm] at b6;rw[←e];exact b6
 have b7:Hb w6 w.heap.size (aH .u8 64 (fun _=>0)) 191:=Hb.keep b0 gr (by simp);have g7:=aO g0 gr (by omega);have z:=b7.row (aH .u8 64 (aT l));have hss:(aH .u8 64 (aT l)).size=64:=aA _ _ _;clear b6 e HR g0 b0 b1 gr;go_wp2_with (first|refine wpList_load_row rfl _ _ rfl (w.heap.size+1) rfl _ _ (0,0) _ b6' rfl rfl (by rw[aA];rfl) ?_|refine wpList_store_rowTo rfl _ _ _ rfl rfl w.heap.size _ rfl rfl _ _ b7 (by rw[aA];rfl) (by rw[aA,aA]) (aL _ _ _) ?_)
 try simp only[Exit.inBlock,Exit.then,Exit.noGoto_ret]
 refine bodyPost_ret (bF rfl _ _ w.heap.size _ _ (0,0) _ rfl z.1 rfl rfl (by rw[aA];rfl)) rfl ?_;exact⟨rfl,aO g7 z.2 (by omega)⟩
theorem fQ (k x:Nat) (w:World) (hk:1≤k∧k≤8) (hx:x<256 ^ k) (h64:x<18446744073709551616):
 Calls Tryz.prog 255 #[.int .i64 (k:Int),.int .u64 (x:Int)] w (cG (Wir.enc k x) w):=by
 have hp:Wir.putNumber k x=some (Wir.enc k x):=by unfold Wir.putNumber;rw[if_neg (by omega),if_pos (by simpa using hx)];simp
 have hc:=dW k x w hk.1 hk.2 hx;rw[hp] at hc;clear hp;go_enter Tryz.func255,Tryz.ntmps255;go_wp2_with fail;refine hc.mono ?_;rintro e w1 ⟨hb,ht⟩;rcases ht with ⟨hno,_⟩|⟨l,v,hl,rfl,o1⟩
 ·cases hno
 obtain rfl:Wir.enc k x=l:=Option.some.inj hl;obtain⟨va,vc,rfl⟩:=o1.form;go_wp2_with fail;go_ret;exact⟨_,rfl,o1,hb⟩
end Go.Proofs.YtcoolgnlhheaiaaGreatDoor
