import Derived.Shelf.SlSortCmp.InsertionK
import Derived.Shelf.SlSortCmp.NoneTotal
import Derived.Test.YtcoolgnlhheaiaaGreatDoorG35
namespace Go.Proofs.YtcoolgnlhheaiaaGreatDoor
open Go.RowKit Go.Deep Go.Sort
set_option linter.all false
abbrev m7:={ e:bC // Frm.okE e}
theorem aKJ:Frm.okE eJ:=⟨by unfold eJ;simp,fun x hx=>by unfold eJ at hx;simp at hx;omega⟩
instance:Inhabited m7:=⟨⟨eJ,aKJ⟩⟩
def lG (x:m7):List Value:=fJ x.1
theorem oA (x:m7):(lG x).length=33:=kE x.1
theorem nD {α:Type} [Inhabited α] (enc:α→List Value) (k:Nat) (hk:∀x,(enc x).length=k) (d:Array α):(flatK enc k d).toList=(d.toList.map enc).flatten:=by
 have hl:((d.toList.map enc).flatten).length=d.size*k:=by
  rw[flat_len (k:=k) (fun x hx=>by obtain⟨y,_,rfl⟩:=List.mem_map.1 hx;exact hk y),List.length_map,Array.length_toList]
 refine List.ext_getElem (by rw[hl];simp) fun t h1 h2=>?_
 rw[hl] at h2
 have hk0:0<k:=by
  rcases Nat.eq_zero_or_pos k with h|h
  ·subst h;simp at h2
  ·exact h
 have hi:t / k<d.size:=(Nat.div_lt_iff_lt_mul hk0).2 h2;have hj:t % k<k:=Nat.mod_lt _ hk0;have e1:=gJ (es:=d.toList.map enc) (k:=k) (fun x hx=>by obtain⟨y,_,rfl⟩:=List.mem_map.1 hx;exact hk y) (i:=t / k) (j:=t % k) (x:=enc d[t / k]) (by rw[List.getElem?_map,Array.getElem?_toList,Array.getElem?_eq_getElem hi];rfl) hj;rw[show t / k*k+t % k=t by rw[Nat.mul_comm];exact Nat.div_add_mod t k] at e1;rw[List.getElem?_eq_getElem (by rw[hl];exact h2),List.getElem?_eq_getElem (by rw[hk];exact hj)] at e1;rw[Option.some.inj e1];have e2:=get_flatK enc k d t h2;rw[getElem!_pos (flatK enc k d) t (by simpa using h2),getElem!_pos d (t / k) hi,getElem!_pos (enc d[t / k]) (t % k) (by rw[hk];exact hj)] at e2
 simpa using e2
theorem vF (d:Array m7):d.toList.map lG=(d.toList.map (·.1)).map fJ:=by rw[List.map_map];rfl
theorem aI9 {w:World} {base g cap:Nat} {es:List bC} {d:Array m7} (h:RowOf w base 73 33 (.slice (some ⟨g,0,none⟩) es.length cap) (es.map fJ)) (hd:d.toList.map (·.1)=es):HoldsK lG 33 w g 0 d:=by
 intro j hj;have hF:=nD lG 33 oA d;rw[vF,hd] at hF;rcases h.own.2 with ⟨h0,_⟩|⟨g',cap',cur,he,h1,h2,h3,h4,h5,h6⟩
 ·cases h0
 ·obtain⟨rfl,rfl⟩:g=g'∧cap=cap':=by injection he with e1 e2 e3;injection e1 with e1;injection e1 with e1;exact⟨e1,e3⟩
  have hjl:j<((es.map fJ).flatten).length:=by rw[←hF];simpa using hj
  have hc:cur.toList[j]? =some (((es.map fJ).flatten)[j]):=by
   rw[←List.getElem?_eq_getElem hjl]
   conv=>rhs;rw[←h6]
   rw[List.getElem?_take,if_pos];have:=h.own.1;rw[this] at hjl;exact hjl
  have hv:(flatK lG 33 d)[j]! =((es.map fJ).flatten)[j]:=by
   rw[getElem!_pos _ j hj,←Array.getElem_toList];simp only[hF]
  rw[hv];refine⟨?_,by simp[World.frozen?,h2]⟩;rw[Nat.zero_add];simp only[World.cell?,h2]
  simpa using hc
theorem aKN {w w':World} {base g cap n:Nat} {es:List bC} {d:Array m7} {os:Array Obj} (h:RowOf w base 73 33 (.slice (some ⟨g,0,none⟩) es.length cap) (es.map fJ)) (hd:d.size=es.length) (hw:w'=sortWorldK lG 33 w g 0 n d os):
 RowOf w' base 73 33 (.slice (some ⟨g,0,none⟩) es.length cap) ((d.toList.map (·.1)).map fJ)∧w.grownBy w' (some g):=by
 subst hw;have hF:=nD lG 33 oA d;rw[vF] at hF;have hsz:((d.toList.map (·.1)).map fJ).length=es.length:=by simp[hd]
 rcases h.own.2 with ⟨h0,_⟩|⟨g',cap',cur,he,h1,h2,h3,h4,h5,h6⟩
 ·cases h0
 ·obtain⟨rfl,rfl⟩:g=g'∧cap=cap':=by injection he with e1 e2 e3;injection e1 with e1;injection e1 with e1;exact⟨e1,e3⟩
  have hg:g<w.heap.size:=(Array.getElem?_eq_some_iff.1 h2).1;have hes:(es.map fJ).length=es.length:=by simp
  have hb:(sortWorldK lG 33 w g 0 n d os).heap[g]? =some (.cells (putCells id 0 (flatK lG 33 d) cur) 73 (0,0)):=by
   unfold sortWorldK grow putRowK putRow mapBlock Sort.ahead;simp only;rw[Array.getElem?_append_left (by simpa using hg),Array.getElem?_modify,if_pos rfl,h2];rfl
  refine⟨⟨fun x hx=>by obtain⟨y,_,rfl⟩:=List.mem_map.1 hx;exact kE y,fun x hx=>by obtain⟨y,_,rfl⟩:=List.mem_map.1 hx;exact mV y,?_,.inr ⟨g,cap,_,by rw[hsz],h1,hb,by rw[hsz];omega,h4,?_,?_⟩⟩,?_⟩
  ·rw[flat_len (k:=33) (fun x hx=>by obtain⟨y,_,rfl⟩:=List.mem_map.1 hx;exact kE y)]
  ·unfold putCells;rw[Array.size_mapIdx];exact h5
  ·rw[hsz,←hF]
   rw[hes] at h3;refine List.ext_getElem ?_ fun t a1 a2=>?_
   ·simp only[List.length_take,Array.length_toList,putCells,Array.size_mapIdx,h5,size_flatK,hd]
    have:es.length*33≤cap*33:=Nat.mul_le_mul_right 33 h3;omega
   ·have ht:t<d.size*33:=by simpa using a2
    simp only[List.getElem_take,Array.getElem_toList,putCells,Array.getElem_mapIdx,size_flatK];rw[if_pos (by omega)];show(flatK lG 33 d)[t - 0]! =_;rw[Nat.sub_zero,getElem!_pos _ t (by simpa using ht)]
  ·refine⟨rfl,rfl,rfl,by unfold sortWorldK;rw[size_grow];show _≤((Sort.ahead w n).heap.modify g _).size+_;rw[Array.size_modify];show w.heap.size≤w.heap.size+_;omega,fun i hi hne=>?_⟩
   unfold sortWorldK grow putRowK putRow mapBlock Sort.ahead;simp only;rw[Array.getElem?_append_left (by simpa using hi),Array.getElem?_modify,if_neg (fun e=>hne (by rw[e]))]
def cfO (a b:m7):Int:=yV a.1 b.1
theorem ltO (a b:m7):ltOf cfO a b=Idx.lt a.1 b.1:=by
 unfold ltOf cfO yV
 cases h:Idx.lt a.1 b.1
 ·by_cases k:Idx.lt b.1 a.1=true<;>simp[k]
 ·simp
theorem aKA:SWO (ltOf cfO) where
 irrefl x:=by rw[ltO];exact Idx.lt_irrefl _
 trans x y z h k:=by rw[ltO] at*;exact Idx.lt_trans h k
 ntrans x y z h k:=by
  rw[ltO] at*
  cases hc:Idx.lt x.1 z.1 with
  |false=>rfl
  |true=>
   by_cases e:x.1=y.1
   ·rw[e,k] at hc;cases hc
   ·have h1:=(Idx.lt_total e).resolve_left (by rw[h];simp)
    have h2:=Idx.lt_trans h1 hc;rw[k] at h2;cases h2
theorem aKL (x y:m7) (h:ltOf cfO x y=false) (k:ltOf cfO y x=false):x=y:=by
 rw[ltO] at*
 by_cases e:x.1=y.1
 ·exact Subtype.ext e
 ·rcases Idx.lt_total e with c|c
  ·rw[h] at c;cases c
  ·rw[k] at c;cases c
theorem aKS (blk off size:Nat) (w:World):CmpLays Tryz.prog 110 #[] lG 33 cfO blk off size w:=fun m os dk _ x y=>by
 have h:=sD x.1 y.1 (sortWorldK lG 33 w blk off m dk os) x.2 y.2;exact h
theorem aKG {d:Array m7} {X:List bC} (hp:X.Perm (d.toList.map (·.1))) (hX:X.Pairwise fun a b=>Idx.lt a b=true):((d.toList.mergeSort fun x y=> !(ltOf cfO) y x).toArray.toList.map (·.1))=X:=by
 rw[List.toList_toArray];have h1:(d.toList.mergeSort fun x y=> !(ltOf cfO) y x).Perm d.toList:=List.mergeSort_perm _ _;have h2:(d.toList.mergeSort fun x y=> !(ltOf cfO) y x).Pairwise fun a b=>(!(ltOf cfO) b a)=true:=by
  refine List.pairwise_mergeSort (fun a b c h k=>?_) (fun a b=>?_) _
  ·simp only[Bool.not_eq_true'] at h k ⊢
   exact aKA.ntrans c b a k h
  ·rw[ltO,ltO]
   cases h:Idx.lt b.1 a.1
   ·rfl
   ·rw[Idx.lt_asymm h];rfl
 have hq:X.Perm ((d.toList.mergeSort fun x y=> !(ltOf cfO) y x).map (·.1)):=hp.trans (h1.symm.map _);symm;refine hq.eq_of_pairwise (le:=fun a b=>Idx.lt b a=false) (fun a b _ _ hab hba=>?_) (hX.imp fun h=>Idx.lt_asymm h) ?_
 ·by_cases e:a=b
  ·exact e
  ·rcases Idx.lt_total e with c|c
   ·rw[hba] at c;cases c
   ·rw[hab] at c;cases c
 ·rw[List.pairwise_map]
  exact h2.imp fun h=>by rw[ltO] at h;simpa using h
set_option linter.all false
def iV:Go.Shelf.Ren:=⟨fun|6=>109|15=>159|14=>158|28=>219|29=>220|20=>211|21=>212|22=>213|23=>214|24=>215|25=>216|26=>217|27=>218|46=>256|47=>257|48=>258|49=>259|50=>260|57=>285|n=>n,fun|22=>55|24=>73|25=>131|3=>3|39=>192|0=>0|53=>44|55=>194|4=>4|46=>331|45=>330|50=>335|5=>5|9=>9|66=>379|70=>383|76=>404|77=>405|n=>n,fun|n=>n⟩
theorem zN:Go.Proofs.SlLaysF0.n6 Tryz.prog iV:={
 mixed:=by kernel_rfl
 f6:=⟨Tryz.f109.name,by decide,Tryz.func109.trans (congrArg some (by kernel_rfl))⟩
 f14:=⟨Tryz.f158.name,by decide,Tryz.func158.trans (congrArg some (by kernel_rfl))⟩
 f15:=Tryz.func159.trans (congrArg some (by kernel_rfl))
 f20:=⟨Tryz.f211.name,by decide,Tryz.func211.trans (congrArg some (by kernel_rfl))⟩
 f21:=⟨Tryz.f212.name,by decide,Tryz.func212.trans (congrArg some (by kernel_rfl))⟩
 f22:=⟨Tryz.f213.name,by decide,Tryz.func213.trans (congrArg some (by kernel_rfl))⟩
 f23:=⟨Tryz.f214.name,by decide,Tryz.func214.trans (congrArg some (by kernel_rfl))⟩
 f24:=⟨Tryz.f215.name,by decide,Tryz.func215.trans (congrArg some (by kernel_rfl))⟩
 f25:=⟨Tryz.f216.name,by decide,Tryz.func216.trans (congrArg some (by kernel_rfl))⟩
 f26:=⟨Tryz.f217.name,by decide,Tryz.func217.trans (congrArg some (by kernel_rfl))⟩
 f27:=⟨Tryz.f218.name,by decide,Tryz.func218.trans (congrArg some (by kernel_rfl))⟩
 f28:=Tryz.func219.trans (congrArg some (by kernel_rfl))
 f29:=Tryz.func220.trans (congrArg some (by kernel_rfl))
 f46:=⟨Tryz.f256.name,by decide,Tryz.func256.trans (congrArg some (by kernel_rfl))⟩
 f47:=Tryz.func257.trans (congrArg some (by kernel_rfl))
 f48:=Tryz.func258.trans (congrArg some (by kernel_rfl))
 f49:=⟨Tryz.f259.name,by decide,Tryz.func259.trans (congrArg some (by kernel_rfl))⟩
 f50:=⟨Tryz.f260.name,by decide,Tryz.func260.trans (congrArg some (by kernel_rfl))⟩
 f57:=⟨Tryz.f285.name,by decide,Tryz.func285.trans (congrArg some (by kernel_rfl))⟩
 t0:=Tryz.underlying0
 a0:=Tryz.isAgg0
 z0:=Tryz.sizeOf0
 v0:=Tryz.zeroValue0
 t3:=Tryz.underlying3
 a3:=Tryz.isAgg3
 z3:=Tryz.sizeOf3
 v3:=Tryz.zeroValue3
 t4:=Tryz.underlying4
 a4:=Tryz.isAgg4
 z4:=Tryz.sizeOf4
 v4:=Tryz.zeroValue4
 t5:=Tryz.underlying5
 a5:=Tryz.isAgg5
 z5:=Tryz.sizeOf5
 v5:=Tryz.zeroValue5
 t9:=Tryz.underlying9
 a9:=Tryz.isAgg9
 z9:=Tryz.sizeOf9
 v9:=Tryz.zeroValue9
 t22:=Tryz.underlying55
 a22:=Tryz.isAgg55
 z22:=Tryz.sizeOf55
 v22:=Tryz.zeroValue55
 t25:=Tryz.underlying131
 a25:=Tryz.isAgg131
 z25:=Tryz.sizeOf131
 v25:=Tryz.zeroValue131
 t39:=Tryz.underlying192
 a39:=Tryz.isAgg192
 z39:=Tryz.sizeOf192
 v39:=Tryz.zeroValue192
 t45:=Tryz.underlying330
 a45:=Tryz.isAgg330
 z45:=Tryz.sizeOf330
 v45:=Tryz.zeroValue330
 t46:=Tryz.underlying331
 a46:=Tryz.isAgg331
 z46:=Tryz.sizeOf331
 v46:=Tryz.zeroValue331
 t50:=Tryz.underlying335
 a50:=Tryz.isAgg335
 z50:=Tryz.sizeOf335
 v50:=Tryz.zeroValue335
 t53:=Tryz.underlying44
 a53:=Tryz.isAgg44
 z53:=Tryz.sizeOf44
 v53:=Tryz.zeroValue44
 t55:=Tryz.underlying194
 a55:=Tryz.isAgg194
 z55:=Tryz.sizeOf194
 v55:=Tryz.zeroValue194
 t66:=Tryz.underlying379
 a66:=Tryz.isAgg379
 z66:=Tryz.sizeOf379
 v66:=Tryz.zeroValue379
 t70:=Tryz.underlying383
 a70:=Tryz.isAgg383
 z70:=Tryz.sizeOf383
 v70:=Tryz.zeroValue383
 t76:=Tryz.underlying404
 a76:=Tryz.isAgg404
 z76:=Tryz.sizeOf404
 v76:=Tryz.zeroValue404
 t77:=Tryz.underlying405
 a77:=Tryz.isAgg405
 z77:=Tryz.sizeOf405
 v77:=Tryz.zeroValue405}
theorem aJN (w:World):(isAgg 73).run Tryz.prog w= .ok true w:=by kernel_rfl
theorem aH1 (w:World):(Go.sizeOf 73).run Tryz.prog w= .ok 33 w:=by kernel_rfl
theorem aCE (v:Value) (base:Nat) (es X:List bC) (w:World) (h:RowOf w base 73 33 v (es.map fJ)) (ho:∀e∈es,Frm.okE e) (hp:X.Perm es) (hX:X.Pairwise fun a b=>Idx.lt a b=true) (hn:es.length<1000000):
 Calls Tryz.prog 109 #[v,.func (.func 110) #[] #[]] w fun e w'=>e= .returned (.tuple #[])∧RowOf w' base 73 33 v (X.map fJ)∧w.grownBy w' v.ownBlock:=by
 by_cases h0:es=[]
 ·subst h0
  obtain rfl:=List.Perm.eq_nil hp;obtain⟨p,cap,rfl⟩:=h.form;refine(AnyF.slices_SortFunc_none (P:=Tryz.prog) (ρ:=iV) zN p cap (.func (.func 110) #[] #[]) w).mono ?_;rintro e w' ⟨rfl,rfl⟩;exact⟨rfl,h,aE _ _⟩
 ·have hl:0<(es.map fJ).length:=by rw[List.length_map];exact List.length_pos_iff.2 h0
  obtain⟨g,cap,rfl,_,hg⟩:=h.pos hl;rw[List.length_map] at h ⊢;obtain⟨d,hd⟩:∃d:Array m7,d.toList.map (·.1)=es:=⟨(es.attach.map fun x=>⟨x.1,ho x.1 x.2⟩).toArray,by simp[List.map_map,Function.comp_def]⟩;have hds:d.size=es.length:=by rw[←hd];simp
  have hc:=AnyQ.slices_SortFunc_total (P:=Tryz.prog) (ρ:=iV) zN 33 aJN aH1 lG oA (fun x=>mV x.1) cfO aKA 110 #[] g 0 cap d w (enters_of Tryz.func110 (by kernel_rfl) rfl) (aKS g 0 d.size w) (aI9 h hd) hg (by omega) aKL;rw[hds] at hc;refine Calls.mono hc ?_;rintro e w' ⟨rfl,n,os,hw⟩;have hr:=aKN h (d:=(d.toList.mergeSort fun x y=> !(ltOf cfO) y x).toArray) (by simp[hds]) hw;rw[aKG (by rw[hd];exact hp) hX] at hr;exact⟨rfl,hr.1,hr.2⟩
end Go.Proofs.YtcoolgnlhheaiaaGreatDoor
