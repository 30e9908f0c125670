import Derived.Deep.Onto
import Derived.Deep.Upon
import Derived.Laws.OwnMore
import Derived.Maps.Keyed
import Derived.Test.YtcoolgnlhheaiaaGreatDoorG14
import Derived.Test.YtcoolgnlhheaiaaGreatDoorG15
namespace Go.Proofs.YtcoolgnlhheaiaaGreatDoor
open Go.RowKit Go.Deep
set_option linter.all false
section
variable {α:Type}
theorem flat_len {k:Nat}:∀{es:List (List α)},(∀x∈es,x.length=k)→es.flatten.length=es.length*k
 |[],_=>by simp
 |x::l,h=>by
  rw[List.flatten_cons,List.length_append,h x (by simp),flat_len (fun y hy=>h y (by simp[hy])),List.length_cons,Nat.succ_mul,Nat.add_comm]
theorem gJ {k:Nat}:∀{es:List (List α)},(∀x∈es,x.length=k)→∀{i j:Nat} {x:List α},es[i]? =some x→j<k→es.flatten[i*k+j]? =x[j]?
 |[],_,i,j,x,hi,_=>by simp at hi
 |y::l,h,0,j,x,hi,hj=>by
  simp at hi;subst hi;have hy:=h y (by simp);rw[List.flatten_cons,Nat.zero_mul,Nat.zero_add,List.getElem?_append_left (by omega)]
 |y::l,h,i+1,j,x,hi,hj=>by
  have hy:=h y (by simp);rw[List.flatten_cons,List.getElem?_append_right (by rw[hy,Nat.succ_mul];omega),hy,show(i+1)*k+j - k=i*k+j by rw[Nat.succ_mul];omega];exact gJ (fun z hz=>h z (by simp[hz])) (by simpa using hi) hj
end
structure RowOf (w:World) (base:Nat) (e:TypeId) (k:Nat) (v:Value) (es:List (List Value)):Prop where
 len:∀x∈es,x.length=k
 one:∀x∈es,∀u∈x,u.oneCell'=true
 own:w.ownsRow base e k v es.length es.flatten
section
variable {w w':World} {base:Nat} {e:TypeId} {k:Nat} {v:Value} {es:List (List Value)}
theorem RowOf.nil (w:World) (base:Nat) (e:TypeId) (k:Nat):RowOf w base e k (.slice none 0 0) []:=⟨by simp,by simp,World.ownsRow_nil _ _ _ _⟩
theorem RowOf.lt (h:RowOf w base e k v es) {g:Nat} (hg:v.ownBlock=some g):base≤g∧g<w.heap.size:=h.own.lt g hg
theorem RowOf.form (h:RowOf w base e k v es):∃p cap,v= .slice p es.length cap:=by
 rcases h.own.2 with ⟨rfl,h0⟩|⟨g,cap,cur,rfl,_⟩
 ·rw[h0];exact⟨none,0,rfl⟩
 ·exact⟨_,cap,rfl⟩
theorem RowOf.mono (h:RowOf w base e k v es) {base':Nat} (hb:base'≤base):RowOf w base' e k v es:=⟨h.len,h.one,h.own.mono hb⟩
theorem RowOf.of_block (h:RowOf w base e k v es) (hg:∀g,v.ownBlock=some g→w'.heap[g]? =w.heap[g]?):RowOf w' base e k v es:=by
 refine⟨h.len,h.one,h.own.1,?_⟩;rcases h.own.2 with ⟨rfl,h0⟩|⟨g,cap,cur,rfl,h1,h2,h3⟩
 ·exact .inl ⟨rfl,h0⟩
 ·exact .inr ⟨g,cap,cur,rfl,h1,(hg g rfl).trans h2,h3⟩
theorem RowOf.pos (h:RowOf w base e k v es) (hl:0<es.length):∃g cap,v= .slice (some ⟨g,0,none⟩) es.length cap∧base≤g∧g<w.heap.size:=by
 rcases h.own.2 with ⟨rfl,h0⟩|⟨g,cap,cur,rfl,h1,h2,h3⟩
 ·omega
 ·exact⟨g,cap,rfl,h1,(Array.getElem?_eq_some_iff.1 h2).1⟩
theorem RowOf.range (h:RowOf w base e k v es) {g:Nat} (hg:v.ownBlock=some g) {i:Nat} {x:List Value} (hx:es[i]? =some x):w.rangeAt g (i*k) x:=fun j u hj=>by
 have hk:=h.len x (List.mem_of_getElem? hx);have hjk:j<k:=by have:=(List.getElem?_eq_some_iff.1 hj).1;omega
 have:=h.own.cells hg (i*k+j) u (by rw[gJ h.len hx hjk];exact hj);rw[Addr.add_mid,Nat.zero_add] at this;exact this
theorem RowOf.there (h:RowOf w base e k v es) {g:Nat} (hg:v.ownBlock=some g) {i:Nat} {x:List Value} (hx:es[i]? =some x):w.there g (i*k) k:=fun j hj=>by
 have hk:=h.len x (List.mem_of_getElem? hx);refine⟨?_,?_⟩
 ·rw[h.range hg hx j x[j] (by rw[List.getElem?_eq_getElem (by omega)])];rfl
 ·rcases h.own.2 with ⟨rfl,_⟩|⟨g',cap,cur,rfl,h1,h2,h3⟩
  ·cases hg
  ·cases hg
   simp[World.frozen?,h2]
end
structure Stp (F F':Nat→Prop) (w w':World):Prop where
 os:w'.os=w.os
 tape:w'.tape=w.tape
 output:w'.output=w.output
 size:w.heap.size≤w'.heap.size
 keep:∀i,i<w.heap.size→¬F i→w'.heap[i]? =w.heap[i]?
 sub:∀i,F' i→F i∨w.heap.size≤i
section
variable {F F' F'' G:Nat→Prop} {w w' w'':World}
theorem Stp.refl (F:Nat→Prop) (w:World):Stp F F w w:=⟨rfl,rfl,rfl,Nat.le_refl _,fun _ _ _=>rfl,fun _ h=>.inl h⟩
theorem Stp.trans (h:Stp F F' w w') (k:Stp F' F'' w' w''):Stp F F'' w w'':=
 ⟨k.os.trans h.os,k.tape.trans h.tape,k.output.trans h.output,Nat.le_trans h.size k.size,fun i hi hf=>
   (k.keep i (Nat.lt_of_lt_of_le hi h.size) (fun hf'=>(h.sub i hf').elim hf (fun h'=>by omega))).trans (h.keep i hi hf),
  fun i hi=>(k.sub i hi).elim (fun h'=>h.sub i h') (fun h'=>.inr (Nat.le_trans h.size h'))⟩
theorem Stp.below (h:Stp F F' w w') {B:Nat} (hB:B≤w.heap.size) (hF:∀i,F i→B≤i):Below B w w':=
 ⟨h.os,h.tape,h.output,h.size,fun i hi=>h.keep i (by omega) (fun hf=>by have:=hF i hf;omega)⟩
theorem Stp.of_below (h:Below w.heap.size w w') (F:Nat→Prop):Stp F F w w':=⟨h.os,h.tape,h.output,h.size,fun i hi _=>h.block i hi,fun _ h=>.inl h⟩
theorem Stp.of_only (h:w.grownBy w' none) (F:Nat→Prop):Stp F F w w':=Stp.of_below (aB h) F
theorem Stp.of_grown {r:Option Nat} (h:w.grownBy w' r) (hr:∀g,r=some g→F g∨w.heap.size≤g):Stp F F w w':=
 ⟨h.os,h.tape,h.output,h.size,fun i hi hf=>h.block i hi (fun e=>(hr i e.symm).elim hf (fun h'=>by omega)),fun _ h=>.inl h⟩
theorem Stp.widen (h:Stp F F' w w') (G:Nat→Prop):Stp (fun i=>F i∨G i) (fun i=>F' i∨G i) w w':=
 ⟨h.os,h.tape,h.output,h.size,fun i hi hf=>h.keep i hi (fun h'=>hf (.inl h')),fun i hi=>hi.elim (fun h'=>(h.sub i h').elim (fun x=>.inl (.inl x)) .inr) (fun x=>.inl (.inr x))⟩
theorem Stp.left (h:Stp F F' w w') (hs:∀i,F'' i→F' i∨w.heap.size≤i):Stp F F'' w w':=
 ⟨h.os,h.tape,h.output,h.size,h.keep,fun i hi=>(hs i hi).elim (h.sub i) .inr⟩
theorem Stp.away (h:Stp F F' w w') {b:Nat} (hb:b<w.heap.size) (hn:¬F b):¬F' b:=fun x=>(h.sub b x).elim hn (fun y=>by omega)
theorem Stp.hb (h:Stp F F' w w') {b:Nat} {cs:Array Value} {t:TypeId} (k:w.heap[b]? =some (.cells cs t (0,0))) (hn:¬F b):w'.heap[b]? =some (.cells cs t (0,0)):=
 (h.keep b (Array.getElem?_eq_some_iff.1 k).1 hn).trans k
end
end Go.Proofs.YtcoolgnlhheaiaaGreatDoor
namespace Go.Proofs.YtcoolgnlhheaiaaGreatDoor
open Go.RowKit Go.Deep Go.Maps Go.ChangeMaps Go.MapKept Go.WideShapes
set_option linter.all false
def mQ (cs:Array Value) (o:Nat):List Value→Array Value
 |[]=>cs
 |v::r=>mQ (cs.setIfInBounds o v) (o+1) r
theorem aA8 (l:List Value):∀(cs:Array Value) (o:Nat),(mQ cs o l).size=cs.size:=by
 induction l with
 |nil=>intro cs o;rfl
 |cons v r ih=>intro cs o;unfold mQ;rw[ih];simp
theorem aH5 (l:List Value):∀(cs:Array Value) (o j:Nat),o+l.length≤cs.size→j<l.length→(mQ cs o l)[o+j]? =l[j]? :=by
 induction l with
 |nil=>intro cs o j _ h;simp at h
 |cons v r ih=>
  intro cs o j h hj;unfold mQ
  cases j with
  |zero=>
   have:∀(l:List Value) (cs:Array Value) (o i:Nat),i<o→(mQ cs o l)[i]? =cs[i]? :=by
    intro l
    induction l with
    |nil=>intro cs o i _;rfl
    |cons v r ih=>intro cs o i hi;unfold mQ;rw[ih _ _ _ (by omega),Array.getElem?_setIfInBounds_ne (by omega)]
   rw[this _ _ _ _ (by omega)];simp at h;simp[show o<cs.size by omega]
  |succ j=>
   simp at h hj;rw[show o+(j+1)=o+1+j by omega,ih _ _ _ (by simp;omega) (by omega)];rfl
theorem aDW (l:List Value):∀(cs:Array Value) (o i:Nat),i<o∨o+l.length≤i→(mQ cs o l)[i]? =cs[i]? :=by
 induction l with
 |nil=>intro cs o i _;rfl
 |cons v r ih=>
  intro cs o i h;simp at h;unfold mQ;rw[ih _ _ _ (by omega),Array.getElem?_setIfInBounds_ne (by omega)]
theorem fU (l:List Value):∀{w:World} {g o:Nat} {cs:Array Value} {t:TypeId},w.heap[g]? =some (.cells cs t (0,0))→(w.setCells g o l).heap[g]? =some (.cells (mQ cs o l) t (0,0)):=by
 induction l with
 |nil=>intro w g o cs t h;exact h
 |cons v r ih=>intro w g o cs t h;exact ih (heap_setCell_same w g o cs t v h)
theorem dZ (l:List Value):∀(w:World) (g o:Nat),w.grownBy (w.setCells g o l) (some g):=by
 induction l with
 |nil=>intro w g o;exact aE _ _
 |cons v r ih=>intro w g o;exact aF (bA (aE _ _) _ _) (ih _ g (o+1))
theorem aFW {k:Nat} {es:List (List Value)} (h:∀x∈es,x.length=k) {i:Nat} {x:List Value} (hx:x.length=k) (hi:i<es.length) {m:Nat}:(es.set i x).flatten[m]? =if i*k≤m∧m<i*k+k then x[m - i*k]? else es.flatten[m]? :=by
 have hs:∀y∈es.set i x,y.length=k:=fun y hy=>by
  rcases List.mem_or_eq_of_mem_set hy with h'|rfl
  ·exact h y h'
  ·exact hx
 by_cases hk:k=0
 ·subst hk
  have e1:(es.set i x).flatten=[]:=List.eq_nil_of_length_eq_zero (by rw[flat_len hs];simp);have e2:es.flatten=[]:=List.eq_nil_of_length_eq_zero (by rw[flat_len h];simp);rw[e1,e2,if_neg (by omega)]
 by_cases hm:m<es.length*k
 ·obtain⟨q,j,rfl,hj⟩:∃q j,m=q*k+j∧j<k:=⟨m / k,m % k,by rw[Nat.mul_comm];exact(Nat.div_add_mod m k).symm,Nat.mod_lt _ (by omega)⟩
  have hq:q<es.length:=by
   rcases Nat.lt_or_ge q es.length with h'|h'
   ·exact h'
   ·have:=Nat.mul_le_mul_right k h';omega
  rw[gJ hs (i:=q) (x:=(es.set i x)[q]'(by simpa using hq)) (by rw[List.getElem?_eq_getElem]) hj]
  by_cases hqi:q=i
  ·subst hqi
   rw[if_pos ⟨by omega,by omega⟩];simp
  ·rw[if_neg (fun hc=>hqi (by
    have a1:i*k<(q+1)*k:=by rw[Nat.succ_mul];omega
    have a2:q*k<(i+1)*k:=by rw[Nat.succ_mul];omega
    have:=Nat.lt_of_mul_lt_mul_right a1;have:=Nat.lt_of_mul_lt_mul_right a2
    omega))]
   rw[gJ h (i:=q) (x:=es[q]) (by rw[List.getElem?_eq_getElem]) hj,List.getElem_set_ne (by omega)]
 ·have:=Nat.mul_le_mul_right k (show i+1≤es.length by omega)
  rw[Nat.succ_mul] at this;rw[if_neg (by omega),List.getElem?_eq_none (by rw[flat_len hs];simp;omega),List.getElem?_eq_none (by rw[flat_len h];omega)]
theorem RowOf.set {w:World} {base:Nat} {e:TypeId} {k:Nat} {v:Value} {es:List (List Value)} (h:RowOf w base e k v es) {g:Nat} (hg:v.ownBlock=some g) {i:Nat} (hi:i<es.length) {x:List Value} (hx:x.length=k) (h1:∀u∈x,u.oneCell'=true):
 RowOf (w.setCells g (i*k) x) base e k v (es.set i x):=by
 rcases h.own.2 with ⟨rfl,h0⟩|⟨g',cap,cur,rfl,hb,hh,hn,hcm,hsz,ht⟩
 ·cases hg
 simp[Value.ownBlock] at hg;subst hg;have hs:∀y∈es.set i x,y.length=k:=fun y hy=>by
  rcases List.mem_or_eq_of_mem_set hy with h'|rfl
  ·exact h.len y h'
  ·exact hx
 refine⟨hs,fun y hy=>?_,by rw[flat_len hs],.inr ⟨g',cap,_,by rw[List.length_set],hb,fU x hh,by rw[List.length_set];exact hn,hcm,by rw[aA8,hsz],?_⟩⟩
 ·rcases List.mem_or_eq_of_mem_set hy with h'|rfl
  ·exact h.one y h'
  ·exact h1
 ·have hik:(i+1)*k≤es.length*k:=Nat.mul_le_mul_right k hi
  have hck:es.length*k≤cap*k:=Nat.mul_le_mul_right k hn;rw[Nat.succ_mul] at hik;apply List.ext_getElem?;intro m;rw[aFW h.len hx hi,List.length_set]
  by_cases hm:m<es.length*k
  ·rw[List.getElem?_take_of_lt hm,Array.getElem?_toList]
   split
   ·rename_i hc
    obtain⟨j,rfl⟩:∃j,m=i*k+j:=⟨m - i*k,by omega⟩;rw[aH5 _ _ _ _ (by omega) (by omega),Nat.add_sub_cancel_left]
   ·rename_i hc
    rw[aDW _ _ _ _ (by omega),←ht,List.getElem?_take_of_lt hm,Array.getElem?_toList]
  ·rw[List.getElem?_eq_none (by rw[List.length_take];omega),if_neg (by omega),List.getElem?_eq_none (by rw[flat_len h.len];omega)]
namespace Dsk
structure D where
 sec:List (List Nat)
 opn:List (Nat×List Nat)
 down:Bool
 steps:Nat
 fails:Int→Bool
 crashes:Int→Option (List Int)
 n:Nat
def lastOf (l:List (Nat×List Nat)) (x:Nat):Option Nat:=(List.range l.length).reverse.find? (fun i=>(l[i]?.map (·.1))==some x)
theorem lastOf_nil (x:Nat):lastOf [] x=none:=rfl
theorem find_congr {α:Type} {l:List α} {p q:α→Bool} (h:∀a∈l,p a=q a):l.find? p=l.find? q:=by
 induction l with
 |nil=>rfl
 |cons a l ih=>
  rw[List.find?_cons,List.find?_cons,h a (by simp),ih (fun b hb=>h b (by simp[hb]))]
theorem lastOf_snoc (l:List (Nat×List Nat)) (a:Nat) (s:List Nat) (x:Nat):lastOf (l++[(a,s)]) x=if x=a then some l.length else lastOf l x:=by
 unfold lastOf;rw[List.length_append,List.length_singleton,List.range_succ,List.reverse_append,List.reverse_singleton,List.singleton_append,List.find?_cons];have e:((l++[(a,s)])[l.length]?.map (·.1))=some a:=by simp
 rw[e]
 by_cases h:x=a
 ·subst h;rw[if_pos rfl];simp
 ·rw[if_neg h]
  rw[show(some a==some x)=false by simpa using fun e=>h e.symm];dsimp only;refine find_congr fun i hi=>?_
  have hil:i<l.length:=by simpa using hi
  rw[List.getElem?_append_left hil]
theorem lastOf_lt {l:List (Nat×List Nat)} {x i:Nat} (h:lastOf l x=some i):i<l.length:=by
 have:=List.mem_of_find?_eq_some h
 simpa using this
def read (D:Dsk.D) (x:Nat):List Nat:=match lastOf D.opn x with
 |some i=>(D.opn[i]?.getD (0,[])).2
 |none=>D.sec.getD x []
def fate (D:Dsk.D):Nat:=if (D.crashes (D.steps+1:Nat)).isSome then 2 else if D.fails (D.steps+1:Nat) then 1 else 0
def cuts (D:Dsk.D):List Int:=(D.crashes (D.steps+1:Nat)).getD []
def stepped (D:Dsk.D):Dsk.D:={ D with steps:=D.steps+1,fails:=fun k=>if k=(D.steps+1:Nat) then false else D.fails k,crashes:=fun k=>if k=(D.steps+1:Nat) then none else D.crashes k,n:=D.n+1}
def added (D:Dsk.D) (x:Nat) (s:List Nat):Dsk.D:={ D with opn:=D.opn++[(x,s)],n:=D.n+1}
def cleared (D:Dsk.D):Dsk.D:={ D with opn:=[]}
def tornS (sec:List (List Nat)) (l:List (Nat×List Nat)) (cuts:List Int):List (List Nat):=
 (List.range l.length).foldl (fun sec i=>let x:=l[i]?.getD (0,[]);sec.set x.1 ((List.range 64).map (tear (fun j=>(sec.getD x.1 []).getD j 0) (fun j=>x.2.getD j 0) (cutN (cuts.getD i 0))))) sec
def crashed (D:Dsk.D) (cuts:List Int):Dsk.D:={ D with sec:=tornS D.sec D.opn cuts,opn:=[],down:=true}
def synced (D:Dsk.D):Dsk.D:={ D with sec:=D.opn.foldl (fun sec x=>sec.set x.1 x.2) D.sec,opn:=[]}
structure ok (D:Dsk.D):Prop where
 sec:∀s∈D.sec,Frm.okS s
 opn:∀x∈D.opn,x.1<D.sec.length∧Frm.okS x.2
 len:D.opn.length≤D.n
 steps:D.steps≤D.n
 room:D.sec.length≤4096
end Dsk
def dB (f:Int→Option Value):Go.Lit→Option Value
 | .int .i64 k=>f k
 |_=>none
def dX (s:List Nat):List Value:=(aH .u8 64 (aT s)).toList
def sG (x:Nat×List Nat):List Value:=.int .i64 x.1::(aH .u8 64 (aT x.2)).toList
theorem uR (s:List Nat):(dX s).length=64:=by unfold dX;rw[Array.length_toList,aA]
theorem aHI (x:Nat×List Nat):(sG x).length=65:=by unfold sG;rw[List.length_cons,Array.length_toList,aA]
theorem mZ (s:List Nat):∀u∈dX s,u.oneCell'=true:=fun u hu=>Array.all_eq_true_iff_forall_mem.1 (aL .u8 64 (aT s)) u (by unfold dX at hu;simpa using hu)
theorem rO (x:Nat×List Nat):∀u∈sG x,u.oneCell'=true:=fun u hu=>by
 unfold sG at hu;rcases List.mem_cons.1 hu with rfl|hu
 ·rfl
 ·exact mZ x.2 u hu
def fL (l:List (Nat×List Nat)):Int→Option Value:=fun k=>if k<0 then none else (Dsk.lastOf l k.toNat).map fun i=>.int .i64 (i:Nat)
def i1 (f:Int→Bool):Int→Option Value:=fun k=>if f k then some (.bool true) else none
def IntB (w:World) (g:Nat):Prop:=∃cs fr,w.heap[g]? =some (.cells cs 3 fr)
theorem IntB.lt {w:World} {g:Nat} (h:IntB w g):g<w.heap.size:=by obtain⟨cs,fr,h⟩:=h;exact(Array.getElem?_eq_some_iff.1 h).1
theorem IntB.of {w w':World} {g:Nat} (h:IntB w g) (e:w'.heap[g]? =w.heap[g]?):IntB w' g:=by obtain⟨cs,fr,h⟩:=h;exact⟨cs,fr,e.trans h⟩
def Iv (w:World) (v:Value) (l:List Int) (S:Nat→Prop):Prop:=
 l.length≤1000000∧∃a c,v= .slice a l.length c∧(l=[]∨∃g o,a=some ⟨g,o,none⟩∧IntB w g∧S g∧∀i x,l[i]? =some x→w.cell? ⟨g,o+i,none⟩=some (.int .i64 x))
structure Dsk.B where
 vs:Value
 vo:Value
 bl:Nat
 bf:Nat
 bc:Nat
 cm:Int→Option Value
def Dsk.B.F (b:Dsk.B) (d:Nat):Nat→Prop:=fun i=>i=d∨b.vs.ownBlock=some i∨b.vo.ownBlock=some i∨i=b.bl∨i=b.bf∨i=b.bc
structure Dk (w:World) (d:Nat) (b:Dsk.B) (D:Dsk.D):Prop where
 ok:Dsk.ok D
 blk:w.heap[d]? =some (.cells #[b.vs,b.vo,.map (some b.bl),.bool D.down,.int .i64 D.steps,.map (some b.bf),.map (some b.bc)] 120 (0,0))
 sec:RowOf w 0 191 64 b.vs (D.sec.map dX)
 opn:RowOf w 0 275 65 b.vo (D.opn.map sG)
 last:MapIs w 3 b.bl D.n (dB (fL D.opn))
 fails:MapIs w 3 b.bf D.n (dB (i1 D.fails))
 crashes:MapIs w 3 b.bc D.n (dB b.cm)
 ne:b.bl≠b.bf∧b.bl≠b.bc∧b.bf≠b.bc
 cuts:∀k,(D.crashes k=none∧b.cm k=none)∨∃l v,D.crashes k=some l∧b.cm k=some v∧Iv w v l (fun g=>¬b.F d g)
theorem Iv.mono {w:World} {v:Value} {l:List Int} {S T:Nat→Prop} (h:Iv w v l S) (hs:∀g,g<w.heap.size→S g→T g):Iv w v l T:=by
 obtain⟨h0,a,c,hv,h|⟨g,o,ha,hg,hS,hc⟩⟩:=h
 ·exact⟨h0,a,c,hv,.inl h⟩
 ·exact⟨h0,a,c,hv,.inr ⟨g,o,ha,hg,hs g hg.lt hS,hc⟩⟩
theorem Iv.keepT {w w':World} {v:Value} {l:List Int} {S:Nat→Prop} (h:Iv w v l S) (hk:∀g,IntB w g→S g→w'.heap[g]? =w.heap[g]?):Iv w' v l S:=by
 obtain⟨h0,a,c,hv,h|⟨g,o,ha,hg,hS,hc⟩⟩:=h
 ·exact⟨h0,a,c,hv,.inl h⟩
 ·exact⟨h0,a,c,hv,.inr ⟨g,o,ha,hg.of (hk g hg hS),hS,fun i x hx=>(World.cell?_of_block (hk g hg hS)).trans (hc i x hx)⟩⟩
theorem Iv.keep {w w':World} {v:Value} {l:List Int} {S:Nat→Prop} (h:Iv w v l S) (_hz:w.heap.size≤w'.heap.size) (hk:∀g,g<w.heap.size→S g→w'.heap[g]? =w.heap[g]?):Iv w' v l S:=
 h.keepT fun g hg hS=>hk g hg.lt hS
theorem RowOf.type {w:World} {base:Nat} {e:TypeId} {k:Nat} {v:Value} {es:List (List Value)} (h:RowOf w base e k v es) {g:Nat} (hg:v.ownBlock=some g):∃cs,w.heap[g]? =some (.cells cs e (0,0)):=by
 rcases h.own.2 with ⟨rfl,h0⟩|⟨g',cap,cur,rfl,hb,hh,_⟩
 ·cases hg
 ·simp[Value.ownBlock] at hg;subst hg;exact⟨_,hh⟩
section
variable {w w':World} {d:Nat} {b:Dsk.B} {D:Dsk.D}
theorem Dk.lt (h:Dk w d b D):d<w.heap.size:=(Array.getElem?_eq_some_iff.1 h.blk).1
theorem Dk.apart (h:Dk w d b D):(∀g,b.vs.ownBlock=some g→g≠d∧g≠b.bl∧g≠b.bf∧g≠b.bc∧b.vo.ownBlock≠some g)∧(∀g,b.vo.ownBlock=some g→g≠d∧g≠b.bl∧g≠b.bf∧g≠b.bc∧b.vs.ownBlock≠some g)∧d≠b.bl∧d≠b.bf∧d≠b.bc:=by
 obtain⟨_,_,ml⟩:=h.last.block;obtain⟨_,_,mf⟩:=h.fails.block;obtain⟨_,_,mc⟩:=h.crashes.block;have t1:(120:Nat)≠191:=by decide
 have t2:(120:Nat)≠275:=by decide
 have t3:(191:Nat)≠275:=by decide
 have hd:=h.blk;refine⟨fun g hg=>?_,fun g hg=>?_,?_,?_,?_⟩
 ·obtain⟨cs,hc⟩:=h.sec.type hg
  refine⟨?_,?_,?_,?_,?_⟩
  ·rintro rfl;rw[hc] at hd;cases hd
  ·rintro rfl;rw[hc] at ml;cases ml
  ·rintro rfl;rw[hc] at mf;cases mf
  ·rintro rfl;rw[hc] at mc;cases mc
  ·intro ho
   obtain⟨cs',hc'⟩:=h.opn.type ho;rw[hc] at hc';cases hc'
 ·obtain⟨cs,hc⟩:=h.opn.type hg
  refine⟨?_,?_,?_,?_,?_⟩
  ·rintro rfl;rw[hc] at hd;cases hd
  ·rintro rfl;rw[hc] at ml;cases ml
  ·rintro rfl;rw[hc] at mf;cases mf
  ·rintro rfl;rw[hc] at mc;cases mc
  ·intro ho
   obtain⟨cs',hc'⟩:=h.sec.type ho;rw[hc] at hc';cases hc'
 ·intro e;rw[←e,hd] at ml;cases ml
 ·intro e;rw[←e,hd] at mf;cases mf
 ·intro e;rw[←e,hd] at mc;cases mc
theorem Dk.keep (h:Dk w d b D) (hz:w.heap.size≤w'.heap.size) (hk:∀i,i<w.heap.size→w'.heap[i]? =w.heap[i]?):Dk w' d b D:=
 ⟨h.ok,(hk _ h.lt).trans h.blk,h.sec.of_block fun g hg=>hk g (h.sec.lt hg).2,h.opn.of_block fun g hg=>hk g (h.opn.lt hg).2,h.last.of_block (hk _ h.last.lt),h.fails.of_block (hk _ h.fails.lt),h.crashes.of_block (hk _ h.crashes.lt),h.ne,
   fun k=>(h.cuts k).imp id fun⟨l,v,h1,h2,h3⟩=>⟨l,v,h1,h2,h3.keep hz fun g hg _=>hk g hg⟩⟩
theorem Dk.below (h:Dk w d b D) (k:Below w.heap.size w w'):Dk w' d b D:=h.keep k.size k.block
theorem Dk.other (h:Dk w d b D) (hk:∀i,i<w.heap.size→b.F d i∨IntB w i→w'.heap[i]? =w.heap[i]?):Dk w' d b D:=
 ⟨h.ok,(hk _ h.lt (.inl (.inl rfl))).trans h.blk,h.sec.of_block fun g hg=>hk g (h.sec.lt hg).2 (.inl (.inr (.inl hg))),h.opn.of_block fun g hg=>hk g (h.opn.lt hg).2 (.inl (.inr (.inr (.inl hg)))),h.last.of_block (hk _ h.last.lt (.inl (.inr (.inr (.inr (.inl rfl)))))),
   h.fails.of_block (hk _ h.fails.lt (.inl (.inr (.inr (.inr (.inr (.inl rfl))))))),h.crashes.of_block (hk _ h.crashes.lt (.inl (.inr (.inr (.inr (.inr (.inr rfl))))))),h.ne,
   fun k=>(h.cuts k).imp id fun⟨l,v,h1,h2,h3⟩=>⟨l,v,h1,h2,h3.keepT fun g hg _=>hk g hg.lt (.inr hg)⟩⟩
theorem Dk.stp {F F':Nat→Prop} (h:Dk w d b D) (k:Stp F F' w w') (hF:∀i,F i→¬b.F d i∧¬IntB w i):Dk w' d b D:=
 h.other fun i hi hb=>k.keep i hi fun hf=>hb.elim (hF i hf).1 (hF i hf).2
end
theorem cW {w:World} {b:Nat} {x0 x1 x2 x3 x4 x5 x6:Value} {t:TypeId} (h:w.heap[b]? =some (.cells #[x0,x1,x2,x3,x4,x5,x6] t (0,0))):
 (w.cell? ⟨b,0,none⟩=some x0∧w.cell? ⟨b,1,none⟩=some x1∧w.cell? ⟨b,2,none⟩=some x2∧w.cell? ⟨b,3,none⟩=some x3∧w.cell? ⟨b,4,none⟩=some x4∧w.cell? ⟨b,5,none⟩=some x5∧w.cell? ⟨b,6,none⟩=some x6)∧
 (w.frozen? ⟨b,0,none⟩=false∧w.frozen? ⟨b,1,none⟩=false∧w.frozen? ⟨b,2,none⟩=false∧w.frozen? ⟨b,3,none⟩=false∧w.frozen? ⟨b,4,none⟩=false∧w.frozen? ⟨b,5,none⟩=false∧w.frozen? ⟨b,6,none⟩=false):=by
 simp[World.cell?,World.frozen?,h]
end Go.Proofs.YtcoolgnlhheaiaaGreatDoor
namespace Go.Proofs.YtcoolgnlhheaiaaGreatDoor
open Go.RowKit Go.Deep
set_option linter.all false
set_option linter.all false
def z8 (w:World) (v v':Value):Prop:=∀g,v'.ownBlock=some g→v.ownBlock=some g∨w.heap.size≤g
structure j6 (e:TypeId) (k bytes:Nat):Prop where
 is:∃i z,Tryz.prog.info? e=some i∧i.zero=some z∧i.size=k∧i.bytes=bytes∧z.cells.size=k
 pos:0<k
theorem RowOf.run_append {w:World} {base:Nat} {e:TypeId} {k bytes:Nat} {v:Value} {es fs:List (List Value)} {t:TypeId} (h:RowOf w base e k v es) (he:j6 e k bytes) (ht:Tryz.prog.underlying t=some (.slice e)) (ty:TypeId)
 (ad:Addr) (c:Nat) (hf:∀x∈fs,x.length=k) (h1:∀x∈fs,∀u∈x,u.oneCell'=true) (hnews:∀j u,fs.flatten[j]? =some u→w.cell? (ad.add j)=some u)
 (hm:es.length+fs.length≤1000000000) (hby:bytes≤100000) (hbase:base≤w.heap.size):
 ∃v' w',(Builtin.append_ #[t,t] ty #[v,.slice (some ad) fs.length c]).run Tryz.prog w= .ok v' w'∧RowOf w' base e k v' (es++fs)∧w.grownBy w' v.ownBlock∧z8 w v v':=by
 obtain⟨i,z,hi,hz,hik,hib,hzk⟩:=he.is;have hbytes:(es.length+fs.length)*bytes≤140737488355328:=by
  have:=Nat.mul_le_mul hm hby;omega
 have hfl:fs.flatten.length=fs.length*k:=flat_len hf;have hone:∀u∈fs.flatten,u.oneCell'=true:=fun u hu=>by
  obtain⟨x,hx,hu⟩:=List.mem_flatten.1 hu;exact h1 x hx u hu
 have fin:∀{v':Value} {w':World},w'.ownsRow base e k v' (es.length+fs.length) (es.flatten++fs.flatten)→RowOf w' base e k v' (es++fs):=fun{v' w'} ho=>by
  refine⟨fun x hx=>(List.mem_append.1 hx).elim (h.len x) (hf x),fun x hx=>(List.mem_append.1 hx).elim (h.one x) (h1 x),?_⟩;rw[List.length_append,List.flatten_append];exact ho
 rcases h.own.2 with ⟨rfl,h0⟩|⟨g,cap,cur,rfl,hb,hh,hn,hcm,hsz,htk⟩
 ·have hes:es=[]:=List.eq_nil_of_length_eq_zero h0
  subst hes;obtain⟨v',w',hr,h2,h3,_⟩:=run_append_own (P:=Tryz.prog) w w.heap.size t ty e i z k bytes ht hi hz hik hib hzk he.pos (.slice none 0 0) 0 [] (World.ownsRow_nil _ _ _ _) ad fs.length c fs.flatten hfl hnews hone (by unfold maxLen;simp at hm;omega) (by simpa using hbytes) (Nat.le_refl _);refine⟨v',w',hr,fin (by simpa using h2.mono hbase),h3,fun g hg=>.inr (h2.lt g hg).1⟩
 ·obtain⟨v',w',hr,h2,h3,_⟩:=run_append_own (P:=Tryz.prog) w base t ty e i z k bytes ht hi hz hik hib hzk he.pos (.slice (some ⟨g,0,none⟩) es.length cap) es.length es.flatten h.own ad fs.length c fs.flatten hfl hnews hone (by unfold maxLen;omega) hbytes hbase
  refine⟨v',w',hr,fin h2,h3,?_⟩
  by_cases hroom:es.length+fs.length≤cap
  ·have hfit:es.length*i.size+fs.flatten.length≤cur.size:=by rw[hfl,hsz,hik,←Nat.add_mul];exact Nat.mul_le_mul_right _ hroom
   have hr2:=run_append_room (P:=Tryz.prog) w t ty e i ht hi g es.length cap cur hh ad fs.length c fs.flatten (by rw[hfl,hik]) hnews hone hroom hfit;rw[hr] at hr2;simp only[Result.ok.injEq] at hr2;obtain⟨rfl,-⟩:=hr2;exact fun g' hg'=>.inl hg'
  ·have holds:∀j u,es.flatten[j]? =some u→w.cell? ((⟨g,0,none⟩:Addr).add j)=some u:=h.own.cells (g:=g) rfl
   have hr2:=run_append_grow (P:=Tryz.prog) w t ty e i z ht hi hz ⟨g,0,none⟩ es.length cap es.flatten (by rw[flat_len h.len,hik]) holds ad fs.length c fs.flatten (by rw[hfl,hik]) hnews (by omega) (by omega) (growslice_fits (by omega) (by rw[hib];exact hbytes));rw[hr] at hr2;simp only[Result.ok.injEq] at hr2;obtain⟨rfl,-⟩:=hr2;intro g' hg';simp[Value.ownBlock] at hg';exact .inr (by omega)
theorem gU {w:World} {ops:Array Oper} {rest:List Oper} {o:Oper} {a:Act} {Q:Exit→Act→World→Prop} {base:Nat} {e:TypeId} {k bytes:Nat} {v:Value} {es fs:List (List Value)} {t:TypeId} (hgd:o.guard=none) (s x:Operand)
 (ho:o.op= .call { callee:=.builtin .append,args:=#[s,x],argTypes:=#[t,t]}) (hs:a.eval s=v) (h:RowOf w base e k v es) (he:j6 e k bytes) (ht:Tryz.prog.underlying t=some (.slice e))
 (ad:Addr) (n c:Nat) (hx:a.eval x= .slice (some ad) n c) (hn:n=fs.length) (hf:∀x∈fs,x.length=k) (h1:∀x∈fs,∀u∈x,u.oneCell'=true) (hnews:∀j u,fs.flatten[j]? =some u→w.cell? (ad.add j)=some u)
 (hm:es.length+fs.length≤1000000000) (hby:bytes≤100000) (hbase:base≤w.heap.size)
 (hK:∀v' w',RowOf w' base e k v' (es++fs)→w.grownBy w' v.ownBlock→z8 w v v'→wpList Tryz.prog ops Q rest (a.put o.dst v') w'):wpList Tryz.prog ops Q (o::rest) a w:=by
 subst hn;obtain⟨v',w',hr,h2,h3,h4⟩:=h.run_append he ht o.type ad c hf h1 hnews hm hby hbase;refine wpList_plain hgd fun K hK'=>?_
 unfold Oper.wp execOp;simp only[ho,resolve,invoke,builtin,Sem.run_bind,Sem.run_pure,Result.andThen_ok,List.map_toArray,List.map_cons,List.map_nil,hs,hx,hr];exact hK' _ _ (hK v' w' h2 h3 h4)
theorem nF {w:World} {ty:TypeId} (hi:(Tryz.prog.info? ty).map (·.size)=some 1) {ad:Addr} {v old:Value} (hc:w.cell? ad=some old) (hf:w.frozen? ad=false) (h1:v.oneCell'=true) (h0:ad.spot=none):(Instr.storeAt ty (.pointer (some ad)) v).run Tryz.prog w= .ok () (w.setCell ad v):=by
 cases hq:Tryz.prog.info? ty with
 |none=>simp[hq] at hi
 |some i=>
  have hs:i.size=1:=by simpa [hq] using hi
  have hcl:v.cells=#[v]:=by cases v<;>first|rfl|cases h1
  simp[Instr.storeAt,Instr.sureAddr,storeVar,sizeOf,typeInfo,hq,hcl,hs,storeCells,run_store,h1,hc,hf,Addr.add]
theorem pP {w:World} {ops:Array Oper} {rest:List Oper} {o:Oper} {a:Act} {Q:Exit→Act→World→Prop} (hgd:o.guard=none) (ty:TypeId) (x y:Operand) (ho:o.op= .store ty x y) (g i:Nat) (hx:a.eval x= .pointer (some ⟨g,i,none⟩)) (v:Value) (hy:a.eval y=v) {old:Value} (hc:w.cell? ⟨g,i,none⟩=some old) (hf:w.frozen? ⟨g,i,none⟩=false) (h1:v.oneCell'=true)
 (hi:(Tryz.prog.info? ty).map (·.size)=some 1) (h:wpList Tryz.prog ops Q rest (a.put o.dst undef) (w.setCell ⟨g,i,none⟩ v)):wpList Tryz.prog ops Q (o::rest) a w:=
 wpList_plain hgd fun _ hK=>by
  unfold Oper.wp execOp;simp only[ho,hx,hy,Sem.run_bind,Sem.run_pure,Result.andThen_ok,nF hi hc hf h1 rfl];exact hK _ _ h
set_option linter.all false
set_option linter.all false
theorem dH (k x:Nat) (hk:1≤k∧k≤8) (h:x<256 ^ k):Wir.putNumber k x=some (Wir.enc k x):=by
 unfold Wir.putNumber;rw[if_neg (by omega),if_pos (by simpa using h)];rfl
theorem Tb.key_rs {W:World} {b:Nat} {r:ByteArray} {u:Value} {ss:List ByteArray} {s e:Int} {key:Nat→Nat} (h:Tb W b r u ss s e key):Rs W (.slice (some ⟨b,4,none⟩) 16 16) (Sea.nl 16 key):=by
 refine⟨Sea.nl_all h.2.2.2,by rw[Sea.nl_length];omega,.inr ⟨_,16,by rw[Sea.nl_length],by rw[Sea.nl_length];omega,fun i hi=>?_⟩⟩;rw[Sea.nl_length] at hi;rw[Sea.nl_get _ _ _ hi];exact h.ck i _ (by simp[aH,hi])
theorem tZ {w:World} {u v x y z:Value} {a b c d e:List Nat} (hu:Rs w u a) (hv:Rs w v b) (hx:Rs w x c) (hy:Rs w y d) (hz:Rs w z e):Bss (w.alloc (.cells #[u,v,x,y,z] 39)) (.slice (some ⟨w.heap.size,0,none⟩) 5 5) [a,b,c,d,e]:=
 gK w [u,v,x,y,z] [a,b,c,d,e] rfl (by simp) fun i t ht=>by
  match i with
  |0=>simp at ht;subst ht;exact hu
  |1=>simp at ht;subst ht;exact hv
  |2=>simp at ht;subst ht;exact hx
  |3=>simp at ht;subst ht;exact hy
  |4=>simp at ht;subst ht;exact hz
  |_+5=>simp at ht
end Go.Proofs.YtcoolgnlhheaiaaGreatDoor
