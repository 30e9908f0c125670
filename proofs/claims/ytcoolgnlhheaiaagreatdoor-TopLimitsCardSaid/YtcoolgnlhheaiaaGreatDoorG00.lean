import Derived.BigQuiet
import Derived.ChangeKeysEq
import Derived.Deep.Draws
import Derived.Deep.OwnRows
import Derived.Deep.QuietTactic
import Derived.Deep.RegionHeld3
import Derived.Laws.AppendOwnNone
import Derived.Laws.CopyOwn
import Derived.Laws.Cover3
import Derived.Laws.StructEq
import Derived.Lib.Hide
import Derived.OpenShut
import Derived.ProofKit
import Derived.StillTailTactics
import Derived.Test.YtcoolgnlhheaiaaGreatDoorRows
import Derived.WalkKit
import Derived.WalkLawsBesides
import Derived.WalkSpells
namespace Wir
def be (l:List Nat):Nat:=l.foldl (fun x c=>x*256+c) 0
theorem be_snoc (l:List Nat) (k:Nat) (h:k<l.length):be (l.take (k+1))=be (l.take k)*256+l.getD k 0:=by
 unfold be;rw[List.take_succ_eq_append_getElem h,List.foldl_append];simp[List.getD,h]
theorem be_lt (l:List Nat) (hl:∀x,x∈l→x<256) (k:Nat) (h:k≤l.length):be (l.take k)<256 ^ k:=by
 induction k with
 |zero=>simp[be]
 |succ k ih=>
  rw[be_snoc l k (by omega),Nat.pow_succ];have:=ih (by omega);have hx:l.getD k 0<256:=by
   have e:l.getD k 0=l[k]:=by simp[List.getD,show k<l.length by omega]
   rw[e];exact hl _ (List.getElem_mem _)
  omega
def enc:Nat→Nat→List Nat
 |0,_=>[]
 |k+1,x=>enc k (x / 256)++[x % 256]
theorem enc_length (k x:Nat):(enc k x).length=k:=by
 induction k generalizing x with
 |zero=>rfl
 |succ k ih=>unfold enc;simp[ih]
theorem aJJ (k x:Nat) (h:x<256 ^ k):be (enc k x)=x:=by
 induction k generalizing x with
 |zero=>simp at h;subst h;rfl
 |succ k ih=>
  unfold enc be;rw[List.foldl_append];have h2:x / 256<256 ^ k:=by rw[Nat.pow_succ] at h;omega
  have:=ih (x / 256) h2;unfold be at this;rw[this];simp;omega
structure R where
 l:List Nat
 bad:Bool
def failed:R:=⟨[],true⟩
def next (r:R) (n:Nat):R×Option (List Nat):=if r.bad=true∨r.l.length<n then (failed,none) else (⟨r.l.drop n,false⟩,some (r.l.take n))
def number (r:R) (k:Int):R×Option Nat:=if k<1∨8<k then (failed,none) else ((next r k.toNat).1,(next r k.toNat).2.map be)
def take (r:R) (n:Int):R×List Nat:=if n<0 then (failed,[]) else ((next r n.toNat).1,(next r n.toNat).2.getD [])
def string (r:R) (k:Int):R×List Nat:=match number r k with
 |(r',none)=>(r',[])
 |(r',some n)=>((next r' n).1,(next r' n).2.getD [])
theorem enc_cons (j x:Nat):enc (j+1) x=(x / 256 ^ j % 256)::enc j x:=by
 induction j generalizing x with
 |zero=>simp[enc]
 |succ j ih=>
  show enc (j+1) (x / 256)++[x % 256]=_;rw[ih (x / 256)];show(x / 256 / 256 ^ j % 256)::(enc j (x / 256)++[x % 256])=(x / 256 ^ (j+1) % 256)::enc (j+1) x;rw[Nat.div_div_eq_div_mul,Nat.pow_succ,Nat.mul_comm 256];rfl
theorem enc_step (k j x:Nat) (h:j<k):(List.replicate (k - j) 0++enc j x).set (k - j - 1) (x / 256 ^ j % 256)=List.replicate (k - (j+1)) 0++enc (j+1) x:=by
 obtain⟨m,hm⟩:∃m,k - j=m+1:=⟨k - j - 1,by omega⟩;rw[enc_cons,hm,show k - (j+1)=m by omega,Nat.add_sub_cancel,List.replicate_succ',List.append_assoc];rw[List.set_append_right _ _ (by simp)];simp
def putNumber (k:Int) (x:Nat):Option (List Nat):=if k<1∨8<k then none else if x<256 ^ k.toNat then some (enc k.toNat x) else none
def putString (k:Int) (l:List Nat):Option (List Nat):=(putNumber k l.length).map (·++l)
def join (ll:List (List Nat)):List Nat:=ll.flatten
theorem join_snoc (ll:List (List Nat)) (k:Nat) (h:k<ll.length):join (ll.take (k+1))=join (ll.take k)++ll.getD k []:=by
 unfold join;rw[List.take_succ_eq_append_getElem h,List.flatten_append];simp[List.getD,h]
theorem join_le (ll:List (List Nat)) (k:Nat):(join (ll.take k)).length≤(join ll).length:=by
 unfold join;have:=congrArg (fun l=>(List.flatten l).length) (List.take_append_drop k ll);simp only[List.flatten_append,List.length_append] at this;omega
theorem get_le (ll:List (List Nat)) (k:Nat) (h:k<ll.length):(join (ll.take k)).length+(ll.getD k []).length≤(join ll).length:=by
 have:=join_le ll (k+1);rw[join_snoc ll k h,List.length_append] at this;exact this
theorem pow_shift (x k:Nat):x / 2 ^ (8*k)=x / 256 ^ k:=by
 rw[show(256:Nat)=2 ^ 8 by rfl,←Nat.pow_mul]
end Wir
namespace Go.Proofs.YtcoolgnlhheaiaaGreatDoor
open Go.RowKit Go.Deep
set_option linter.all false
set_option maxRecDepth 100000
set_option maxHeartbeats 1000000
theorem aJ {α:Type} (l:List α) (i:Nat) (a:α):l.toArray.setIfInBounds i a=(l.set i a).toArray:=List.setIfInBounds_toArray ..
theorem aK {α:Type} (a b:α) (l:List α):(a::l).set 0 b=b::l:=rfl
theorem aI {α:Type} (a b:α) (n:Nat) (l:List α):(a::l).set (n+1) b=a::l.set n b:=rfl
def aD {p:Prop} (h:p):=Lib.hid h
theorem aQ {a b:Prop} (x:a) (y:b):a∧b:=⟨x,y⟩
theorem gQ {k:IntKind} {a b:Int} (h:a=b):Ending.returned (.int k a)= .returned (.int k b):=by rw[h]
theorem eH {P:Program} {f:FuncId} {args:Array Value} {w:World} {n:Nat} {v:Value}
 (h:Calls P f args (w.drewN n) fun e w'=>e= .returned v∧w.drewN n=w'):Calls P f args (w.drewN n) fun e w''=>e= .returned v∧∃m,w''=w.drewN m:=
 h.mono fun _ _ ⟨he,hm⟩=>⟨he,n,hm.symm⟩
theorem aU {B:Nat} {a w:World} (h:Below B a w) (n:Nat):Below B a (w.drewN n):=⟨h.os,h.tape,h.output,h.size,h.block⟩
theorem mA {w:World} {b:Nat} {t:TypeId} {n:Nat} {f:Nat→Value} (h:w.rowIs b t n f) (k:Nat):(w.drewN k).rowIs b t n f:=h
theorem aE (w:World) (r:Option Nat):w.grownBy w r:=⟨rfl,rfl,rfl,Nat.le_refl _,fun _ _ _=>rfl⟩
theorem aF {a b c:World} {r:Option Nat} (h:a.grownBy b r) (k:b.grownBy c r):a.grownBy c r:=
 ⟨k.os.trans h.os,k.tape.trans h.tape,k.output.trans h.output,Nat.le_trans h.size k.size,fun i hi hn=>(k.block i (Nat.lt_of_lt_of_le hi h.size) hn).trans (h.block i hi hn)⟩
theorem aC {a w:World} (h:Below a.heap.size a w) (r:Option Nat):a.grownBy w r:=⟨h.os,h.tape,h.output,h.size,fun i hi _=>h.block i hi⟩
theorem aB {a w:World} (h:a.grownBy w none):Below a.heap.size a w:=⟨h.os,h.tape,h.output,h.size,fun i hi=>h.block i hi (by simp)⟩
theorem aM {a w:World} {r:Option Nat} (h:a.grownBy w r) (n:Nat):a.grownBy (w.drewN n) r:=⟨h.os,h.tape,h.output,h.size,h.block⟩
theorem aG {a w:World} {r:Option Nat} (h:a.grownBy w r) (o:Obj):a.grownBy (w.alloc o) r:=
 ⟨h.os,h.tape,h.output,Nat.le_trans h.size (by simp),fun i hi hne=>(Below.heap_alloc w o i (Nat.lt_of_lt_of_le hi h.size)).trans (h.block i hi hne)⟩
theorem kS {a w:World} {g:Nat} (h:a.grownBy w (some g)) {p:Addr} (hp:p.block=g∨a.heap.size≤p.block) (u:Value):a.grownBy (w.setCell p u) (some g):=
 ⟨h.os,h.tape,h.output,by simpa [World.setCell] using h.size,fun i hi hne=>(Below.heap_setCell w p u i (by
   rintro rfl;rcases hp with hp|hp
   ·exact hne (by rw[hp])
   ·omega)).trans (h.block i hi hne)⟩
theorem bA {a w:World} {g:Nat} (h:a.grownBy w (some g)) (i:Nat) (u:Value):a.grownBy (w.setCell ⟨g,i,none⟩ u) (some g):=kS h (.inl rfl) u
theorem aP {B:Nat} {a w w':World} {r:Option Nat} (h:Below B a w) (hB:B≤a.heap.size) (k:w.grownBy w' r) (hr:∀g,r=some g→B≤g):Below B a w':=
 h.grown k (Nat.le_trans hB h.size) hr
theorem fC {a w w':World} {r:Option Nat} (h:a.grownBy w r) (k:Below w.heap.size w w'):a.grownBy w' r:=aF h (aC k r)
abbrev bv (n:Nat):Value:=Value.int .u8 (n:Int)
def AllB (l:List Nat):Prop:=∀x,x∈l→x<256
theorem AllB.nil:AllB []:=fun _ h=>by cases h
theorem AllB.append {l m:List Nat} (h:AllB l) (k:AllB m):AllB (l++m):=fun x hx=>(List.mem_append.1 hx).elim (h x) (k x)
theorem AllB.take {l:List Nat} (h:AllB l) (n:Nat):AllB (l.take n):=fun x hx=>h x (List.mem_of_mem_take hx)
theorem AllB.drop {l:List Nat} (h:AllB l) (n:Nat):AllB (l.drop n):=fun x hx=>h x (List.mem_of_mem_drop hx)
theorem AllB.get {l:List Nat} (h:AllB l) (i:Nat):l.getD i 0<256:=by
 by_cases hi:i<l.length
 ·have e:l.getD i 0=l[i]:=by simp[List.getD,hi]
  rw[e];exact h _ (List.getElem_mem hi)
 ·have e:l.getD i 0=0:=by simp[List.getD,List.getElem?_eq_none (Nat.le_of_not_lt hi)]
  rw[e];decide
theorem AllB.one {n:Nat} (h:n<256):AllB [n]:=fun x hx=>by
 rw[List.mem_singleton] at hx;rw[hx];exact h
theorem AllB.set {l:List Nat} (h:AllB l) (i n:Nat) (hn:n<256):AllB (l.set i n):=fun x hx=>by
 rcases List.mem_or_eq_of_mem_set hx with h'|rfl
 ·exact h x h'
 ·exact hn
theorem AllB.replicate (n m:Nat) (hm:m<256):AllB (List.replicate n m):=fun x hx=>by
 rw[(List.mem_replicate.1 hx).2];exact hm
def Bs (w:World) (v:Value) (l:List Nat):Prop:=
 AllB l∧∃a cap,v= .slice a l.length cap∧l.length≤cap∧cap≤9223372036854775807∧
  ((a=none∧l=[]∧cap=0)∨∃b off,a=some ⟨b,off,none⟩∧b<w.heap.size∧∀i,i<l.length→w.cell? ⟨b,off+i,none⟩=some (bv (l.getD i 0)))
theorem Bs.all {w:World} {v:Value} {l:List Nat} (h:Bs w v l):AllB l:=h.1
theorem Bs.nil (w:World):Bs w (.slice none 0 0) []:=⟨AllB.nil,none,0,rfl,by simp,by omega,.inl ⟨rfl,rfl,rfl⟩⟩
theorem Bs.cases {w:World} {v:Value} {l:List Nat} (h:Bs w v l):(v= .slice none 0 0∧l=[])∨∃b off cap,v= .slice (some ⟨b,off,none⟩) l.length cap∧l.length≤cap∧cap≤9223372036854775807∧b<w.heap.size∧∀i,i<l.length→w.cell? ⟨b,off+i,none⟩=some (bv (l.getD i 0)):=by
 obtain⟨_,a,cap,rfl,h1,h2,⟨rfl,rfl,rfl⟩|⟨b,off,rfl,hb,hc⟩⟩:=h
 ·exact .inl ⟨rfl,rfl⟩
 ·exact .inr ⟨b,off,cap,rfl,h1,h2,hb,hc⟩
theorem Bs.of_blocks {w w':World} {v:Value} {l:List Nat} (h:Bs w v l) (hs:w.heap.size≤w'.heap.size) (hb:∀b,v.ownBlock=some b→w'.heap[b]? =w.heap[b]?):Bs w' v l:=by
 obtain⟨h0,a,cap,rfl,h1,h2,⟨rfl,rfl,rfl⟩|⟨b,off,rfl,hlt,hc⟩⟩:=h
 ·exact⟨h0,none,0,rfl,h1,h2,.inl ⟨rfl,rfl,rfl⟩⟩
 ·exact⟨h0,_,cap,rfl,h1,h2,.inr ⟨b,off,rfl,by omega,fun i hi=>(World.cell?_of_block (hb b rfl)).trans (hc i hi)⟩⟩
theorem Bs.lt {w:World} {v:Value} {l:List Nat} (h:Bs w v l):∀b,v.ownBlock=some b→b<w.heap.size:=by
 obtain⟨h0,a,cap,rfl,h1,h2,⟨rfl,rfl,rfl⟩|⟨b,off,rfl,hlt,hc⟩⟩:=h
 ·intro b hb;simp[Value.ownBlock] at hb
 ·intro b' hb;simp[Value.ownBlock] at hb;omega
theorem Bs.below {w w':World} {v:Value} {l:List Nat} (h:Bs w v l) (k:Below w.heap.size w w'):Bs w' v l:=
 h.of_blocks k.size fun b hb=>k.block b (h.lt b hb)
theorem Bs.only {w w':World} {v:Value} {l:List Nat} {r:Option Nat} (h:Bs w v l) (k:w.grownBy w' r) (hne:v.ownBlock=none∨v.ownBlock≠r):Bs w' v l:=
 h.of_blocks k.size fun b hb=>k.block b (h.lt b hb) (by rcases hne with h'|h'<;>simp_all)
theorem Bs.len {w:World} {v:Value} {l:List Nat} (h:Bs w v l):l.length≤9223372036854775807:=by
 obtain⟨_,a,cap,_,h1,h2,_⟩:=h;omega
theorem tD {w:World} {b off n cap:Nat} {l:List Nat} (hall:AllB l) (hn:l.length=n) (h1:n≤cap) (h2:cap≤9223372036854775807) (hlt:b<w.heap.size)
 (hc:∀i,i<l.length→w.cell? ⟨b,off+i,none⟩=some (bv (l.getD i 0))):Bs w (.slice (some ⟨b,off,none⟩) n cap) l:=by
 subst hn;exact⟨hall,_,cap,rfl,h1,h2,.inr ⟨b,off,rfl,hlt,hc⟩⟩
theorem jR (l:List Nat) (n i:Nat) (h:i<n):(l.take n).getD i 0=l.getD i 0:=by
 simp[List.getD,h]
theorem qT (l:List Nat) (n i:Nat):(l.drop n).getD i 0=l.getD (n+i) 0:=by
 simp[List.getD,List.getElem?_drop]
theorem aAU {w:World} {b off cap cap' n:Nat} {l:List Nat} (h:Bs w (.slice (some ⟨b,off,none⟩) l.length cap) l) (hn:n≤l.length) (h1:n≤cap') (h2:cap'≤9223372036854775807):Bs w (.slice (some ⟨b,off,none⟩) n cap') (l.take n):=by
 rcases h.cases with ⟨h',_⟩|⟨b',off',cap0,h',_,_,hlt,hc⟩
 ·simp at h'
 ·simp only[Value.slice.injEq,Option.some.injEq,Addr.mk.injEq,and_true,true_and] at h'
  obtain⟨⟨rfl,rfl⟩,rfl⟩:=h';refine tD (h.1.take n) (by rw[List.length_take];omega) h1 h2 hlt fun i hi=>?_
  have hi':i<n:=by rw[List.length_take] at hi;omega
  rw[hc i (by omega),jR _ _ _ hi']
theorem aGW {w:World} {b off cap cap' n:Nat} {l:List Nat} (h:Bs w (.slice (some ⟨b,off,none⟩) l.length cap) l) (hn:n≤l.length) (h1:l.length - n≤cap') (h2:cap'≤9223372036854775807):Bs w (.slice (some ⟨b,off+n,none⟩) (l.length - n) cap') (l.drop n):=by
 rcases h.cases with ⟨h',_⟩|⟨b',off',cap0,h',_,_,hlt,hc⟩
 ·simp at h'
 ·simp only[Value.slice.injEq,Option.some.injEq,Addr.mk.injEq,and_true,true_and] at h'
  obtain⟨⟨rfl,rfl⟩,rfl⟩:=h';refine tD (h.1.drop n) (by rw[List.length_drop]) h1 h2 hlt fun i hi=>?_
  have hi':i<l.length - n:=by rw[List.length_drop] at hi;omega
  rw[qT,Nat.add_assoc];exact hc (n+i) (by omega)
theorem aGJ {w:World} {b off cap:Nat} (h2:cap≤9223372036854775807) (hlt:b<w.heap.size):Bs w (.slice (some ⟨b,off,none⟩) 0 cap) []:=
 tD AllB.nil rfl (Nat.zero_le _) h2 hlt fun i hi=>by simp at hi
def Rs (w:World) (v:Value) (l:List Nat):Prop:=
 AllB l∧l.length≤9223372036854775807∧((v= .slice none 0 0∧l=[])∨∃x cap,v= .slice (some x) l.length cap∧(l.length≤cap∧cap≤9223372036854775807)∧∀i,i<l.length→w.cell? (x.add i)=some (bv (l.getD i 0)))
theorem Rs.all {w:World} {v:Value} {l:List Nat} (h:Rs w v l):AllB l:=h.1
theorem Rs.len {w:World} {v:Value} {l:List Nat} (h:Rs w v l):l.length≤9223372036854775807:=h.2.1
theorem Rs.form {w:World} {v:Value} {l:List Nat} (h:Rs w v l):∃a cap,v= .slice a l.length cap:=by
 rcases h.2.2 with ⟨e,rfl⟩|⟨x,cap,e,_⟩
 ·exact⟨none,0,e⟩
 ·exact⟨some x,cap,e⟩
theorem Rs.below {w w':World} {v:Value} {l:List Nat} (h:Rs w v l) (k:Below w.heap.size w w'):Rs w' v l:=by
 obtain⟨h0,h1,h|⟨x,cap,h,hcap,hc⟩⟩:=h
 ·exact⟨h0,h1,.inl h⟩
 ·exact⟨h0,h1,.inr ⟨x,cap,h,hcap,fun i hi=>(k.cell (World.block_lt_of_cell? w _ (hc i hi))).trans (hc i hi)⟩⟩
theorem Bs.rs {w:World} {v:Value} {l:List Nat} (h:Bs w v l):Rs w v l:=by
 rcases h.cases with ⟨rfl,rfl⟩|⟨b,off,cap,rfl,h1,h2,_,hc⟩
 ·exact⟨h.1,by simp,.inl ⟨rfl,rfl⟩⟩
 ·exact⟨h.1,by omega,.inr ⟨_,cap,rfl,⟨h1,h2⟩,fun i hi=>by rw[Addr.add_lit];exact hc i hi⟩⟩
theorem Rs.at {w:World} {a:Option Addr} {n cap:Nat} {l:List Nat} (h:Rs w (.slice a n cap) l) {k:Nat} (hk:k<l.length):∃b off,a=some ⟨b,off,none⟩∧∀i,i<l.length→w.cell? ⟨b,off+i,none⟩=some (bv (l.getD i 0)):=by
 rcases h.2.2 with ⟨_,rfl⟩|⟨x,cap',h',_,hc⟩
 ·simp at hk
 ·simp only[Value.slice.injEq] at h'
  obtain⟨rfl,-,-⟩:=h';obtain⟨b,off,spot⟩:=x;have h0:=hc 0 (by omega);have hs:spot=none:=by simpa [Addr.add] using World.cell?_spot h0
  subst hs;exact⟨b,off,rfl,fun i hi=>by have:=hc i hi;rwa [Addr.add_lit] at this⟩
def Own (w:World) (base:Nat) (v:Value) (l:List Nat):Prop:=AllB l∧w.ownsRow base 5 1 v l.length (l.map bv)
theorem Own.nil (w:World) (base:Nat):Own w base (.slice none 0 0) []:=⟨AllB.nil,World.ownsRow_nil _ _ _ _⟩
theorem Own.cases {w:World} {base:Nat} {v:Value} {l:List Nat} (h:Own w base v l):(v= .slice none 0 0∧l=[])∨∃g cap,v= .slice (some ⟨g,0,none⟩) l.length cap∧base≤g∧g<w.heap.size∧l.length≤cap∧cap≤9223372036854775807∧
 (∀i,i<l.length→w.cell? ⟨g,i,none⟩=some (bv (l.getD i 0)))∧∀i,w.frozen? ⟨g,i,none⟩=false:=by
 obtain⟨h0,h1⟩:=h;rcases h1.2 with ⟨rfl,hn⟩|⟨g,cap,cur,rfl,hb,hg,hn,hc,hs,ht⟩
 ·exact .inl ⟨rfl,List.eq_nil_of_length_eq_zero hn⟩
 ·refine .inr ⟨g,cap,rfl,hb,(Array.getElem?_eq_some_iff.1 hg).1,hn,hc,fun i hi=>?_,fun i=>h1.frozenAt i⟩
  rw[h1.cellAt i (by omega)];simp[List.getD,hi]
theorem Own.bs {w:World} {base:Nat} {v:Value} {l:List Nat} (h:Own w base v l):Bs w v l:=by
 rcases h.cases with ⟨rfl,rfl⟩|⟨g,cap,rfl,_,hg,h1,h2,hc,_⟩
 ·exact Bs.nil w
 ·exact⟨h.1,_,cap,rfl,h1,h2,.inr ⟨g,0,rfl,hg,fun i hi=>by rw[Nat.zero_add];exact hc i hi⟩⟩
theorem Own.lt {w:World} {base:Nat} {v:Value} {l:List Nat} (h:Own w base v l):∀g,v.ownBlock=some g→base≤g∧g<w.heap.size:=h.2.lt
theorem Own.only {w w':World} {base:Nat} {v:Value} {l:List Nat} {r:Option Nat} (h:Own w base v l) (k:w.grownBy w' r) (hne:v.ownBlock=none∨v.ownBlock≠r):Own w' base v l:=⟨h.1,h.2.kept k hne⟩
theorem Own.below {w w':World} {base:Nat} {v:Value} {l:List Nat} (h:Own w base v l) (k:Below w.heap.size w w'):Own w' base v l:=h.only (aC k none) (by cases hv:v.ownBlock<;>simp)
theorem Own.drewN {w:World} {base:Nat} {v:Value} {l:List Nat} (h:Own w base v l) (n:Nat):Own (w.drewN n) base v l:=h
theorem Own.alloc {w:World} {base:Nat} {v:Value} {l:List Nat} (h:Own w base v l) (o:Obj):Own (w.alloc o) base v l:=⟨h.1,h.2.alloc o⟩
theorem Own.mono {w:World} {base base':Nat} {v:Value} {l:List Nat} (h:Own w base v l) (hb:base'≤base):Own w base' v l:=by
 obtain⟨h0,h1,h2⟩:=h;refine⟨h0,h1,?_⟩;rcases h2 with h2|⟨g,cap,cur,hv,hg,hh⟩
 ·exact .inl h2
 ·exact .inr ⟨g,cap,cur,hv,by omega,hh⟩
theorem Own.set {w:World} {base g cap n:Nat} {l:List Nat} (h:Own w base (.slice (some ⟨g,0,none⟩) n cap) l) (i m:Nat) (hm:m<256):
 Own (w.setCell ⟨g,i,none⟩ (bv m)) base (.slice (some ⟨g,0,none⟩) n cap) (l.set i m)∧w.grownBy (w.setCell ⟨g,i,none⟩ (bv m)) (some g):=by
 have hn:n=l.length:=by
  rcases h.2.2 with ⟨h',_⟩|⟨g',cap',cur,h',_⟩
  ·simp at h'
  ·simp at h';exact h'.2.1
 subst hn;obtain⟨h1,h2⟩:=h.2.stored i (bv m);refine⟨⟨h.1.set i m hm,?_⟩,h2⟩;rw[List.length_set,List.map_set];exact h1
theorem Own.cellAt {w:World} {base g n cap:Nat} {l:List Nat} (h:Own w base (.slice (some ⟨g,0,none⟩) n cap) l) {i:Nat} (hi:i<l.length):w.cell? ⟨g,i,none⟩=some (bv (l.getD i 0)):=by
 rcases h.cases with ⟨h',_⟩|⟨g',cap',h',_,_,_,_,hc,_⟩
 ·simp at h'
 ·simp only[Value.slice.injEq,Option.some.injEq,Addr.mk.injEq,and_true] at h'
  obtain⟨rfl,-,-⟩:=h';exact hc i hi
theorem Own.frozenAt {w:World} {base g n cap:Nat} {l:List Nat} (h:Own w base (.slice (some ⟨g,0,none⟩) n cap) l) (i:Nat):w.frozen? ⟨g,i,none⟩=false:=by
 rcases h.cases with ⟨h',_⟩|⟨g',cap',h',_,_,_,_,_,hf⟩
 ·simp at h'
 ·simp only[Value.slice.injEq,Option.some.injEq,Addr.mk.injEq,and_true] at h'
  obtain⟨rfl,-,-⟩:=h';exact hf i
theorem bL (w:World) (base:Nat) (l:List Nat) (hl:AllB l) (hb:base≤w.heap.size) (h63:l.length≤9223372036854775807):
 Own (w.alloc (.cells (l.map bv).toArray 5)) base (.slice (some ⟨w.heap.size,0,none⟩) l.length l.length) l:=
 ⟨hl,by simp,.inr ⟨w.heap.size,l.length,(l.map bv).toArray,rfl,hb,heap_alloc_new w _,Nat.le_refl _,h63,by simp,by simp[List.take_of_length_le]⟩⟩
theorem dC:(Tryz.prog.info? 5).map (fun i=>(i.zero,i.size,i.bytes))=some (some (.int .u8 0),1,1):=by kernel_rfl
theorem bW {w:World} {ops:Array Oper} {rest:List Oper} {o:Oper} {a:Act} {Q:Exit→Act→World→Prop} (hgd:o.guard=none) (s x:Operand)
 (ho:o.op= .call { callee:=.builtin .append,args:=#[s,x],argTypes:=#[39,39]})
 (base:Nat) (v:Value) (l:List Nat) (hs:a.eval s=v) (hown:Own w base v l) (x':Value) (l2:List Nat) (hx:a.eval x=x') (hsrc:Bs w x' l2)
 (hbytes:l.length+l2.length≤140737488355328) (hbase:base≤w.heap.size)
 (h:∀v' w',Own w' base v' (l++l2)→w.grownBy w' v.ownBlock→wpList Tryz.prog ops Q rest (a.put o.dst v') w'):wpList Tryz.prog ops Q (o::rest) a w:=by
 obtain⟨i0,hi,hz0,hz1,hz2⟩:=info_parts dC;rcases hsrc.cases with ⟨rfl,rfl⟩|⟨b,off,cap,rfl,h1,h2,hb,hc⟩
 ·refine wpList_append_own_none hgd s x 39 ho base 5 i0 1 Tryz.underlying39 hi v l.length (l.map bv) hs hown.2 hx ?_
  exact h v w (by rw[List.append_nil];exact hown) (aE _ _)
 ·refine wpList_append_own w hgd s x 39 ho base 5 i0 (.int .u8 0) 1 1 Tryz.underlying39 hi hz0 hz1 hz2 rfl (by decide) v l.length (l.map bv) hs hown.2 ⟨b,off,none⟩ l2.length cap (l2.map bv) hx (by simp) ?_ ?_ ?_ (by omega) hbase ?_
  ·intro j u hj
   have hjl:j<l2.length:=by
    rcases Nat.lt_or_ge j l2.length with h'|h'
    ·exact h'
    ·rw[List.getElem?_eq_none (by simpa using h')] at hj;cases hj
   rw[Addr.add_lit,hc j hjl];simp[hjl] at hj;simp[List.getD,hjl,hj]
  ·intro u hu
   obtain⟨_,_,rfl⟩:=List.mem_map.1 hu;rfl
  ·unfold maxLen;omega
  ·intro v' w' h3 h4 _
   refine h v' w' ⟨hown.1.append hsrc.1,?_⟩ h4;rw[List.length_append,List.map_append];exact h3
theorem iO {w:World} {ops:Array Oper} {rest:List Oper} {o:Oper} {a:Act} {Q:Exit→Act→World→Prop} (hgd:o.guard=none) (l c:Operand)
 (ho:o.op=Op.makeSlice 39 l c) (base:Nat) (kl kc:IntKind) (C:Int) (n:Nat) (hl:a.eval l= .int kl 0) (hc:a.eval c= .int kc C) (hC:C=(n:Int)) (hn:n≤281474976710656) (hbase:base≤w.heap.size)
 (h:∀w',Own w' base (.slice (some ⟨w.heap.size,0,none⟩) 0 n) []→w.grownBy w' none→wpList Tryz.prog ops Q rest (a.put o.dst (.slice (some ⟨w.heap.size,0,none⟩) 0 n)) w'):wpList Tryz.prog ops Q (o::rest) a w:=by
 obtain⟨i0,hi,hz0,hz1,hz2⟩:=info_parts dC;refine wpList_make_own w hgd l c 39 ho base 5 i0 (.int .u8 0) 1 Tryz.underlying39 hi hz0 hz1 kl kc C n hl hc hC (by rw[hz2];omega) (by unfold maxLen;omega) hbase ?_;intro w' h1 h2;exact h w' ⟨AllB.nil,h1⟩ h2
theorem xB (n:Nat):(madeCells #[Value.int .u8 0] n).toList=(List.replicate n 0).map bv:=by
 apply List.ext_getElem
 ·simp[madeCells]
 ·intro i h1 h2
  simp[madeCells,Nat.mod_one,bv]
theorem dE {w:World} {ops:Array Oper} {rest:List Oper} {o:Oper} {a:Act} {Q:Exit→Act→World→Prop} (hgd:o.guard=none) (l c:Operand)
 (ho:o.op=Op.makeSlice 39 l c) (base:Nat) (kl kc:IntKind) (L C:Int) (n:Nat) (hl:a.eval l= .int kl L) (hc:a.eval c= .int kc C) (hL:L=(n:Int)) (hC:C=(n:Int)) (hn:n≤281474976710656) (hbase:base≤w.heap.size)
 (h:∀w',Own w' base (.slice (some ⟨w.heap.size,0,none⟩) n n) (List.replicate n 0)→w.grownBy w' none→wpList Tryz.prog ops Q rest (a.put o.dst (.slice (some ⟨w.heap.size,0,none⟩) n n)) w'):wpList Tryz.prog ops Q (o::rest) a w:=by
 obtain⟨i0,hi,hz0,hz1,hz2⟩:=info_parts dC;refine wpList_make_full w hgd l c 39 ho base 5 i0 (.int .u8 0) 1 Tryz.underlying39 hi hz0 hz1 kl kc L C n hl hc hL hC (by rw[hz2];omega) (by unfold maxLen;omega) hbase ?_;intro w' h1 h2;refine h w' ⟨AllB.replicate _ _ (by omega),?_⟩ h2;rw[List.length_replicate,←xB];have e:(Value.int IntKind.u8 0).cells=#[Value.int IntKind.u8 0]:=rfl;rw[e,Nat.mul_one] at h1;exact h1
theorem bB {w:World} {ops:Array Oper} {rest:List Oper} {o:Oper} {a:Act} {Q:Exit→Act→World→Prop} (hgd:o.guard=none) (s x:Operand)
 (ho:o.op= .call { callee:=.builtin .append,args:=#[s,x],argTypes:=#[39,39]})
 (base:Nat) (v:Value) (l:List Nat) (hs:a.eval s=v) (hown:Own w base v l) (x':Value) (l2:List Nat) (hx:a.eval x=x') (hsrc:Rs w x' l2)
 (hbytes:l.length+l2.length≤140737488355328) (hbase:base≤w.heap.size)
 (h:∀v' w',Own w' base v' (l++l2)→w.grownBy w' v.ownBlock→wpList Tryz.prog ops Q rest (a.put o.dst v') w'):wpList Tryz.prog ops Q (o::rest) a w:=by
 obtain⟨i0,hi,hz0,hz1,hz2⟩:=info_parts dC;rcases hsrc.2.2 with ⟨rfl,rfl⟩|⟨ad,cap,rfl,_,hc⟩
 ·refine wpList_append_own_none hgd s x 39 ho base 5 i0 1 Tryz.underlying39 hi v l.length (l.map bv) hs hown.2 hx ?_
  exact h v w (by rw[List.append_nil];exact hown) (aE _ _)
 ·refine wpList_append_own w hgd s x 39 ho base 5 i0 (.int .u8 0) 1 1 Tryz.underlying39 hi hz0 hz1 hz2 rfl (by decide) v l.length (l.map bv) hs hown.2 ad l2.length cap (l2.map bv) hx (by simp) ?_ ?_ ?_ (by omega) hbase ?_
  ·intro j u hj
   have hjl:j<l2.length:=by
    rcases Nat.lt_or_ge j l2.length with h'|h'
    ·exact h'
    ·rw[List.getElem?_eq_none (by simpa using h')] at hj;cases hj
   rw[hc j hjl];simp[hjl] at hj;simp[List.getD,hjl,hj]
  ·intro u hu
   obtain⟨_,_,rfl⟩:=List.mem_map.1 hu;rfl
  ·unfold maxLen;omega
  ·intro v' w' h3 h4 _
   refine h v' w' ⟨hown.1.append hsrc.1,?_⟩ h4;rw[List.length_append,List.map_append];exact h3
def Bss (w:World) (v:Value) (ll:List (List Nat)):Prop:=
 ∃a cap,v= .slice a ll.length cap∧ll.length≤9223372036854775807∧(ll≠[]→∃b off,a=some ⟨b,off,none⟩∧∀i,i<ll.length→∃u,w.cell? ⟨b,off+i,none⟩=some u∧Rs w u (ll.getD i []))
theorem Bss.below {w w':World} {v:Value} {ll:List (List Nat)} (h:Bss w v ll) (k:Below w.heap.size w w'):Bss w' v ll:=by
 obtain⟨a,cap,rfl,hl,h⟩:=h;refine⟨_,cap,rfl,hl,fun hne=>?_⟩;obtain⟨b,off,rfl,hc⟩:=h hne;refine⟨b,off,rfl,fun i hi=>?_⟩;obtain⟨u,hu,hb⟩:=hc i hi;exact⟨u,(k.cell (World.block_lt_of_cell? w _ hu)).trans hu,hb.below k⟩
theorem Bss.at {w:World} {a:Option Addr} {n cap:Nat} {ll:List (List Nat)} (h:Bss w (.slice a n cap) ll) {k:Nat} (hk:k<ll.length):∃b off u,a=some ⟨b,off,none⟩∧w.cell? ⟨b,off+k,none⟩=some u∧Rs w u (ll.getD k []):=by
 obtain⟨a',cap',h',_,h⟩:=h;simp only[Value.slice.injEq] at h';obtain⟨rfl,-,-⟩:=h';obtain⟨b,off,rfl,hc⟩:=h (by rintro rfl;simp at hk);obtain⟨u,hu,hb⟩:=hc k hk;exact⟨b,off,u,rfl,hu,hb⟩
theorem Bs.form {w:World} {v:Value} {l:List Nat} (h:Bs w v l):∃a cap,v= .slice a l.length cap:=by
 obtain⟨_,a,cap,h,_⟩:=h;exact⟨a,cap,h⟩
theorem Own.form {w:World} {base:Nat} {v:Value} {l:List Nat} (h:Own w base v l):∃a cap,v= .slice a l.length cap:=h.bs.form
theorem d7 (w:World) (cs:Array Value) (t:TypeId) (i:Nat) (v:Value) (h:cs[i]? =some v):(w.alloc (.cells cs t)).cell? ⟨w.heap.size,i,none⟩=some v:=by
 simp only[World.cell?,heap_alloc_new]
 simpa using h
theorem gK (w:World) (vs:List Value) (ll:List (List Nat)) (hl:vs.length=ll.length) (h63:ll.length≤9223372036854775807) (h:∀i u,vs[i]? =some u→Rs w u (ll.getD i [])):
 Bss (w.alloc (.cells vs.toArray 39)) (.slice (some ⟨w.heap.size,0,none⟩) ll.length ll.length) ll:=by
 refine⟨_,ll.length,rfl,h63,fun _=>⟨w.heap.size,0,rfl,fun i hi=>?_⟩⟩;have hi':i<vs.length:=by omega
 have hg:vs[i]? =some vs[i]:=List.getElem?_eq_getElem hi';refine⟨vs[i],?_,(h i _ hg).below ((Below.refl _ _).alloc (Nat.le_refl _) _)⟩;rw[Nat.zero_add];exact d7 _ _ _ _ _ (by simp)
theorem jA {w:World} {u v:Value} {a b:List Nat} (hu:Rs w u a) (hv:Rs w v b):Bss (w.alloc (.cells #[u,v] 39)) (.slice (some ⟨w.heap.size,0,none⟩) 2 2) [a,b]:=
 gK w [u,v] [a,b] rfl (by simp) fun i x hx=>by
  match i with
  |0=>simp at hx;subst hx;exact hu
  |1=>simp at hx;subst hx;exact hv
  |_+2=>simp at hx
def cG (l:List Nat) (w:World) (e:Ending) (w':World):Prop:=∃v,e= .returned v∧Own w' w.heap.size v l∧Below w.heap.size w w'
def eA (o:Option (List Nat)) (w:World) (e:Ending) (w':World):Prop:=
 Below w.heap.size w w'∧((o=none∧e= .returned (.tuple #[.slice none 0 0,.bool false]))∨∃l v,o=some l∧e= .returned (.tuple #[v,.bool true])∧Own w' w.heap.size v l)
def kY (c:Bool) (w:World) (e:Ending) (w':World):Prop:=e= .returned (.bool c)∧Below w.heap.size w w'
def mX:Value→Nat
 | .slice _ n _=>n
 |_=>0
end Go.Proofs.YtcoolgnlhheaiaaGreatDoor
namespace Go.Proofs.YtcoolgnlhheaiaaGreatDoor
open Go.RowKit Go.Deep
set_option linter.all false
set_option maxRecDepth 100000
set_option maxHeartbeats 1000000
theorem wH (v:Value) (l:List Nat) (w:World) (h:Rs w v l) (hb:l.length≤140737488355328):
 Calls Tryz.prog 223 #[v] w (cG l w):=by
 have H:=aD h;rcases h.2.2 with ⟨rfl,rfl⟩|⟨x,cap,rfl,_,hc⟩
 ·have hn:=fun wx=>Lib.run_eql_slice_nil (P:=Tryz.prog) wx _ _ none 0 0 0 0 Tryz.underlying39
  clear h;go_enter Tryz.func223,Tryz.ntmps223;go_wp2;go_ret;exact⟨_,rfl,Own.nil _ _,Below.refl _ _⟩
 ·have hn:=fun wx=>Lib.run_eql_slice_nil (P:=Tryz.prog) wx _ _ (some x) l.length cap 0 0 Tryz.underlying39
  clear h hc;go_enter Tryz.func223,Tryz.ntmps223;go_wp2_with (at_builtin;go_must (refine bB rfl _ _ rfl w.heap.size (.slice (some ⟨w.heap.size,0,none⟩) 0 0) [] rfl (bL w _ [] AllB.nil (Nat.le_refl _) (by simp)) _ l rfl (H.out.below ((Below.refl _ _).alloc (Nat.le_refl _) _)) (by simp;omega) (by simp) ?_;intro v1 w1 hown hgr));go_ret;refine⟨_,rfl,?_,?_⟩
  ·simpa using hown
  ·exact aP ((Below.refl _ _).alloc (Nat.le_refl _) _) (Nat.le_refl _) hgr (fun g hg=>by simp[Value.ownBlock] at hg;omega)
theorem pS (v:Value) (l:List Nat) (w:World) (h:Bs w v l) (hb:l.length≤140737488355328):
 Calls Tryz.prog 223 #[v] w (cG l w):=wH v l w h.rs hb
def isB (w:World) (b:Nat):Prop:=∃cs fr,w.heap[b]? =some (.cells cs 5 fr)
theorem isB.of_block {w w':World} {b:Nat} (h:isB w b) (e:w'.heap[b]? =w.heap[b]?):isB w' b:=by obtain⟨cs,fr,h⟩:=h;exact⟨cs,fr,e.trans h⟩
theorem Own.isB {w:World} {base b:Nat} {v:Value} {l:List Nat} (h:Own w base v l) (e:v.ownBlock=some b):isB w b:=by
 rcases h.2.2 with ⟨rfl,_⟩|⟨g,cap,cur,rfl,_,hg,_⟩
 ·cases e
 ·simp[Value.ownBlock] at e
  subst e;exact⟨_,_,hg⟩
def Rd (w:World) (p:Nat) (r:Wir.R):Prop:=
 ∃v,w.heap[p]? =some (.cells #[v,.bool r.bad] 342 (0,0))∧Bs w v r.l∧∀b,v.ownBlock=some b→b<p∧isB w b
theorem Rd.lt {w:World} {p:Nat} {r:Wir.R} (h:Rd w p r):p<w.heap.size:=by
 obtain⟨v,h,_⟩:=h;exact(Array.getElem?_eq_some_iff.1 h).1
theorem Rd.below {w w':World} {p:Nat} {r:Wir.R} (h:Rd w p r) (k:Below w.heap.size w w'):Rd w' p r:=by
 have hlt:=h.lt;obtain⟨v,h,hb,hn⟩:=h;exact⟨v,(k.block p hlt).trans h,hb.below k,fun b e=>⟨(hn b e).1,(hn b e).2.of_block (k.block b (Nat.lt_trans (hn b e).1 hlt))⟩⟩
theorem eE {w:World} {b:Nat} {x y:Value} {t:TypeId} (h:w.heap[b]? =some (.cells #[x,y] t (0,0))):
 w.cell? ⟨b,0,none⟩=some x∧w.cell? ⟨b,1,none⟩=some y∧w.frozen? ⟨b,0,none⟩=false∧w.frozen? ⟨b,1,none⟩=false:=by
 simp[World.cell?,World.frozen?,h]
theorem wN {w:World} {b:Nat} {x y u:Value} {t:TypeId} (h:w.heap[b]? =some (.cells #[x,y] t (0,0))):(w.setCell ⟨b,0,none⟩ u).heap[b]? =some (.cells #[u,y] t (0,0)):=by
 have:=heap_setCell_same w b 0 #[x,y] t u h
 simpa using this
theorem aFP {w:World} {b:Nat} {x y u:Value} {t:TypeId} (h:w.heap[b]? =some (.cells #[x,y] t (0,0))):(w.setCell ⟨b,1,none⟩ u).heap[b]? =some (.cells #[x,u] t (0,0)):=by
 have:=heap_setCell_same w b 1 #[x,y] t u h
 simpa using this
def aH7 (p:Nat) (r:Wir.R) (w:World) (e:Ending) (w':World):Prop:=e= .returned (.tuple #[])∧Rd w' p r∧w.grownBy w' (some p)
theorem iQ (p:Nat) (r:Wir.R) (w:World) (h:Rd w p r):
 Calls Tryz.prog 261 #[.pointer (some ⟨p,0,none⟩)] w (aH7 p Wir.failed w):=by
 obtain⟨v,h,hb,hn⟩:=h;obtain⟨c0,c1,f0,f1⟩:=eE h;have H:=aD h;clear h;clear hb hn;go_enter Tryz.func261,Tryz.ntmps261;go_wp2;go_end0;have h1:=aFP (u:=.bool true) H.out;have h2:=wN (u:=.slice none 0 0) h1;exact⟨rfl,⟨_,h2,Bs.nil _,by simp[Value.ownBlock]⟩,bA (bA (aE _ _) _ _) _ _⟩
def kV (p:Nat) (r:Wir.R) (n:Nat) (w:World) (e:Ending) (w':World):Prop:=
 Rd w' p (Wir.next r n).1∧w.grownBy w' (some p)∧
  (((Wir.next r n).2=none∧e= .returned (.tuple #[.slice none 0 0,.bool false]))∨∃l v,(Wir.next r n).2=some l∧e= .returned (.tuple #[v,.bool true])∧Bs w' v l∧v.ownBlock≠some p)
theorem aFH (p:Nat) (r:Wir.R) (n:Nat) (w:World) (h:Rd w p r) (hbad:r.bad=true):
 Calls Tryz.prog 225 #[.pointer (some ⟨p,0,none⟩),.int .u64 n] w (kV p r n w):=by
 have hr:=h;obtain⟨v,h,hb,hn⟩:=h;rw[hbad] at h;obtain⟨c0,c1,f0,f1⟩:=eE h;have HR:=aD hr;clear hr;have H:=aD h;clear h;have HBAD:=aD hbad;clear hbad;clear hb hn;go_enter Tryz.func225,Tryz.ntmps225;go_wp2_with fail;refine(iQ p r _ HR.out).mono ?_;rintro e w1 ⟨rfl,h1,h2⟩;clear c0 c1 f0 f1;go_wp2_with fail;go_ret2;have e1:Wir.next r n=(Wir.failed,none):=by unfold Wir.next;rw[if_pos (.inl HBAD.out)]
 exact⟨by rw[e1];exact h1,h2,.inl ⟨by rw[e1],rfl⟩⟩
theorem y9 (p:Nat) (r:Wir.R) (n:Nat) (w:World) (h:Rd w p r) (hbad:r.bad=false) (hlt:r.l.length<n) (_h64:n<18446744073709551616):
 Calls Tryz.prog 225 #[.pointer (some ⟨p,0,none⟩),.int .u64 n] w (kV p r n w):=by
 have hr:=h;obtain⟨v,h,hb,hn⟩:=h;rw[hbad] at h;have hlen:=hb.len;have hvs:∃a cap,v= .slice a r.l.length cap:=by obtain⟨_,a,cap,h,_⟩:=hb;exact⟨a,cap,h⟩
 obtain⟨a,cap,rfl⟩:=hvs;obtain⟨c0,c1,f0,f1⟩:=eE h;have HR:=aD hr;clear hr;have H:=aD h;clear h;have HBAD:=aD hbad;clear hbad;clear hb hn;go_enter Tryz.func225,Tryz.ntmps225;go_wp2_with fail;refine(iQ p r _ HR.out).mono ?_;rintro e w1 ⟨rfl,h1,h2⟩;clear c0 c1 f0 f1;go_wp2_with fail;go_ret2;have e1:Wir.next r n=(Wir.failed,none):=by unfold Wir.next;rw[if_pos (.inr hlt)]
 exact⟨by rw[e1];exact h1,h2,.inl ⟨by rw[e1],rfl⟩⟩
theorem nY {p:Nat} {r:Wir.R} {n:Nat} {w:World} {v v1 v2:Value} (h:w.heap[p]? =some (.cells #[v,.bool false] 342 (0,0))) (e:Wir.next r n=(⟨r.l.drop n,false⟩,some (r.l.take n)))
 (h1:Bs w v1 (r.l.take n)) (n1:∀b,v1.ownBlock=some b→b<p∧isB w b) (h2:Bs w v2 (r.l.drop n)) (n2:∀b,v2.ownBlock=some b→b<p∧isB w b):kV p r n w (.returned (.tuple #[v1,.bool true])) (w.setCell ⟨p,0,none⟩ v2):=by
 have m1:v1.ownBlock≠some p:=fun e=>Nat.lt_irrefl _ (n1 _ e).1
 have m2:v2.ownBlock≠some p:=fun e=>Nat.lt_irrefl _ (n2 _ e).1
 have ho:w.grownBy (w.setCell ⟨p,0,none⟩ v2) (some p):=bA (aE _ _) _ _;refine⟨?_,ho,.inr ⟨_,v1,by rw[e],rfl,h1.only ho (.inr m1),m1⟩⟩;rw[e];have hlt:=(Array.getElem?_eq_some_iff.1 h).1;exact⟨v2,wN h,h2.only ho (.inr m2),fun b e=>⟨(n2 b e).1,(n2 b e).2.of_block (ho.block b (Nat.lt_trans (n2 b e).1 hlt) (fun e'=>by cases e';exact Nat.lt_irrefl _ (n2 _ e).1))⟩⟩
theorem aDE (p:Nat) (r:Wir.R) (n:Nat) (w:World) (h:Rd w p r) (hbad:r.bad=false) (hle:n≤r.l.length):
 Calls Tryz.prog 225 #[.pointer (some ⟨p,0,none⟩),.int .u64 n] w (kV p r n w):=by
 obtain⟨v,h,hb,hn⟩:=h;rw[hbad] at h;have hlen:=hb.len;have e1:Wir.next r n=(⟨r.l.drop n,false⟩,some (r.l.take n)):=by unfold Wir.next;rw[if_neg (by rw[hbad];simp;omega)]
 have E1:=aD e1;clear e1;have HBS:=aD hb;clear hbad;rcases hb.cases with ⟨rfl,hnil⟩|⟨b,off,cap,rfl,hcap,hmax,hblt,hc⟩
 ·have hn0:n=0:=by rw[hnil] at hle;simpa using hle
  subst hn0;obtain⟨c0,c1,f0,f1⟩:=eE h;have H:=aD h;clear h;have HN:=aD hnil;clear hnil;clear hb hn;go_enter Tryz.func225,Tryz.ntmps225;go_wp2_with fail;go_ret2;exact nY H.out E1.out (by rw[HN.out];exact Bs.nil _) (by simp[Value.ownBlock]) (by rw[HN.out];exact Bs.nil _) (by simp[Value.ownBlock])
 ·obtain⟨c0,c1,f0,f1⟩:=eE h
  have H:=aD h;clear h;have HC:=aD hc;clear hc;clear hb;go_enter Tryz.func225,Tryz.ntmps225;go_wp2_with fail
  ·go_ret2
   have hd:r.l.drop n=[]:=List.drop_eq_nil_of_le (by omega);have h0:r.l.length - n=0:=by omega
   exact nY H.out E1.out (aAU HBS.out hle (Nat.le_refl _) (by omega)) hn (by rw[hd,h0];exact aGJ (by omega) hblt) hn
  ·go_ret2
   exact nY H.out E1.out (aAU HBS.out hle (Nat.le_refl _) (by omega)) hn (aGW HBS.out hle (by omega) (by omega)) hn
theorem nX (p:Nat) (r:Wir.R) (n:Int) (w:World) (h:Rd w p r) (hn:0≤n∧n<18446744073709551616):
 Calls Tryz.prog 225 #[.pointer (some ⟨p,0,none⟩),.int .u64 n] w (kV p r n.toNat w):=by
 obtain⟨m,rfl⟩:=Int.eq_ofNat_of_zero_le hn.1;rw[Int.toNat_natCast]
 cases hb:r.bad with
 |true=>exact aFH p r m w h hb
 |false=>
  by_cases hl:r.l.length<m
  ·exact y9 p r m w h hb hl (by omega)
  ·exact aDE p r m w h hb (by omega)
end Go.Proofs.YtcoolgnlhheaiaaGreatDoor
namespace Go.Proofs.YtcoolgnlhheaiaaGreatDoor
open Go.RowKit Go.Deep
set_option linter.all false
set_option maxRecDepth 100000
set_option maxHeartbeats 1000000
theorem tT {r:Wir.R} {n:Nat} {l:List Nat} (h:(Wir.next r n).2=some l):l.length=n:=by
 unfold Wir.next at h;split at h
 ·simp at h
 ·rename_i hc
  simp at h;subst h;rw[List.length_take];have:¬r.l.length<n:=fun h=>hc (.inr h)
  omega
theorem aHD (x c:Nat) (hx:x<72057594037927936) (hc:c<256):bits .or .u64 ((x:Int)*256) (c:Int)=((x*256+c:Nat):Int):=by
 have e:(x:Int)*256=((x*256:Nat):Int):=by omega
 rw[e,u64_or_nat _ _ (by omega) (by omega)];congr 1;have:=Nat.two_pow_add_eq_or_of_lt (i:=8) (b:=c) (by omega) x;rw[Nat.mul_comm] at this;exact this.symm
theorem aKD (k:Nat) (h:k≤7):256 ^ k≤72057594037927936:=by
 have:=Nat.pow_le_pow_right (n:=256) (by omega) h
 simpa using this
def jQ (p:Nat) (r:Wir.R) (k:Int) (w:World) (e:Ending) (w':World):Prop:=
 Rd w' p (Wir.number r k).1∧w.grownBy w' (some p)∧
  (((Wir.number r k).2=none∧e= .returned (.tuple #[.int .u64 0,.bool false]))∨∃x:Nat,(Wir.number r k).2=some x∧e= .returned (.tuple #[.int .u64 x,.bool true]))
theorem xH {r:Wir.R} {k:Int} (h:k<1∨8<k):Wir.number r k=(Wir.failed,none):=by unfold Wir.number;rw[if_pos h]
theorem aCY {r:Wir.R} {k:Int} (h:1≤k∧k≤8):Wir.number r k=((Wir.next r k.toNat).1,(Wir.next r k.toNat).2.map Wir.be):=by unfold Wir.number;rw[if_neg (by omega)]
theorem wZ (p:Nat) (r:Wir.R) (k:Int) (w:World) (h:Rd w p r) (hk:k<1∨8<k):
 Calls Tryz.prog 224 #[.pointer (some ⟨p,0,none⟩),.int .i64 k] w (jQ p r k w):=by
 have HR:=aD h;clear h;have E:=aD (xH (r:=r) hk)
 by_cases h1:k<1
 ·clear hk
  go_enter Tryz.func224,Tryz.ntmps224;go_wp2_with fail;refine(iQ p r _ HR.out).mono ?_;rintro e w1 ⟨rfl,h1,h2⟩;go_wp2_with fail;go_ret2;exact⟨by rw[E.out];exact h1,h2,.inl ⟨by rw[E.out],rfl⟩⟩
 ·have h8:8<k:=by omega
  clear hk;go_enter Tryz.func224,Tryz.ntmps224;go_wp2_with fail;refine(iQ p r _ HR.out).mono ?_;rintro e w1 ⟨rfl,h1,h2⟩;go_wp2_with fail;go_ret2;exact⟨by rw[E.out];exact h1,h2,.inl ⟨by rw[E.out],rfl⟩⟩
theorem aDD (p:Nat) (r:Wir.R) (k:Nat) (w:World) (h:Rd w p r) (hk1:1≤k) (hk8:k≤8):
 Calls Tryz.prog 224 #[.pointer (some ⟨p,0,none⟩),.int .i64 k] w (jQ p r k w):=by
 have HR:=aD h;clear h;have E:=aD (aCY (r:=r) (k:=(k:Int)) (by omega));go_enter Tryz.func224,Tryz.ntmps224;go_wp2_with fail;refine(nX p r _ _ HR.out (by omega)).mono ?_;rintro e w1 ⟨h1,h2,h3⟩;rw[Int.toNat_natCast] at h1 h3;have H1:=aD h1;clear h1;have H2:=aD h2;clear h2;rcases h3 with ⟨hn,rfl⟩|⟨l,v,hs,rfl,hbs,hne⟩
 ·have HN:=aD hn;clear hn
  go_wp2_with fail;go_ret2;have E2:=E.out;rw[Int.toNat_natCast,HN.out] at E2;exact⟨by rw[E2];exact H1.out,H2.out,.inl ⟨by rw[E2];rfl,rfl⟩⟩
 ·have hlen:=tT hs
  have HS:=aD hs;clear hs;have hall:=hbs.all;have fin:jQ p r k w (.returned (.tuple #[.int .u64 ↑(Wir.be l),.bool true])) w1:=by
   have E2:=E.out;rw[Int.toNat_natCast,HS.out] at E2;exact⟨by rw[E2];exact H1.out,H2.out,.inr ⟨_,by rw[E2];rfl,rfl⟩⟩
  have FIN:=aD fin;clear fin;clear E HR;rcases hbs.cases with ⟨rfl,hnil⟩|⟨b,off,cap,rfl,hcap,hmax,hblt,hc⟩
  ·rw[hnil] at hlen;simp at hlen;omega
  ·rw[hlen] at hcap ⊢
   have HL:=aD hlen;have HC:=aD hc;clear hc;have HA:=aD hall;clear hall;clear hlen hbs;go_wp2_with fail
   go_loop [8,10,30] (fun x _ i=>∃j:Nat,j≤k∧i= .int .i64 j∧x= .int .u64 ↑(Wir.be (l.take j))) (fun _ _ i=>k - (intOf i).toNat)
   case atStart=>exact⟨0,by omega,rfl,rfl⟩
   case round=>
    obtain⟨j,hj,rfl,rfl⟩:=hrel
    by_cases hlt:j<k
    ·have hc:=HC.out j (by rw[HL.out];exact hlt)
     have hx:Wir.be (l.take j)<72057594037927936:=Nat.lt_of_lt_of_le (Wir.be_lt l HA.out j (by rw[HL.out];omega)) (aKD j (by omega));have hb:=AllB.get HA.out j;have HS2:=aD (Wir.be_snoc l j (by rw[HL.out];exact hlt));generalize l.getD j 0=c at hc hb HS2;generalize Wir.be (l.take j)=x at hx HS2 ⊢;have eor:=aHD x c hx hb;go_wp2_with fail
     go_round
     case rel=>exact⟨j+1,by omega,by go_num,by rw[HS2.out];rfl⟩
     case measure=>simp[intOf];omega
    ·obtain rfl:j=k:=by omega
     clear hlt hj;have ht:l.take j=l:=List.take_of_length_le (by rw[HL.out];exact Nat.le_refl _);rw[ht];clear ht;go_wp2_with fail;go_ret2;exact FIN.out
theorem nG (p:Nat) (r:Wir.R) (k:Int) (w:World) (h:Rd w p r):
 Calls Tryz.prog 224 #[.pointer (some ⟨p,0,none⟩),.int .i64 k] w (jQ p r k w):=by
 by_cases hk:k<1∨8<k
 ·exact wZ p r k w h hk
 ·obtain⟨m,rfl⟩:=Int.eq_ofNat_of_zero_le (show 0≤k by omega)
  exact aDD p r m w h (by omega) (by omega)
def aJG (p:Nat) (r:Wir.R) (k:Int) (w:World) (e:Ending) (w':World):Prop:=
 e= .returned (.int .u64 ↑((Wir.number r k).2.getD 0))∧Rd w' p (Wir.number r k).1∧w.grownBy w' (some p)
theorem mE (p:Nat) (r:Wir.R) (k:Int) (w:World) (h:Rd w p r):
 Calls Tryz.prog 164 #[.pointer (some ⟨p,0,none⟩),.int .i64 k] w (aJG p r k w):=by
 have HR:=aD h;clear h;go_enter Tryz.func164,Tryz.ntmps164;go_wp2_with fail;refine(nG p r k _ HR.out).mono ?_;rintro e w1 ⟨h1,h2,h3⟩;rcases h3 with ⟨hn,rfl⟩|⟨x,hs,rfl⟩
 ·have HN:=aD hn;clear hn
  go_wp2_with fail;go_ret;exact⟨by rw[HN.out];rfl,h1,h2⟩
 ·have HS:=aD hs;clear hs
  go_wp2_with fail;go_ret;exact⟨by rw[HS.out];rfl,h1,h2⟩
def aAA (p:Nat) (r:Wir.R) (l:List Nat) (w:World) (e:Ending) (w':World):Prop:=
 ∃v,e= .returned v∧Own w' w.heap.size v l∧Rd w' p r∧w.grownBy w' (some p)
theorem jI (p:Nat) (r:Wir.R) (n:Int) (w:World) (h:Rd w p r) (hn:n≤9223372036854775807) (hb:r.l.length≤140737488355328):
 Calls Tryz.prog 231 #[.pointer (some ⟨p,0,none⟩),.int .i64 n] w (aAA p (Wir.take r n).1 (Wir.take r n).2 w):=by
 have HR:=aD h;clear h
 by_cases h0:n<0
 ·have E:=aD (show Wir.take r n=(Wir.failed,[]) by unfold Wir.take;rw[if_pos h0])
  go_enter Tryz.func231,Tryz.ntmps231;go_wp2_with fail;refine(iQ p r _ HR.out).mono ?_;rintro e w1 ⟨rfl,h1,h2⟩;go_wp2_with fail;go_ret;exact⟨_,rfl,by rw[E.out];exact Own.nil _ _,by rw[E.out];exact h1,h2⟩
 ·have E:=aD (show Wir.take r n=((Wir.next r n.toNat).1,(Wir.next r n.toNat).2.getD []) by unfold Wir.take;rw[if_neg h0])
  go_enter Tryz.func231,Tryz.ntmps231;go_wp2_with fail;refine(nX p r _ _ HR.out (by omega)).mono ?_;rintro e w1 ⟨h1,h2,h3⟩;have H1:=aD h1;clear h1;have H2:=aD h2;clear h2;rcases h3 with ⟨hn,rfl⟩|⟨l,v,hs,rfl,hbs,hne⟩
  ·have HN:=aD hn;clear hn
   go_wp2_with fail;go_ret;exact⟨_,rfl,by rw[E.out,HN.out];exact Own.nil _ _,by rw[E.out];exact H1.out,H2.out⟩
  ·have hll:l.length≤r.l.length:=by
    unfold Wir.next at hs;split at hs
    ·simp at hs
    ·simp at hs;rw[←hs,List.length_take];omega
   have HS:=aD hs;clear hs;have HB:=aD hbs;clear hbs;go_wp2_with fail;refine(pS v l _ HB.out (by omega)).mono ?_;rintro e w2 ⟨v2,rfl,hown,hbel⟩;go_wp2_with fail;go_ret;exact⟨_,rfl,by rw[E.out,HS.out];exact hown.mono H2.out.size,by rw[E.out];exact H1.out.below hbel,fC H2.out hbel⟩
theorem fP {r:Wir.R} {k:Int} (h:(Wir.number r k).2=none):Wir.string r k=((Wir.number r k).1,[]):=by
 unfold Wir.string;split
 ·rename_i r' h';rw[h']
 ·rename_i r' n h';rw[h'] at h;cases h
theorem dV {r:Wir.R} {k:Int} {n:Nat} (h:(Wir.number r k).2=some n):Wir.string r k=((Wir.next (Wir.number r k).1 n).1,(Wir.next (Wir.number r k).1 n).2.getD []):=by
 unfold Wir.string;split
 ·rename_i r' h';rw[h'] at h;cases h
 ·rename_i r' m h';rw[h'] at h ⊢;simp at h;subst h;rfl
theorem aB1 {r:Wir.R} {k:Int} {n:Nat} (hr:AllB r.l) (h:(Wir.number r k).2=some n):n<18446744073709551616:=by
 unfold Wir.number at h;split at h
 ·simp at h
 ·rename_i hk
  simp at h;obtain⟨l,hl,rfl⟩:=h;have hlen:=tT hl;have hall:AllB l:=by
   unfold Wir.next at hl;split at hl
   ·simp at hl
   ·simp at hl;rw[←hl];exact hr.take _
  have:=Wir.be_lt l hall l.length (Nat.le_refl _);rw[List.take_length] at this;have h8:=Nat.pow_le_pow_right (n:=256) (by omega) (show l.length≤8 by omega);have:Wir.be l<256 ^ 8:=Nat.lt_of_lt_of_le this h8
  simpa using this
theorem jB {r:Wir.R} {k:Int}:(Wir.number r k).1.l.length≤r.l.length:=by
 unfold Wir.number;split
 ·simp[Wir.failed]
 ·unfold Wir.next
  split
  ·simp[Wir.failed]
  ·simp
theorem fM (p:Nat) (r:Wir.R) (k:Int) (w:World) (h:Rd w p r) (hb:r.l.length≤140737488355328):
 Calls Tryz.prog 165 #[.pointer (some ⟨p,0,none⟩),.int .i64 k] w (aAA p (Wir.string r k).1 (Wir.string r k).2 w):=by
 have hall:AllB r.l:=by obtain⟨_,_,h,_⟩:=h;exact h.all
 have HALL:=aD hall;clear hall;have HR:=aD h;clear h;go_enter Tryz.func165,Tryz.ntmps165;go_wp2_with fail;refine(nG p r k _ HR.out).mono ?_;rintro e w1 ⟨h1,h2,h3⟩;have H1:=aD h1;clear h1;have H2:=aD h2;clear h2;rcases h3 with ⟨hn,rfl⟩|⟨x,hs,rfl⟩
 ·have HN:=aD hn;clear hn
  go_wp2_with fail;go_ret;exact⟨_,rfl,by rw[fP HN.out];exact Own.nil _ _,by rw[fP HN.out];exact H1.out,H2.out⟩
 ·have hx:=aB1 HALL.out hs
  have HS:=aD hs;clear hs;go_wp2_with fail;refine(nX p _ _ _ H1.out (by omega)).mono ?_;rintro e w2 ⟨h1,h2,h3⟩;rw[Int.toNat_natCast] at h1 h3;have H3:=aD h1;clear h1;have H4:=aD (aF H2.out h2);clear h2;rcases h3 with ⟨hn,rfl⟩|⟨l,v,hs,rfl,hbs,hne⟩
  ·have HN:=aD hn;clear hn
   go_wp2_with fail;go_ret;exact⟨_,rfl,by rw[dV HS.out,HN.out];exact Own.nil _ _,by rw[dV HS.out];exact H3.out,H4.out⟩
  ·have hll:l.length≤r.l.length:=by
    have:=jB (r:=r) (k:=k);unfold Wir.next at hs;split at hs
    ·simp at hs
    ·simp at hs;rw[←hs,List.length_take];omega
   have HS2:=aD hs;clear hs;have HB:=aD hbs;clear hbs;go_wp2_with fail;refine(pS v l _ HB.out (by omega)).mono ?_;rintro e w3 ⟨v2,rfl,hown,hbel⟩;go_wp2_with fail;go_ret;exact⟨_,rfl,by rw[dV HS.out,HS2.out];exact hown.mono H4.out.size,by rw[dV HS.out];exact H3.out.below hbel,fC H4.out hbel⟩
end Go.Proofs.YtcoolgnlhheaiaaGreatDoor
namespace Go.Proofs.YtcoolgnlhheaiaaGreatDoor
open Go.RowKit Go.Deep
set_option linter.all false
set_option maxRecDepth 100000
set_option maxHeartbeats 1000000
def aIR (r:Wir.R) (w:World) (e:Ending) (w':World):Prop:=∃p,e= .returned (.pointer (some ⟨p,0,none⟩))∧w.heap.size≤p∧Rd w' p r∧Below w.heap.size w w'
theorem jO (v:Value) (l:List Nat) (w:World) (h:Rs w v l) (hb:l.length≤140737488355328):
 Calls Tryz.prog 162 #[v] w (aIR ⟨l,false⟩ w):=by
 have H:=aD h;clear h;go_enter Tryz.func162,Tryz.ntmps162;go_wp2_with fail;refine(wH v l _ H.out hb).mono ?_;rintro e w1 ⟨v1,rfl,hown,hbel⟩;have HO:=aD hown;have hs:w.heap.size≤w1.heap.size:=hbel.size;have HB:=aD hbel;clear hbel;have fin:∀v1:Value,Own w1 w.heap.size v1 l→aIR ⟨l,false⟩ w (.returned (.pointer (some ⟨w1.heap.size,0,none⟩))) (w1.alloc (.cells #[v1,.bool false] 342)):=fun v1 ho=>
  ⟨w1.heap.size,rfl,hs,⟨v1,heap_alloc_new w1 _,ho.bs.below ((Below.refl _ _).alloc (Nat.le_refl _) _),fun b hc=>⟨by have:=ho.lt _ hc;omega,(ho.isB hc).of_block (Below.heap_alloc _ _ _ (ho.lt _ hc).2)⟩⟩,HB.out.alloc hs _⟩
 have FIN:=aD fin;clear fin;rcases hown.cases with ⟨rfl,_⟩|⟨g,cap,rfl,_⟩
 ·clear hown
  go_wp2_with fail;go_ret;exact FIN.out _ HO.out
 ·clear hown
  go_wp2_with fail;go_ret;exact FIN.out _ HO.out
def zW (v:Value) (w:World) (e:Ending) (w':World):Prop:=e= .returned v∧w=w'
theorem aHP (p:Nat) (r:Wir.R) (w:World) (h:Rd w p r):Calls Tryz.prog 269 #[.pointer (some ⟨p,0,none⟩)] w (zW (.bool r.bad) w):=by
 obtain⟨v,h,hb,hn⟩:=h;obtain⟨c0,c1,f0,f1⟩:=eE h;clear hb hn h;generalize r.bad=bad at c1 ⊢
 cases bad with
 |true=>
  go_enter Tryz.func269,Tryz.ntmps269;go_wp2;go_ret;exact⟨rfl,rfl⟩
 |false=>
  go_enter Tryz.func269,Tryz.ntmps269;go_wp2;go_ret;exact⟨rfl,rfl⟩
theorem dO (p:Nat) (r:Wir.R) (w:World) (h:Rd w p r):Calls Tryz.prog 166 #[.pointer (some ⟨p,0,none⟩)] w (zW (.bool (!r.bad&&r.l.length==0)) w):=by
 obtain⟨v,h,hb,hn⟩:=h;obtain⟨a,cap,rfl⟩:∃a cap,v= .slice a r.l.length cap:=by obtain⟨_,a,cap,h,_⟩:=hb;exact⟨a,cap,h⟩
 obtain⟨c0,c1,f0,f1⟩:=eE h;clear hb hn h;generalize r.bad=bad at c1 ⊢;generalize r.l.length=n at c0 ⊢
 cases bad with
 |true=>
  go_enter Tryz.func166,Tryz.ntmps166;go_wp2;go_ret;exact⟨rfl,rfl⟩
 |false=>
  by_cases h0:n=0
  ·subst h0
   go_enter Tryz.func166,Tryz.ntmps166;go_wp2;go_ret;exact⟨rfl,rfl⟩
  ·have hz:((n:Int)==0)=false:=by simp;omega
   have hz2:(n==0)=false:=by simp;omega
   rw[hz2];clear hz2;go_enter Tryz.func166,Tryz.ntmps166;go_wp2;go_ret;exact⟨rfl,rfl⟩
end Go.Proofs.YtcoolgnlhheaiaaGreatDoor
namespace Go.Proofs.YtcoolgnlhheaiaaGreatDoor
open Go.RowKit Go.Deep
set_option linter.all false
set_option maxRecDepth 100000
set_option maxHeartbeats 1000000
theorem iW (v:Value) (ll:List (List Nat)) (w:World) (h:Bss w v ll) (hb:(Wir.join ll).length≤140737488355328):
 Calls Tryz.prog 179 #[v] w (cG (Wir.join ll) w):=by
 have H:=aD h;obtain⟨a,cap,rfl,hlen,-⟩:=h;obtain⟨n,hn⟩:∃n,n=ll.length:=⟨_,rfl⟩;rw[←hn] at hlen ⊢;have HN:=aD hn;clear hn;go_enter Tryz.func179,Tryz.ntmps179;go_wp2_with fail
 go_loop [3,5,11] (fun t _ i=>∃k:Nat,k≤n∧i= .int .i64 k∧t= .int .i64 ↑(Wir.join (ll.take k)).length) (fun _ _ i=>n - (intOf i).toNat)
 case atStart=>exact⟨0,by omega,rfl,rfl⟩
 case round=>
  obtain⟨k,hk,rfl,rfl⟩:=hrel;have hle:=Wir.join_le ll k
  by_cases hlt:k<n
  ·have hge:=Wir.get_le ll k (by rw[←HN.out];exact hlt)
   have hsn:=aD (show(Wir.join (ll.take (k+1))).length=(Wir.join (ll.take k)).length+(ll.getD k []).length by rw[Wir.join_snoc ll k (by rw[←HN.out];exact hlt),List.length_append]);obtain⟨b,off,u,rfl,hu,hbs⟩:=H.out.at (k:=k) (by rw[←HN.out];exact hlt);obtain⟨ua,ucap,rfl⟩:=hbs.form;clear hbs;generalize (ll.getD k []).length=m at hge hsn hu;generalize (Wir.join (ll.take k)).length=t at hge hsn hle ⊢;go_wp2_with fail
   go_round
   case rel=>exact⟨k+1,by omega,by go_num,by rw[hsn.out];rfl⟩
   case measure=>simp[intOf];omega
  ·obtain rfl:k=n:=by omega
   have htk:ll.take k=ll:=List.take_of_length_le (by rw[HN.out];exact Nat.le_refl _);rw[htk] at hle ⊢;clear htk hlt hk;obtain⟨t,ht⟩:∃t,t=(Wir.join ll).length:=⟨_,rfl⟩;rw[←ht] at hle hb ⊢;have HT:=aD ht;clear ht;go_wp2_with (at_make;go_must (refine iO rfl _ _ rfl w.heap.size _ _ _ t rfl rfl rfl (by omega) (Nat.le_refl _) ?_;intro w1 hown hgr));have hbel:=aB hgr;clear hgr
   go_loopw [6,8,24] (fun v _ i wr=>∃j:Nat,j≤k∧i= .int .i64 j∧Own wr w.heap.size v (Wir.join (ll.take j))∧Below w.heap.size w wr) (fun _ _ i _=>k - (intOf i).toNat)
   case atStart=>exact⟨0,by omega,rfl,hown,hbel⟩
   case round=>
    clear hown hbel;obtain⟨j,hj,rfl,hown,hbel⟩:=hrel;have hsz:=hbel.size;have HO:=aD hown;have HB:=aD hbel
    by_cases hlt:j<k
    ·have hge:=Wir.get_le ll j (by rw[←HN.out];exact hlt)
     have hsn:=aD (Wir.join_snoc ll j (by rw[←HN.out];exact hlt));have HSS:=aD (H.out.below hbel);clear hbel;obtain⟨b,off,u,rfl,hu,hbs⟩:=HSS.out.at (k:=j) (by rw[←HN.out];exact hlt);have HBS:=aD hbs;obtain⟨ua,ucap,rfl⟩:=hbs.form;obtain⟨va,vcap,rfl⟩:=hown.form;clear hbs hown;have hbnd:(Wir.join (ll.take j)).length+(ll.getD j []).length≤140737488355328:=by have:=HT.out;omega
     go_wp2_with (at_builtin;go_must (refine bB rfl _ _ rfl w.heap.size _ _ rfl HO.out _ (ll.getD j []) rfl HBS.out hbnd hsz ?_;intro v2 w2 hown2 hgr2));have hb2:=aP HB.out (Nat.le_refl _) hgr2 (fun g hg=>(HO.out.lt g hg).1);clear hgr2;go_wp2_with fail;go_roundw
     case rel=>exact⟨j+1,by omega,by go_num,by rw[hsn.out];exact hown2,hb2⟩
     case measure=>simp[intOf];omega
    ·obtain rfl:j=k:=by omega
     clear hown hbel;go_wp2_with fail;go_ret;have ht2:ll.take j=ll:=List.take_of_length_le (by rw[HN.out];exact Nat.le_refl _);have:=HO.out;rw[ht2] at this;exact⟨_,rfl,this,HB.out⟩
end Go.Proofs.YtcoolgnlhheaiaaGreatDoor
namespace Go.Proofs.YtcoolgnlhheaiaaGreatDoor
open Go.RowKit Go.Deep
set_option linter.all false
set_option maxRecDepth 100000
set_option maxHeartbeats 1000000
theorem aI5 (x:Nat) (h:x≠0):(((x:Nat):Int)!=0)=true:=by simp;exact h
theorem nB (x k:Nat):(x:Int) / 2 ^ (8*k)=((x / 256 ^ k:Nat):Int):=by
 rw[←Wir.pow_shift,Int.natCast_ediv];simp
theorem pE (k:Int) (x:Nat) (w:World) (hk:k<1∨8<k):
 Calls Tryz.prog 181 #[.int .i64 k,.int .u64 x] w (eA (Wir.putNumber k x) w):=by
 have E:=aD (show Wir.putNumber k x=none by unfold Wir.putNumber;rw[if_pos hk])
 by_cases h1:k<1
 ·clear hk
  go_enter Tryz.func181,Tryz.ntmps181;go_wp2_with fail;go_ret2;exact⟨Below.refl _ _,.inl ⟨E.out,rfl⟩⟩
 ·have h8:8<k:=by omega
  clear hk;go_enter Tryz.func181,Tryz.ntmps181;go_wp2_with fail;go_ret2;exact⟨Below.refl _ _,.inl ⟨E.out,rfl⟩⟩
theorem pD (k x:Nat) (w:World) (hk1:1≤k) (hk8:k<8) (hx:256 ^ k≤x):
 Calls Tryz.prog 181 #[.int .i64 k,.int .u64 x] w (eA (Wir.putNumber k x) w):=by
 have E:=aD (show Wir.putNumber k x=none by unfold Wir.putNumber;rw[if_neg (by omega),if_neg (by simp;omega)]);have hq:x / 256 ^ k≠0:=by
  have hp:0<256 ^ k:=Nat.pow_pos (by omega);have:=Nat.div_pos hx hp;omega
 have hs:=nB x k;have hnz:=aI5 _ hq;generalize x / 256 ^ k=q at hs hnz;clear hx hq;go_enter Tryz.func181,Tryz.ntmps181;go_wp2_with fail;go_ret2;exact⟨Below.refl _ _,.inl ⟨E.out,rfl⟩⟩
theorem dW (k x:Nat) (w:World) (hk1:1≤k) (hk8:k≤8) (hx:x<256 ^ k):
 Calls Tryz.prog 181 #[.int .i64 k,.int .u64 x] w (eA (Wir.putNumber k x) w):=by
 have E:=aD (show Wir.putNumber k x=some (Wir.enc k x) by unfold Wir.putNumber;rw[if_neg (by omega),if_pos (by simpa using hx)];simp);have hq:x / 256 ^ k=0:=Nat.div_eq_of_lt hx;have hs:=nB x k;rw[hq] at hs;have HX:=aD hx;clear hq hx;have d1:decide ((k:Int)<1)=false:=by simp;omega
 have d2:decide (8<(k:Int))=false:=by simp;omega
 by_cases hc:k<8
 ·have d3:decide ((k:Int)<8)=true:=by simp;omega
  go_enter Tryz.func181,Tryz.ntmps181;go_wp2_with (at_make;go_must (refine dE rfl _ _ rfl w.heap.size _ _ _ _ k rfl rfl rfl rfl (by omega) (Nat.le_refl _) ?_;intro w1 hown hgr));have hbel:=aB hgr;clear hgr
  go_loopw [7,1] (fun i y wr=>∃j:Nat,j≤k∧i= .int .i64 (↑k - 1 - ↑j)∧y= .int .u64 ↑(x / 256 ^ j)∧Own wr w.heap.size (.slice (some ⟨w.heap.size,0,none⟩) k k) (List.replicate (k - j) 0++Wir.enc j x)∧Below w.heap.size w wr) (fun i _ _=>(intOf i+1).toNat)
  case atStart=>exact⟨0,by omega,by simp,by simp,by simpa [Wir.enc] using hown,hbel⟩
  case round=>
   clear hown hbel;obtain⟨j,hj,rfl,rfl,hown,hbel⟩:=hrel;have HB:=aD hbel;clear hbel;clear hs d1 d2 d3 hc;have HO:=aD hown
   by_cases hlt:j<k
   ·have hge:decide (0≤(k:Int) - 1 - j)=true:=by simp;omega
    have hlen:(List.replicate (k - j) 0++Wir.enc j x).length=k:=by rw[List.length_append,List.length_replicate,Wir.enc_length];omega
    have hstep:=aD (Wir.enc_step k j x hlt);have hdiv:=aD (show x / 256 ^ (j+1)=x / 256 ^ j / 256 by rw[Nat.pow_succ,Nat.div_div_eq_div_mul]);have hql:x / 256 ^ j≤x:=Nat.div_le_self _ _;rcases hown.cases with ⟨h',_⟩|⟨g,cap,hv,-,-,-,-,hcells,hfroz⟩
    ·simp at h'
    simp only[Value.slice.injEq,Option.some.injEq,Addr.mk.injEq,and_true] at hv;obtain⟨rfl,-,rfl⟩:=hv;have hc:=hcells (k - 1 - j) (by rw[hlen];omega);have hf:=hfroz (k - 1 - j);generalize (List.replicate (k - j) 0++Wir.enc j x).getD (k - 1 - j) 0=old at hc;have HL:=aD hlen;clear hown hcells hfroz hlen;generalize x / 256 ^ j=q at hstep hdiv hql ⊢;go_wp2_with fail;obtain⟨ho2,hg2⟩:=HO.out.set (k - 1 - j) (q % 256) (by omega);have hb2:=aP HB.out (Nat.le_refl _) hg2 (fun g hg=>by simp at hg;omega);have ho3:Own (wr.setCell ⟨w.heap.size,k - 1 - j,none⟩ (bv (q % 256))) w.heap.size (.slice (some ⟨w.heap.size,0,none⟩) k k) (List.replicate (k - (j+1)) 0++Wir.enc (j+1) x):=by
     rw[←hstep.out,show k - j - 1=k - 1 - j by omega];exact ho2
    go_roundw
    case rel=>exact⟨j+1,by omega,by congr 1;omega,by rw[hdiv.out];rfl,ho3,hb2⟩
    case measure=>simp[intOf];omega
   ·obtain rfl:j=k:=by omega
    have hge:decide (0≤(j:Int) - 1 - j)=false:=by simp;omega
    clear hown;go_wp2_with fail;go_ret2;have ho4:=HO.out;rw[Nat.sub_self] at ho4;exact⟨HB.out,.inr ⟨_,_,E.out,rfl,ho4⟩⟩
 ·have d3:decide ((k:Int)<8)=false:=by simp;omega
  go_enter Tryz.func181,Tryz.ntmps181;go_wp2_with (at_make;go_must (refine dE rfl _ _ rfl w.heap.size _ _ _ _ k rfl rfl rfl rfl (by omega) (Nat.le_refl _) ?_;intro w1 hown hgr));have hbel:=aB hgr;clear hgr
  go_loopw [7,1] (fun i y wr=>∃j:Nat,j≤k∧i= .int .i64 (↑k - 1 - ↑j)∧y= .int .u64 ↑(x / 256 ^ j)∧Own wr w.heap.size (.slice (some ⟨w.heap.size,0,none⟩) k k) (List.replicate (k - j) 0++Wir.enc j x)∧Below w.heap.size w wr) (fun i _ _=>(intOf i+1).toNat)
  case atStart=>exact⟨0,by omega,by simp,by simp,by simpa [Wir.enc] using hown,hbel⟩
  case round=>
   clear hown hbel;obtain⟨j,hj,rfl,rfl,hown,hbel⟩:=hrel;have HB:=aD hbel;clear hbel;clear hs d1 d2 d3 hc;have HO:=aD hown
   by_cases hlt:j<k
   ·have hge:decide (0≤(k:Int) - 1 - j)=true:=by simp;omega
    have hlen:(List.replicate (k - j) 0++Wir.enc j x).length=k:=by rw[List.length_append,List.length_replicate,Wir.enc_length];omega
    have hstep:=aD (Wir.enc_step k j x hlt);have hdiv:=aD (show x / 256 ^ (j+1)=x / 256 ^ j / 256 by rw[Nat.pow_succ,Nat.div_div_eq_div_mul]);have hql:x / 256 ^ j≤x:=Nat.div_le_self _ _;rcases hown.cases with ⟨h',_⟩|⟨g,cap,hv,-,-,-,-,hcells,hfroz⟩
    ·simp at h'
    simp only[Value.slice.injEq,Option.some.injEq,Addr.mk.injEq,and_true] at hv;obtain⟨rfl,-,rfl⟩:=hv;have hc:=hcells (k - 1 - j) (by rw[hlen];omega);have hf:=hfroz (k - 1 - j);generalize (List.replicate (k - j) 0++Wir.enc j x).getD (k - 1 - j) 0=old at hc;have HL:=aD hlen;clear hown hcells hfroz hlen;generalize x / 256 ^ j=q at hstep hdiv hql ⊢;go_wp2_with fail;obtain⟨ho2,hg2⟩:=HO.out.set (k - 1 - j) (q % 256) (by omega);have hb2:=aP HB.out (Nat.le_refl _) hg2 (fun g hg=>by simp at hg;omega);have ho3:Own (wr.setCell ⟨w.heap.size,k - 1 - j,none⟩ (bv (q % 256))) w.heap.size (.slice (some ⟨w.heap.size,0,none⟩) k k) (List.replicate (k - (j+1)) 0++Wir.enc (j+1) x):=by
     rw[←hstep.out,show k - j - 1=k - 1 - j by omega];exact ho2
    go_roundw
    case rel=>exact⟨j+1,by omega,by congr 1;omega,by rw[hdiv.out];rfl,ho3,hb2⟩
    case measure=>simp[intOf];omega
   ·obtain rfl:j=k:=by omega
    have hge:decide (0≤(j:Int) - 1 - j)=false:=by simp;omega
    clear hown;go_wp2_with fail;go_ret2;have ho4:=HO.out;rw[Nat.sub_self] at ho4;exact⟨HB.out,.inr ⟨_,_,E.out,rfl,ho4⟩⟩
end Go.Proofs.YtcoolgnlhheaiaaGreatDoor
namespace Go.Proofs.YtcoolgnlhheaiaaGreatDoor
open Go.RowKit Go.Deep
set_option linter.all false
set_option maxRecDepth 100000
set_option maxHeartbeats 1000000
end Go.Proofs.YtcoolgnlhheaiaaGreatDoor
namespace Go.Proofs.YtcoolgnlhheaiaaGreatDoor
open Go.RowKit Go.Deep
set_option linter.all false
set_option maxRecDepth 100000
set_option maxHeartbeats 1000000
def aAI (w:World) (v v':Value):Prop:=v'.ownBlock=v.ownBlock∨∃g,v'.ownBlock=some g∧w.heap.size≤g
theorem rL {w w':World} {base:Nat} {v v':Value} {l:List Nat} {b off m c:Nat} {l2:List Nat} (hown:Own w base v l) (hl2:l2.length=m) (_hall:AllB l2) (hc:∀i,i<l2.length→w.cell? ⟨b,off+i,none⟩=some (bv (l2.getD i 0)))
 (hbytes:l.length+m≤140737488355328) (ty:TypeId) (hrun:(Builtin.append_ #[39,39] ty #[v,.slice (some ⟨b,off,none⟩) m c]).run Tryz.prog w= .ok v' w'):aAI w v v':=by
 obtain⟨i0,hi,hz0,hz1,hz2⟩:=info_parts dC;have hnews:∀j u,(l2.map bv)[j]? =some u→w.cell? ((⟨b,off,none⟩:Addr).add j)=some u:=by
  intro j u hj;have hjl:j<l2.length:=by
   rcases Nat.lt_or_ge j l2.length with h'|h'
   ·exact h'
   ·rw[List.getElem?_eq_none (by simpa using h')] at hj;cases hj
  rw[Addr.add_lit,hc j hjl];simp[hjl] at hj;simp[List.getD,hjl,hj]
 have h1:∀u∈l2.map bv,u.oneCell'=true:=by
  intro u hu;obtain⟨_,_,rfl⟩:=List.mem_map.1 hu;rfl
 have hnl:(l2.map bv).length=m*i0.size:=by rw[List.length_map,hz1];omega
 rcases hown.2.2 with ⟨rfl,hn⟩|⟨g,cap,cur,rfl,hbg,hg,hnc,hcm,hcs,htake⟩
 ·obtain rfl:l=[]:=List.eq_nil_of_length_eq_zero hn
  subst hl2;obtain⟨v2,w2,hr,h2,h3,_⟩:=run_append_own (P:=Tryz.prog) w w.heap.size 39 ty 5 i0 (.int .u8 0) 1 1 Tryz.underlying39 hi hz0 hz1 hz2 rfl (by decide) (.slice none 0 0) 0 [] (World.ownsRow_nil _ _ _ _) ⟨b,off,none⟩ l2.length c (l2.map bv) (by simp) hnews h1 (by unfold maxLen;omega) (by omega) (Nat.le_refl _);rw[hrun] at hr;simp only[Result.ok.injEq] at hr;obtain⟨rfl,rfl⟩:=hr
  cases hv:v'.ownBlock with
  |none=>exact .inl hv
  |some g=>exact .inr ⟨g,hv,(h2.lt g hv).1⟩
 ·by_cases hroom:l.length+m≤cap
  ·have hfit:l.length*i0.size+(l2.map bv).length≤cur.size:=by rw[List.length_map,hz1,hcs];omega
   have hr:=run_append_room (P:=Tryz.prog) w 39 ty 5 i0 Tryz.underlying39 hi g l.length cap cur hg ⟨b,off,none⟩ m c (l2.map bv) hnl hnews h1 hroom hfit;rw[hrun] at hr;simp only[Result.ok.injEq] at hr;obtain⟨rfl,-⟩:=hr;exact .inl rfl
  ·have holds:∀j u,(l.map bv)[j]? =some u→w.cell? ((⟨g,0,none⟩:Addr).add j)=some u:=hown.2.cells (g:=g) rfl
   have hr:=run_append_grow (P:=Tryz.prog) w 39 ty 5 i0 (.int .u8 0) Tryz.underlying39 hi hz0 ⟨g,0,none⟩ l.length cap (l.map bv) (by rw[List.length_map,hz1];omega) holds ⟨b,off,none⟩ m c (l2.map bv) hnl hnews (by omega) (by omega) (growslice_fits (by omega) (by rw[hz2];omega));rw[hrun] at hr;simp only[Result.ok.injEq] at hr;obtain⟨rfl,-⟩:=hr;exact .inr ⟨w.heap.size,rfl,Nat.le_refl _⟩
theorem i4 {w:World} {ops:Array Oper} {rest:List Oper} {o:Oper} {a:Act} {Q:Exit→Act→World→Prop} (hgd:o.guard=none) (s x:Operand)
 (ho:o.op= .call { callee:=.builtin .append,args:=#[s,x],argTypes:=#[39,39]})
 (base:Nat) (v:Value) (l:List Nat) (hs:a.eval s=v) (hown:Own w base v l) (b off c:Nat) (l2:List Nat) (hx:a.eval x= .slice (some ⟨b,off,none⟩) l2.length c) (hall:AllB l2) (hc:∀i,i<l2.length→w.cell? ⟨b,off+i,none⟩=some (bv (l2.getD i 0)))
 (hbytes:l.length+l2.length≤140737488355328) (hbase:base≤w.heap.size)
 (h:∀v' w',Own w' base v' (l++l2)→aAI w v v'→w.grownBy w' v.ownBlock→wpList Tryz.prog ops Q rest (a.put o.dst v') w'):wpList Tryz.prog ops Q (o::rest) a w:=by
 obtain⟨i0,hi,hz0,hz1,hz2⟩:=info_parts dC;have hnews:∀j u,(l2.map bv)[j]? =some u→w.cell? ((⟨b,off,none⟩:Addr).add j)=some u:=by
  intro j u hj;have hjl:j<l2.length:=by
   rcases Nat.lt_or_ge j l2.length with h'|h'
   ·exact h'
   ·rw[List.getElem?_eq_none (by simpa using h')] at hj;cases hj
  rw[Addr.add_lit,hc j hjl];simp[hjl] at hj;simp[List.getD,hjl,hj]
 obtain⟨v',w',hr,h2,h3,_⟩:=run_append_own (P:=Tryz.prog) w base 39 o.type 5 i0 (.int .u8 0) 1 1 Tryz.underlying39 hi hz0 hz1 hz2 rfl (by decide) v l.length (l.map bv) hown.2 ⟨b,off,none⟩ l2.length c (l2.map bv) (by simp) hnews
  (by intro u hu;obtain⟨_,_,rfl⟩:=List.mem_map.1 hu;rfl) (by unfold maxLen;omega) (by omega) hbase
 have ho':Own w' base v' (l++l2):=⟨hown.1.append hall,by rw[List.length_append,List.map_append];exact h2⟩;have hk:=rL hown rfl hall hc hbytes o.type hr;refine wpList_plain hgd fun K hK=>?_
 unfold Oper.wp execOp;simp only[ho,resolve,invoke,builtin,Sem.run_bind,Sem.run_pure,Result.andThen_ok,List.map_toArray,List.map_cons,List.map_nil,hs,hx,hr];exact hK _ _ (h v' w' ho' hk h3)
theorem bN {w:World} {ops:Array Oper} {rest:List Oper} {o:Oper} {a:Act} {Q:Exit→Act→World→Prop} (hgd:o.guard=none) (s x:Operand)
 (ho:o.op= .call { callee:=.builtin .append,args:=#[s,x],argTypes:=#[39,39]})
 (base:Nat) (v:Value) (l:List Nat) (hs:a.eval s=v) (hown:Own w base v l) (b off c:Nat) (l2:List Nat) (hx:a.eval x= .slice (some ⟨b,off,none⟩) l2.length c) (hall:AllB l2) (_hpos:0<l2.length) (hc:∀i,i<l2.length→w.cell? ⟨b,off+i,none⟩=some (bv (l2.getD i 0)))
 (hbytes:l.length+l2.length≤140737488355328) (hbase:base≤w.heap.size)
 (h:∀v' w',Own w' base v' (l++l2)→aAI w v v'→w.grownBy w' v.ownBlock→wpList Tryz.prog ops Q rest (a.put o.dst v') w'):wpList Tryz.prog ops Q (o::rest) a w:=
 i4 hgd s x ho base v l hs hown b off c l2 hx hall hc hbytes hbase h
def Apart (u v:Value):Prop:=u.ownBlock=none∨u.ownBlock≠v.ownBlock
theorem Apart.symm {u v:Value} (h:Apart u v):Apart v u:=by
 rcases h with h|h
 ·cases hv:v.ownBlock with
  |none=>exact .inl hv
  |some g=>exact .inr (by rw[hv,h];simp)
 ·exact .inr (Ne.symm h)
theorem Apart.moved {w:World} {u v v':Value} (h:Apart u v) (k:aAI w v v') (hu:∀g,u.ownBlock=some g→g<w.heap.size):Apart u v':=by
 rcases k with k|⟨g,k,hg⟩
 ·unfold Apart;rw[k];exact h
 ·rcases h with h|h
  ·exact .inl h
  ·refine .inr fun e=>?_
   rw[k] at e;have:=hu g e;omega
end Go.Proofs.YtcoolgnlhheaiaaGreatDoor
namespace Go.Proofs.YtcoolgnlhheaiaaGreatDoor
open Go.RowKit Go.Deep
set_option linter.all false
set_option maxRecDepth 100000
set_option maxHeartbeats 1000000
def aH (k:IntKind) (n:Nat) (f:Nat→Nat):Array Value:=((List.range n).map fun i=>Value.int k (f i:Int)).toArray
theorem aA (k:IntKind) (n:Nat) (f:Nat→Nat):(aH k n f).size=n:=by simp[aH]
theorem cJ (k:IntKind) (n:Nat) (f:Nat→Nat) (i:Nat) (h:i<n):(aH k n f)[i]? =some (.int k (f i:Int)):=by simp[aH,h]
theorem aL (k:IntKind) (n:Nat) (f:Nat→Nat):(aH k n f).all (·.oneCell')=true:=by
 rw[Array.all_eq_true];intro i h;simp[aH,Value.oneCell']
theorem dS (k:IntKind) (n:Nat) (f g:Nat→Nat) (h:∀i,i<n→f i=g i):aH k n f=aH k n g:=by
 unfold aH;congr 1;apply List.map_congr_left;intro i hi;rw[h i (by simpa using hi)]
theorem bY (k:IntKind) (n:Nat) (f:Nat→Nat) (c:Array Value) (hs:c.size=n) (h:∀i,i<n→c[i]? =some (.int k (f i:Int))):c=aH k n f:=by
 apply Array.ext_getElem?;intro i
 by_cases hi:i<n
 ·rw[h i hi,cJ _ _ _ _ hi]
 ·rw[Array.getElem?_eq_none (by omega),Array.getElem?_eq_none (by rw[aA];omega)]
attribute [irreducible] aH
def isArr (w:World) (b:Nat) (t:TypeId) (k:IntKind) (n:Nat) (f:Nat→Nat):Prop:=w.heap[b]? =some (.cells (aH k n f) t (0,0))
theorem isArr.row {w:World} {b:Nat} {t:TypeId} {k:IntKind} {n:Nat} {f:Nat→Nat} (h:isArr w b t k n f):w.rowIs b t n (fun i=>.int k (f i:Int)):=
 ⟨_,h,aA _ _ _,fun _i hi=>cJ _ _ _ _ hi⟩
theorem isArr.of_row {w:World} {b:Nat} {t:TypeId} {k:IntKind} {n:Nat} {f:Nat→Nat} (h:w.rowIs b t n (fun i=>.int k (f i:Int))):isArr w b t k n f:=by
 obtain⟨c,hb,hn,hc⟩:=h;have:=bY k n f c hn hc;subst this;exact hb
theorem isArr.cell {w:World} {b:Nat} {t:TypeId} {k:IntKind} {n:Nat} {f:Nat→Nat} (h:isArr w b t k n f) {i:Nat} (hi:i<n):w.cell? ⟨b,i,none⟩=some (.int k (f i:Int)):=h.row.cell hi
theorem isArr.frozen {w:World} {b:Nat} {t:TypeId} {k:IntKind} {n:Nat} {f:Nat→Nat} (h:isArr w b t k n f) (i:Nat):w.frozen? ⟨b,i,none⟩=false:=h.row.frozen i
theorem isArr.lt {w:World} {b:Nat} {t:TypeId} {k:IntKind} {n:Nat} {f:Nat→Nat} (h:isArr w b t k n f):b<w.heap.size:=h.row.lt
theorem isArr.congr {w:World} {b:Nat} {t:TypeId} {k:IntKind} {n:Nat} {f g:Nat→Nat} (h:isArr w b t k n f) (e:∀i,i<n→f i=g i):isArr w b t k n g:=by
 unfold isArr at h ⊢;rw[←dS k n f g e];exact h
theorem isArr.of_block {w w':World} {b:Nat} {t:TypeId} {k:IntKind} {n:Nat} {f:Nat→Nat} (h:isArr w b t k n f) (e:w'.heap[b]? =w.heap[b]?):isArr w' b t k n f:=e.trans h
theorem isArr.below {w w':World} {b:Nat} {t:TypeId} {k:IntKind} {n:Nat} {f:Nat→Nat} {B:Nat} (h:isArr w b t k n f) (k':Below B w w') (hb:b<B):isArr w' b t k n f:=h.of_block (k'.block b hb)
theorem isArr.set {w:World} {b:Nat} {t:TypeId} {k:IntKind} {n:Nat} {f:Nat→Nat} (h:isArr w b t k n f) (i m:Nat):isArr (w.setCell ⟨b,i,none⟩ (.int k (m:Int))) b t k n (fun j=>if j=i then m else f j):=by
 refine isArr.of_row ((h.row.set i (.int k (m:Int))).congr fun j hj=>?_);split<;>rfl
theorem isArr.setOther {w:World} {b c:Nat} {t:TypeId} {k:IntKind} {n:Nat} {f:Nat→Nat} (h:isArr w b t k n f) (hne:b≠c) (i:Nat) (v:Value):isArr (w.setCell ⟨c,i,none⟩ v) b t k n f:=
 h.of_block (blk_setCell_other _ _ _ _ hne)
theorem isArr.alloc {w:World} {b:Nat} {t:TypeId} {k:IntKind} {n:Nat} {f:Nat→Nat} (h:isArr w b t k n f) (o:Obj):isArr (w.alloc o) b t k n f:=h.of_block (Below.heap_alloc w o b h.lt)
theorem isArr.drewN {w:World} {b:Nat} {t:TypeId} {k:IntKind} {n:Nat} {f:Nat→Nat} (h:isArr w b t k n f) (m:Nat):isArr (w.drewN m) b t k n f:=h
theorem aN (w:World) (t:TypeId) (k:IntKind) (n:Nat) (f:Nat→Nat):isArr (w.alloc (.cells (aH k n f) t)) w.heap.size t k n f:=heap_alloc_new w _
theorem cM (w:World) (t:TypeId) (k:IntKind) (n:Nat) (f:Nat→Nat) (c:Array Value) (hs:c.size=n) (h:∀i,i<n→c[i]? =some (.int k (f i:Int))):isArr (w.alloc (.cells c t)) w.heap.size t k n f:=by
 rw[bY k n f c hs h];exact aN w t k n f
theorem bM {B:Nat} {a w:World} (h:Below B a w) {c:Nat} (hc:B≤c) (i:Nat) (v:Value):Below B a (w.setCell ⟨c,i,none⟩ v):=h.setCell hc v
theorem fY {P:Program} {w:World} {t e:TypeId} {n:Nat} {cs:Array Value} {k:IntKind} {i:Nat} {v:Value} (k':IntKind) (h:P.underlying t=some (.array n e)) (he:P.underlying e=some (.int k')) (hs:P.cellsOf e=1) (hi:i<n) (hc:cs[i]? =some v):
 (Instr.index t (.agg cs) (.int k (i:Int))).run P w= .ok v w:=by
 have hn:(0:Int)≤(i:Int)∧(i:Int)<(n:Int):=by omega
 obtain⟨inf,hinf⟩:=info_of_underlying he;simp[Instr.index,run_underlying h,asIntOf,hi,go_sem,part,isAgg,run_underlying he,run_sizeOf _ hinf,hs,hc]
theorem uF {P:Program} {f:FuncId} {args:Array Value} {w:World} {v:Value} (h:Calls P f args w fun e w'=>e= .returned v∧w=w'):Calls P f args w fun e w'=>e= .returned v∧w'=w:=h.mono fun _ _ ⟨he,hw⟩=>⟨he,hw.symm⟩
theorem cS {P:Program} (w:World) (ad:Addr) (ty:TypeId) (cs:Array Value) (d:TypeDesc) (hc:∀j v,cs[j]? =some v→w.cell? (ad.add j)=some v)
 (hu:P.underlying ty=some d) (hd:(match d with| .struct _| .array _ _=>true|_=>false)=true) (hi:(P.info? ty).map (·.size)=some cs.size):
 (loadVar ty ad).run P w= .ok (.agg cs) w:=by
 have hl:(loadCells ad cs.toList.length).run P w= .ok cs.toList.toArray w:=
  run_loadCells_list (P:=P) w ad cs.toList (fun j v hv=>hc j v (by simpa using hv))
 cases hq:P.info? ty with
 |none=>simp[hq] at hi
 |some i=>
  have hs:i.size=cs.size:=by simpa [hq] using hi
  have hagg:(isAgg ty).run P w= .ok true w:=by
   unfold isAgg;rw[Sem.run_bind,run_underlying hu w]
   cases d<;>simp_all
  simp only[Array.length_toList,Array.toArray_toList] at hl;simp[loadVar,Sem.run_bind,hagg,sizeOf,typeInfo,hq,hs,hl]
theorem cF {P:Program} {ops:Array Oper} {rest:List Oper} {o:Oper} {a:Act} {w:World} {Q:Exit→Act→World→Prop} (hgd:o.guard=none) (ty:TypeId) (x:Operand) (ho:o.op= .load ty x)
 (ad:Addr) (hx:a.eval x= .pointer (some ad)) (cs:Array Value) (d:TypeDesc) (hc:∀j v,cs[j]? =some v→w.cell? (ad.add j)=some v)
 (hu:P.underlying ty=some d) (hd:(match d with| .struct _| .array _ _=>true|_=>false)=true) (hi:(P.info? ty).map (·.size)=some cs.size)
 (h:wpList P ops Q rest (a.put o.dst (.agg cs)) w):wpList P ops Q (o::rest) a w:=
 wpList_plain hgd fun K hK=>by
  unfold Oper.wp execOp;simp only[ho,hx,Instr.loadAt,Instr.sureAddr,Sem.run_bind,Sem.run_pure,Result.andThen_ok,cS w ad ty cs d hc hu hd hi];exact hK _ _ h
theorem aY {P:Program} {ops:Array Oper} {rest:List Oper} {o:Oper} {a:Act} {w:World} {Q:Act→Prop} (hgd:o.guard=none) (ty:TypeId) (x:Operand) (ho:o.op= .load ty x)
 (ad:Addr) (hx:a.eval x= .pointer (some ad)) (cs:Array Value) (d:TypeDesc) (hc:∀j v,cs[j]? =some v→w.cell? (ad.add j)=some v)
 (hu:P.underlying ty=some d) (hd:(match d with| .struct _| .array _ _=>true|_=>false)=true) (hi:(P.info? ty).map (·.size)=some cs.size)
 (h:wpStill P ops w Q rest (a.put o.dst (.agg cs))):wpStill P ops w Q (o::rest) a:=by
 have hw:Region.wanted o (yielded ops a.tmps)=true:=by simp[Region.wanted,hgd]
 refine wpStill_step fun K hK=>?_
 rw[if_pos hw];unfold Oper.still execOp;simp only[ho,hx,Instr.loadAt,Instr.sureAddr,Sem.run_bind,Sem.run_pure,Result.andThen_ok,cS w ad ty cs d hc hu hd hi,Oper.stillUpon];exact⟨trivial,hK _ h⟩
theorem isArr.cells {w:World} {b:Nat} {t:TypeId} {k:IntKind} {n:Nat} {f:Nat→Nat} (h:isArr w b t k n f):∀j v,(aH k n f)[j]? =some v→w.cell? ((⟨b,0,none⟩:Addr).add j)=some v:=by
 intro j v hv;rw[Addr.add_lit,Nat.zero_add];rcases Nat.lt_or_ge j n with hj|hj
 ·rw[h.cell hj,←hv,cJ _ _ _ _ hj]
 ·rw[Array.getElem?_eq_none (by rw[aA];exact hj)] at hv;cases hv
theorem uD {w:World} {b off o n:Nat} {l:List Nat} (hc:∀i,i<l.length→w.cell? ⟨b,off+i,none⟩=some (bv (l.getD i 0))) (h:o+n≤l.length):
 ∀j v,(aH .u8 n (fun i=>l.getD (o+i) 0))[j]? =some v→w.cell? ((⟨b,off+o,none⟩:Addr).add j)=some v:=by
 intro j v hv;rw[Addr.add_lit,Nat.add_assoc];rcases Nat.lt_or_ge j n with hj|hj
 ·rw[hc (o+j) (by omega),←hv,cJ _ _ _ _ hj]
 ·rw[Array.getElem?_eq_none (by rw[aA];exact hj)] at hv;cases hv
end Go.Proofs.YtcoolgnlhheaiaaGreatDoor
namespace Go.Proofs.YtcoolgnlhheaiaaGreatDoor
open Go.RowKit Go.Deep
set_option linter.all false
set_option maxRecDepth 100000
set_option maxHeartbeats 1000000
end Go.Proofs.YtcoolgnlhheaiaaGreatDoor
namespace Go.Proofs.YtcoolgnlhheaiaaGreatDoor
open Go.RowKit Go.Deep
set_option linter.all false
set_option maxRecDepth 100000
set_option maxHeartbeats 1000000
theorem dT (v:Value) (ll:List (List Nat)) (w:World) (h:Bss w v ll) (hb:(Wir.join ll).length≤140737488355328):
 Calls Tryz.prog 99 #[v] w (cG (Wir.join ll) w):=by
 have H:=aD h;obtain⟨a,cap,rfl,hlen,-⟩:=h;obtain⟨n,hn⟩:∃n,n=ll.length:=⟨_,rfl⟩;rw[←hn] at hlen ⊢;have HN:=aD hn;clear hn;go_enter Tryz.func99,Tryz.ntmps99;go_wp2_with fail
 go_loopw [3,4] (fun v i wr=>∃j:Nat,j≤n∧i= .int .i64 j∧Own wr w.heap.size v (Wir.join (ll.take j))∧Below w.heap.size w wr) (fun _ i _=>n - (intOf i).toNat)
 case atStart=>exact⟨0,by omega,rfl,Own.nil _ _,Below.refl _ _⟩
 case round=>
  obtain⟨j,hj,rfl,hown,hbel⟩:=hrel;have hsz:=hbel.size;have HO:=aD hown;have HB:=aD hbel
  by_cases hlt:j<n
  ·have hge:=Wir.get_le ll j (by rw[←HN.out];exact hlt)
   have hsn:=aD (Wir.join_snoc ll j (by rw[←HN.out];exact hlt));have hss:=H.out.below hbel;clear hbel;obtain⟨b,off,u,rfl,hu,hbs⟩:=hss.at (k:=j) (by rw[←HN.out];exact hlt);have HBS:=aD hbs;obtain⟨ua,ucap,rfl⟩:=hbs.form;obtain⟨va,vcap,rfl⟩:=hown.form;clear hss hbs hown;have hbnd:(Wir.join (ll.take j)).length+(ll.getD j []).length≤140737488355328:=by omega
   go_wp2_with (at_builtin;go_must (refine bB rfl _ _ rfl w.heap.size _ _ rfl HO.out _ (ll.getD j []) rfl HBS.out hbnd hsz ?_;intro v2 w2 hown2 hgr2));have hb2:=aP HB.out (Nat.le_refl _) hgr2 (fun g hg=>(HO.out.lt g hg).1);clear hgr2;go_wp2_with fail;go_roundw
   case rel=>exact⟨j+1,by omega,by go_num,by rw[hsn.out];exact hown2,hb2⟩
   case measure=>simp[intOf];omega
  ·obtain rfl:j=n:=by omega
   clear hown hbel;go_wp2_with fail;go_ret;have ht2:ll.take j=ll:=List.take_of_length_le (by rw[HN.out];exact Nat.le_refl _);have:=HO.out;rw[ht2] at this;exact⟨_,rfl,this,HB.out⟩
def fS (l m:List Nat):Bool:=decide (l=m)
theorem aBQ {l m:List Nat} (h:l=m):fS l m=true:=by unfold fS;simp[h]
theorem aFE {l m:List Nat} (h:l≠m):fS l m=false:=by unfold fS;simp[h]
attribute [irreducible] fS
end Go.Proofs.YtcoolgnlhheaiaaGreatDoor
namespace Go.Proofs.YtcoolgnlhheaiaaGreatDoor
open Go.RowKit Go.Deep
set_option linter.all false
set_option maxRecDepth 100000
set_option maxHeartbeats 1000000
theorem string_put (k:Int) (v:Value) (l:List Nat) (w:World) (h:Rs w v l) (hk: -9223372036854775808≤k∧k≤9223372036854775807) (hb:l.length≤140737488355000):
 Calls Tryz.prog 235 #[.int .i64 k,v] w (eA (Wir.putString k l) w):=by
 have H:=aD h;obtain⟨a,cap,rfl⟩:=h.form;clear h;have hput:∀wx,Calls Tryz.prog 181 #[.int .i64 k,.int .u64 ↑l.length] wx (eA (Wir.putNumber k l.length) wx):=by
  intro wx
  by_cases hk:k<1∨8<k
  ·exact pE k _ wx hk
  ·obtain⟨m,rfl⟩:=Int.eq_ofNat_of_zero_le (show 0≤k by omega)
   by_cases hx:l.length<256 ^ m
   ·exact dW m _ wx (by omega) (by omega) hx
   ·refine pD m _ wx (by omega) ?_ (by omega)
    rcases Nat.lt_or_ge m 8 with h|h
    ·exact h
    ·have:256 ^ 8≤256 ^ m:=Nat.pow_le_pow_right (by omega) h
     have h8:(256:Nat) ^ 8=18446744073709551616:=by decide
     omega
 have HP:=aD hput;clear hput;go_enter Tryz.func235,Tryz.ntmps235;go_wp2_with fail;refine(HP.out _).mono ?_;rintro e w1 ⟨hbel,⟨ho,rfl⟩|⟨hd,vh,ho,rfl,hown⟩⟩
 ·have HO:=aD ho;clear ho
  have HB:=aD hbel;clear hbel;go_wp2_with fail;go_ret2;exact⟨HB.out,.inl ⟨by unfold Wir.putString;rw[HO.out];rfl,rfl⟩⟩
 ·have HO:=aD ho
  have hlen:hd.length≤8:=by
   unfold Wir.putNumber at ho;split at ho
   ·simp at ho
   ·split at ho
    ·simp at ho;rw[←ho,Wir.enc_length];omega
    ·simp at ho
  clear ho;have HB:=aD hbel;clear hbel;have HW:=aD hown;obtain⟨va,vcap,rfl⟩:=hown.form;clear hown;go_wp2_with fail;have hjoin:Wir.join [hd,l]=hd++l:=by simp[Wir.join]
  have hss:Bss (w1.alloc (.cells #[.slice va hd.length vcap,.slice a l.length cap] 39)) (.slice (some ⟨w1.heap.size,0,none⟩) 2 2) [hd,l]:=jA HW.out.bs.rs (H.out.below HB.out);refine(iW _ _ _ hss (by rw[hjoin,List.length_append];omega)).mono ?_;rintro e w2 ⟨v2,rfl,hown2,hbel2⟩;rw[hjoin] at hown2;have HO2:=aD hown2;clear hown2;have hb3:Below w.heap.size w w2:=(HB.out.alloc HB.out.size _).trans (hbel2.mono (Nat.le_trans HB.out.size (by simp)));have HB3:=aD hb3;clear hb3 hbel2 hss hjoin;go_wp2_with fail;go_ret2;exact⟨HB3.out,.inr ⟨_,_,by unfold Wir.putString;rw[HO.out];rfl,rfl,HO2.out.mono (Nat.le_trans HB.out.size (by simp))⟩⟩
theorem xZ (k:Int) (x:Nat) (w:World) (hk:k<1∨8<k):
 Calls Tryz.prog 98 #[.int .i64 k,.int .u64 x] w (eA (Wir.putNumber k x) w):=by
 have E:=aD (show Wir.putNumber k x=none by unfold Wir.putNumber;rw[if_pos hk])
 by_cases h1:k<1
 ·clear hk
  go_enter Tryz.func98,Tryz.ntmps98;go_wp2_with fail;go_ret2;exact⟨Below.refl _ _,.inl ⟨E.out,rfl⟩⟩
 ·have h8:8<k:=by omega
  clear hk;go_enter Tryz.func98,Tryz.ntmps98;go_wp2_with fail;go_ret2;exact⟨Below.refl _ _,.inl ⟨E.out,rfl⟩⟩
theorem aA4 (k x:Nat) (w:World) (hk1:1≤k) (hk8:k≤8) (hx:x<18446744073709551616):
 Calls Tryz.prog 98 #[.int .i64 k,.int .u64 x] w (eA (Wir.putNumber k x) w):=by
 have d1:decide ((k:Int)<1)=false:=by simp;omega
 have d2:decide (8<(k:Int))=false:=by simp;omega
 go_enter Tryz.func98,Tryz.ntmps98;go_wp2_with fail
 go_loopw [6,7,1] (fun v i y wr=>∃j:Nat,j≤k∧i= .int .i64 j∧y= .int .u64 ↑(x / 256 ^ j)∧Own wr w.heap.size v (Wir.enc j x)∧Below w.heap.size w wr) (fun _ i _ _=>k - (intOf i).toNat)
 case atStart=>exact⟨0,by omega,rfl,by simp,Own.nil _ _,Below.refl _ _⟩
 case round=>
  clear d1 d2;obtain⟨j,hj,rfl,rfl,hown,hbel⟩:=hrel;have HB:=aD hbel;have hsz:=hbel.size;clear hbel;have HO:=aD hown;have hql:x / 256 ^ j≤x:=Nat.div_le_self _ _
  by_cases hlt:j<k
  ·have hcons:=aD (Wir.enc_cons j x)
   have hdiv:=aD (show x / 256 ^ (j+1)=x / 256 ^ j / 256 by rw[Nat.pow_succ,Nat.div_div_eq_div_mul]);obtain⟨va,vcap,rfl⟩:=hown.form;have hel:(Wir.enc j x).length=j:=Wir.enc_length j x;have HEL:=aD hel;clear hown hel;generalize x / 256 ^ j=q at hcons hdiv hql ⊢;have hq2:q % 256<256:=Nat.mod_lt _ (by omega);go_wp2_with (at_builtin;go_must (refine bW rfl _ _ rfl w.heap.size (.slice (some ⟨wr.heap.size,0,none⟩) 1 1) [q % 256] rfl (bL wr _ [q % 256] (AllB.one hq2) hsz (by simp)) _ (Wir.enc j x) rfl (HO.out.bs.below ((Below.refl _ _).alloc (Nat.le_refl _) _)) (by rw[HEL.out];simp;omega) (Nat.le_trans hsz (by simp)) ?_;intro v2 w2 hown2 hgr2));have hb2:=aP (HB.out.alloc hsz (.cells #[bv (q % 256)] 5)) (Nat.le_refl _) hgr2 (fun g hg=>by simp[Value.ownBlock] at hg;omega);clear hgr2;go_wp2_with fail;go_roundw
   case rel=>exact⟨j+1,by omega,by go_num,by rw[hdiv.out];rfl,by rw[hcons.out];exact hown2,hb2⟩
   case measure=>simp[intOf];omega
  ·obtain rfl:j=k:=by omega
   clear hown
   by_cases hz:x / 256 ^ j=0
   ·have hlt2:x<256 ^ j:=by
     rcases Nat.lt_or_ge x (256 ^ j) with h|h
     ·exact h
     ·have:=Nat.div_pos h (Nat.pow_pos (by omega));omega
    have E:=aD (show Wir.putNumber j x=some (Wir.enc j x) by unfold Wir.putNumber;rw[if_neg (by omega),if_pos (by simpa using hlt2)];simp);rw[hz];clear hz hlt2 hql;go_wp2_with fail;go_ret2;exact⟨HB.out,.inr ⟨_,_,E.out,rfl,HO.out⟩⟩
   ·have hge2:256 ^ j≤x:=by
     rcases Nat.lt_or_ge x (256 ^ j) with h|h
     ·exact absurd (Nat.div_eq_of_lt h) hz
     ·exact h
    have E:=aD (show Wir.putNumber j x=none by unfold Wir.putNumber;rw[if_neg (by omega),if_neg (by simp;omega)]);generalize x / 256 ^ j=q at hz hql ⊢;have hq0:0<q:=by omega
    clear hz hge2;go_wp2_with fail;go_ret2;exact⟨HB.out,.inl ⟨E.out,rfl⟩⟩
theorem fH (k:Int) (x:Nat) (w:World) (hx:x<18446744073709551616):Calls Tryz.prog 98 #[.int .i64 k,.int .u64 x] w (eA (Wir.putNumber k x) w):=by
 by_cases hk:k<1∨8<k
 ·exact xZ k x w hk
 ·obtain⟨m,rfl⟩:=Int.eq_ofNat_of_zero_le (show 0≤k by omega)
  exact aA4 m x w (by omega) (by omega) hx
end Go.Proofs.YtcoolgnlhheaiaaGreatDoor
namespace Go.Proofs.YtcoolgnlhheaiaaGreatDoor
open Go.RowKit Go.Deep
set_option linter.all false
set_option maxRecDepth 100000
set_option maxHeartbeats 1000000
theorem lL (k:Int) (v:Value) (l:List Nat) (w:World) (h:Rs w v l) (hb:l.length≤140737488355000):
 Calls Tryz.prog 129 #[.int .i64 k,v] w (eA (Wir.putString k l) w):=by
 have H:=aD h;obtain⟨a,cap,rfl⟩:=h.form;clear h;go_enter Tryz.func129,Tryz.ntmps129;go_wp2_with fail;refine(fH k l.length _ (by omega)).mono ?_;rintro e w1 ⟨hbel,⟨ho,rfl⟩|⟨hd,vh,ho,rfl,hown⟩⟩
 ·have HO:=aD ho;clear ho
  have HB:=aD hbel;clear hbel;go_wp2_with fail;go_ret2;exact⟨HB.out,.inl ⟨by unfold Wir.putString;rw[HO.out];rfl,rfl⟩⟩
 ·have HO:=aD ho
  have hlen:hd.length≤8:=by
   unfold Wir.putNumber at ho;split at ho
   ·simp at ho
   ·split at ho
    ·simp at ho;rw[←ho,Wir.enc_length];omega
    ·simp at ho
  clear ho;have hsz:=hbel.size;have HB:=aD hbel;clear hbel;have HW:=aD hown;obtain⟨va,vcap,rfl⟩:=hown.form;clear hown;go_wp2_with (at_builtin;go_must (refine bB rfl _ _ rfl w.heap.size _ _ rfl HW.out _ l rfl (H.out.below HB.out) (by omega) hsz ?_;intro v2 w2 hown2 hgr2));have hb2:=aP HB.out (Nat.le_refl _) hgr2 (fun g hg=>(HW.out.lt g hg).1);clear hgr2;have HB2:=aD hb2;clear hb2;have HO2:=aD hown2;clear hown2;go_wp2_with fail;go_ret2;exact⟨HB2.out,.inr ⟨_,_,by unfold Wir.putString;rw[HO.out];rfl,rfl,HO2.out⟩⟩
end Go.Proofs.YtcoolgnlhheaiaaGreatDoor
namespace Go.Proofs.YtcoolgnlhheaiaaGreatDoor
open Go.RowKit Go.Deep
set_option linter.all false
set_option maxRecDepth 100000
set_option maxHeartbeats 1000000
theorem aIC (n:Nat) (f:Nat→Nat) (x:List Nat) (h:x.length≤n):
 ((aH .u8 n f).toList.take 0++(x.map bv++(aH .u8 n f).toList.drop (0+x.length))).toArray=aH .u8 n (fun i=>if i<x.length then x.getD i 0 else f i):=by
 have hg:∀i,i<n→(aH .u8 n f).toList[i]? =some (bv (f i)):=fun i hi=>by rw[Array.getElem?_toList,cJ _ _ _ _ hi]
 refine bY _ _ _ _ (by simp[aA];omega) fun i hi=>?_
 rw[List.getElem?_toArray,List.take_zero,List.nil_append,Nat.zero_add]
 by_cases h2:i<x.length
 ·rw[List.getElem?_append_left (by simp;omega),if_pos h2,List.getElem?_map,List.getElem?_eq_getElem h2]
  simp[List.getD,h2]
 ·rw[List.getElem?_append_right (by simp;omega),if_neg h2,List.length_map,List.getElem?_drop,show x.length+(i - x.length)=i by omega,hg i hi]
theorem cO (w:World) (g:Nat) (cs:Array Value):w.grownBy (w.setRow g cs) (some g):=
 ⟨rfl,rfl,rfl,by simp[World.setRow],fun k _ hne=>setRow_other w g k cs (fun e=>hne (by rw[e]))⟩
theorem kD {w:World} {ad:Addr} {l:List Nat} {m:Nat} (hc:∀i,i<l.length→w.cell? (ad.add i)=some (bv (l.getD i 0))) (hm:m≤l.length):∀j v,((l.take m).map bv)[j]? =some v→w.cell? (ad.add j)=some v:=by
 intro j v hj;have hjm:j<m:=by
  rcases Nat.lt_or_ge j m with h'|h'
  ·exact h'
  ·rw[List.getElem?_eq_none (by rw[List.length_map,List.length_take];omega)] at hj;cases hj
 rw[hc j (by omega)];rw[List.getElem?_map,List.getElem?_take,if_pos hjm,List.getElem?_eq_getElem (by omega)] at hj;simp[List.getD,show j<l.length by omega] at hj ⊢;exact hj
theorem oR (l:List Nat):∀v∈l.map bv,v.oneCell'=true:=by
 intro v hv;obtain⟨_,_,rfl⟩:=List.mem_map.1 hv;rfl
theorem yD {w:World} {ops:Array Oper} {rest:List Oper} {o:Oper} {a:Act} {Q:Exit→Act→World→Prop} (hgd:o.guard=none) (d s:Operand)
 (ho:o.op= .call { callee:=.builtin .copy,args:=#[d,s],argTypes:=#[39,39]}) (g n:Nat) (t:TypeId) (f:Nat→Nat) (hd:a.eval d= .slice (some ⟨g,0,none⟩) n n) (hg:isArr w g t .u8 n f)
 (x:Value) (l:List Nat) (hs:a.eval s=x) (hx:Rs w x l)
 (h:∀w',isArr w' g t .u8 n (fun i=>if i<l.length then l.getD i 0 else f i)→w.grownBy w' (some g)→wpList Tryz.prog ops Q rest (a.put o.dst (goInt (Nat.min l.length n))) w'):wpList Tryz.prog ops Q (o::rest) a w:=by
 obtain⟨i0,hi,hz0,hz1,hz2⟩:=info_parts dC;have hsz:(Tryz.prog.info? 5).map (·.size)=some 1:=by rw[hi];simp[hz1]
 by_cases h0:Nat.min l.length n=0
 ·obtain⟨xa,xc,rfl⟩:=hx.form
  refine wpList_copy_nothing hgd d s 39 39 ho 5 Tryz.underlying39 hsz _ _ _ _ _ _ hd hs h0 ?_
  have:=h w (hg.congr fun i hi=>by
   rw[if_neg];intro hlt;rcases Nat.le_total l.length n with h'|h'
   ·have:Nat.min l.length n=l.length:=Nat.min_eq_left h'
    omega
   ·have:Nat.min l.length n=n:=Nat.min_eq_right h'
    omega) (aE _ _)
  rw[h0] at this;exact this
 ·rcases hx.2.2 with ⟨rfl,rfl⟩|⟨ad,cap,rfl,_,hc⟩
  ·simp at h0
  ·obtain⟨m,hm⟩:∃m,m=Nat.min l.length n:=⟨_,rfl⟩
   have hm1:m≤l.length:=by rw[hm];exact Nat.min_le_left _ _
   have hm2:m≤n:=by rw[hm];exact Nat.min_le_right _ _
   have hm3:m=l.length∨m=n:=by rw[hm];rcases Nat.le_total l.length n with h|h;exact .inl (Nat.min_eq_left h);exact .inr (Nat.min_eq_right h)
   have hlen:(l.take m).length=m:=by rw[List.length_take];omega
   refine wpList_copy_own hgd d s 39 39 ho 5 Tryz.underlying39 hsz g 0 n n ad l.length cap hd hs (aH .u8 n f) t hg ((l.take m).map bv) (by rw[List.length_map,hlen,hm]) (kD hc hm1) (by rw[List.length_map,hlen,aA];omega) (oR _) ?_;have e:=aIC n f (l.take m) (by rw[hlen];omega);rw[List.length_map,e,hlen,hm];refine h _ ((show isArr _ g t .u8 n _ from setRow_heap w g _ _ _ (0,0) hg).congr fun i hi=>?_) (cO w g _);rw[←hm]
   by_cases hil:i<l.length
   ·rw[if_pos hil,if_pos (by omega),jR _ _ _ (by omega)]
   ·rw[if_neg hil,if_neg (by omega)]
theorem aBT {w:World} {ops:Array Oper} {rest:List Oper} {o:Oper} {a:Act} {Q:Exit→Act→World→Prop} (hgd:o.guard=none) (d s:Operand)
 (ho:o.op= .call { callee:=.builtin .copy,args:=#[d,s],argTypes:=#[39,39]}) (base:Nat) (v:Value) (l:List Nat) (hd:a.eval d=v) (hown:Own w base v l)
 (x:Value) (l2:List Nat) (hs:a.eval s=x) (hx:Rs w x l2) (hl:l.length=l2.length)
 (h:∀w',Own w' base v l2→w.grownBy w' v.ownBlock→wpList Tryz.prog ops Q rest (a.put o.dst (goInt l2.length)) w'):wpList Tryz.prog ops Q (o::rest) a w:=by
 obtain⟨i0,hi,hz0,hz1,hz2⟩:=info_parts dC;have hsz:(Tryz.prog.info? 5).map (·.size)=some 1:=by rw[hi];simp[hz1]
 by_cases h0:l2.length=0
 ·obtain⟨xa,xc,rfl⟩:=hx.form
  obtain⟨va,vc,rfl⟩:=hown.form;refine wpList_copy_nothing hgd d s 39 39 ho 5 Tryz.underlying39 hsz _ _ _ _ _ _ hd hs (by rw[h0];exact Nat.zero_min _) ?_;have e1:l=[]:=List.eq_nil_of_length_eq_zero (by omega);have e2:l2=[]:=List.eq_nil_of_length_eq_zero h0;have:=h w (by rw[e2,←e1];exact hown) (aE _ _);rw[h0] at this;exact this
 ·rcases hx.2.2 with ⟨rfl,rfl⟩|⟨ad,cap,rfl,_,hc⟩
  ·simp at h0
  ·obtain⟨hB,ho1⟩:=hown
   rcases ho1.2 with ⟨rfl,hn⟩|⟨g,vcap,cur,rfl,hbg,hg,hnc,hcm,hcs,htake⟩
   ·omega
   ·have hmin:Nat.min l2.length l.length=l2.length:=by rw[hl];exact Nat.min_self _
    refine wpList_copy_own hgd d s 39 39 ho 5 Tryz.underlying39 hsz g 0 l.length vcap ad l2.length cap hd hs cur 5 hg ((l2.take l2.length).map bv) (by rw[List.length_map,List.take_length,hmin]) (kD hc (Nat.le_refl _)) (by rw[List.length_map,List.take_length,hcs];omega) (oR _) ?_;rw[List.take_length,List.length_map,List.take_zero,List.nil_append,Nat.zero_add];refine h _ ⟨hx.1,?_⟩ (cO w g _);refine⟨by simp,.inr ⟨g,vcap,_,by rw[hl],hbg,setRow_heap w g _ _ _ (0,0) hg,by omega,hcm,by simp[hcs];omega,?_⟩⟩;rw[List.toList_toArray,List.take_append_of_le_length (by simp),List.take_of_length_le (by simp)]
theorem isArr.bs {w:World} {b n:Nat} {t:TypeId} {f:Nat→Nat} (h:isArr w b t .u8 n f) (hf:∀i,f i<256) (hn:n≤9223372036854775807):Bs w (.slice (some ⟨b,0,none⟩) n n) ((List.range n).map f):=by
 refine tD (fun x hx=>?_) (by simp) (Nat.le_refl _) hn h.lt fun i hi=>?_
 ·obtain⟨i,_,rfl⟩:=List.mem_map.1 hx
  exact hf i
 ·have hi':i<n:=by simpa using hi
  rw[Nat.zero_add,h.cell hi'];simp[List.getD,hi']
end Go.Proofs.YtcoolgnlhheaiaaGreatDoor
namespace Go.Proofs.YtcoolgnlhheaiaaGreatDoor
open Go.RowKit Go.WideShapes Go.ChangeShapes
set_option linter.all false
set_option maxRecDepth 100000
set_option maxHeartbeats 1000000
section
variable {H:Type} {enc:TypeId×Value→H} {P:Program} {w:World} {base:Nat} {spare:Nat→Bool} {held:Bool}
end
end Go.Proofs.YtcoolgnlhheaiaaGreatDoor
namespace Go.Proofs.YtcoolgnlhheaiaaGreatDoor
open Go.RowKit Go.WideShapes Go.ChangeShapes
set_option linter.all false
set_option maxRecDepth 100000
set_option maxHeartbeats 1000000
section
variable {H:Type} {enc:TypeId×Value→H} {P:Program} {w:World}
end
section
variable {H:Type} {enc:TypeId×Value→H} {P:Program} {w:World}
end
end Go.Proofs.YtcoolgnlhheaiaaGreatDoor
namespace Go.Proofs.YtcoolgnlhheaiaaGreatDoor
open Go.RowKit Go.WideShapes Go.ChangeShapes
set_option linter.all false
set_option maxRecDepth 100000
set_option maxHeartbeats 1000000
section
variable {H:Type} {enc:TypeId×Value→H} {P:Program} {w:World}
end
end Go.Proofs.YtcoolgnlhheaiaaGreatDoor
