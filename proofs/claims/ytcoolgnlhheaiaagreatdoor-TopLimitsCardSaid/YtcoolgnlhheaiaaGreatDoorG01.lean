import Derived.BigCall
import Derived.Deep.Cut
import Derived.Deep.MidRow
import Derived.Great.BuildSlice
import Derived.Handy
import Derived.Laws.IdiomStrings
import Derived.Lib.OthersKept
import Derived.LoopIn
import Derived.LoopNIn
import Derived.OwnWalkIn
import Derived.RangeFuncBound
import Derived.RangeFuncCalls
import Derived.RangeFuncLeaves
import Derived.RangeFuncNested
import Derived.TacticsInMore
import Derived.WalkMore
import Derived.Test.YtcoolgnlhheaiaaGreatDoorG00
namespace Go.Proofs.YtcoolgnlhheaiaaGreatDoor
open Go.RowKit Go.Deep
set_option linter.all false
theorem oL {a b c:World} (h:Below a.heap.size a b) (k:Below b.heap.size b c):Below a.heap.size a c:=h.trans (k.mono h.size)
section
variable {P:Program} {ops:Array Oper} {Q:Exit→Act→World→Prop} {md:Region.Mode} {S:World→Prop} {fuel:Nat} {listed:Array Bool} {a:Act} {w:World}
theorem aB2 (i:Nat) (dst:Option Tmp) {o:Oper} (hr:Region.ready md ops listed=[i]) (ho:ops[i]? =some o) (hdst:o.dst=dst) (hw:Region.wanted o (yielded ops a.tmps)=true) (f:FuncId) (args:Array Value) (hrun:(execOp a.eval o).run P w= .ok (.enter f args) w)
 (h:Calls P f args w fun e w'=>∃v,e= .returned v∧S w'∧wpAnyH P md ops Q S fuel (listed.setIfInBounds i true) (a.put dst v) w'):wpAnyH P md ops Q S (fuel+1) listed a w:=by
 subst hdst;refine wpAnyH_ready hr (by simp) (AllReadyH.cons ho (fun K hK=>?_) AllReadyH.nil);rw[if_pos hw];unfold Oper.wp;rw[hrun,Oper.upon_enter];refine h.mono fun e w' hh=>?_
 obtain⟨v,rfl,hS,hn⟩:=hh;exact hK.out _ _ hS (fun _=>hn)
def HStep (P:Program) (md:Region.Mode) (ops:Array Oper) (Q:Exit→Act→World→Prop) (S:World→Prop) (fuel:Nat) (listed:Array Bool) (a:Act) (w:World) (i:Nat) (o:Oper):Prop:=
 ∀K':Act→World→Prop,Shut (∀a w,S w→(S w→wpAnyH P md ops Q S fuel (listed.setIfInBounds i true) a w)→K' a w)→if Region.wanted o (yielded ops a.tmps)=true then Oper.wp P o a w K' Q else K' (a.put o.dst undef) w
theorem vG (i:Nat) {o:Oper} (hr:Region.ready md ops listed=[i]) (ho:ops[i]? =some o) (h:HStep P md ops Q S fuel listed a w i o):wpAnyH P md ops Q S (fuel+1) listed a w:=
 wpAnyH_ready hr (by simp) (AllReadyH.cons ho h AllReadyH.nil)
theorem aD2 (i j:Nat) {oi oj:Oper} (hr:Region.ready md ops listed=[i,j]) (hi:ops[i]? =some oi) (hj:ops[j]? =some oj) (h1:HStep P md ops Q S fuel listed a w i oi) (h2:HStep P md ops Q S fuel listed a w j oj):wpAnyH P md ops Q S (fuel+1) listed a w:=
 wpAnyH_ready hr (by simp) (AllReadyH.cons hi h1 (AllReadyH.cons hj h2 AllReadyH.nil))
theorem zI (i j k:Nat) {oi oj ok:Oper} (hr:Region.ready md ops listed=[i,j,k]) (hi:ops[i]? =some oi) (hj:ops[j]? =some oj) (hk:ops[k]? =some ok) (h1:HStep P md ops Q S fuel listed a w i oi) (h2:HStep P md ops Q S fuel listed a w j oj) (h3:HStep P md ops Q S fuel listed a w k ok):wpAnyH P md ops Q S (fuel+1) listed a w:=
 wpAnyH_ready hr (by simp) (AllReadyH.cons hi h1 (AllReadyH.cons hj h2 (AllReadyH.cons hk h3 AllReadyH.nil)))
theorem HStep.call {i:Nat} {o:Oper} (dst:Option Tmp) (hdst:o.dst=dst) (hw:Region.wanted o (yielded ops a.tmps)=true) (f:FuncId) (args:Array Value) (hrun:(execOp a.eval o).run P w= .ok (.enter f args) w)
 (h:Calls P f args w fun e w'=>∃v,e= .returned v∧S w'∧wpAnyH P md ops Q S fuel (listed.setIfInBounds i true) (a.put dst v) w'):HStep P md ops Q S fuel listed a w i o:=fun K hK=>by
 subst hdst;rw[if_pos hw];unfold Oper.wp;rw[hrun,Oper.upon_enter];refine h.mono fun e w' hh=>?_
 obtain⟨v,rfl,hS,hn⟩:=hh;exact hK.out _ _ hS (fun _=>hn)
theorem HStep.value {i:Nat} {o:Oper} (dst:Option Tmp) (hdst:o.dst=dst) (hw:Region.wanted o (yielded ops a.tmps)=true) (v:Value) (w':World) (hrun:(execOp a.eval o).run P w= .ok (.value v) w') (hS:S w')
 (h:wpAnyH P md ops Q S fuel (listed.setIfInBounds i true) (a.put dst v) w'):HStep P md ops Q S fuel listed a w i o:=fun K hK=>by
 subst hdst;rw[if_pos hw];unfold Oper.wp;rw[hrun,Oper.upon_value];exact hK.out _ _ hS (fun _=>h)
theorem HStep.skip {i:Nat} {o:Oper} (dst:Option Tmp) (hdst:o.dst=dst) (hw:Region.wanted o (yielded ops a.tmps)=true) (w':World) (hrun:(execOp a.eval o).run P w= .ok .skip w') (hS:S w')
 (h:wpAnyH P md ops Q S fuel (listed.setIfInBounds i true) (a.put dst undef) w'):HStep P md ops Q S fuel listed a w i o:=fun K hK=>by
 subst hdst;rw[if_pos hw];unfold Oper.wp;rw[hrun,Oper.upon_skip];exact hK.out _ _ hS (fun _=>h)
theorem HStep.law {i:Nat} {o:Oper} (hw:Region.wanted o (yielded ops a.tmps)=true) (h:∀K':Act→World→Prop,(∀a w,S w→wpAnyH P md ops Q S fuel (listed.setIfInBounds i true) a w→K' a w)→o.wp P a w K' Q):HStep P md ops Q S fuel listed a w i o:=fun K hK=>by
 rw[if_pos hw];exact h K (fun a w hS hn=>hK.out a w hS (fun _=>hn))
theorem lN (i:Nat) (dst:Option Tmp) {oi:Oper} (hi:ops[i]? =some oi) (hdst:oi.dst=dst) (hs:Region.noSelect ops=true) (hf:Region.free md ops listed i=true) (hr:(Region.ready md ops listed).contains i=true)
 (hQ2:∀c a v w,Q (.panic c) (a.put dst v) w→Q (.panic c) a w) (hw:Region.wanted oi (yielded ops a.tmps)=true) (v:Value) (hrun:∀w,S w→(execOp a.eval oi).run P w= .ok (.value v) w) (hS:S w)
 (h:wpAnyH P md ops Q S fuel (listed.setIfInBounds i true) (a.put dst v) w):wpAnyH P md ops Q S (fuel+1) listed a w:=by
 subst hdst;exact wpAnyH_take hi hs hf hr (fun c a w=>hQ2 c a _ w) (.inl ⟨hw,hrun⟩) hS h
def pC (K:Act→World→Prop) (Q:Exit→Act→World→Prop):Exit→Act→World→Prop
 | .normal,a,w=>K a w
 | .panic c,a,w=>Q (.panic c) a w
 |_,_,_=>False
theorem jG {o:Oper} {K:Act→World→Prop} (h:wpList P ops (pC K Q) [{ o with guard:=none}] a w):o.wp P a w K Q:=by
 unfold wpList at h;have hw:Region.wanted { o with guard:=none} (yielded ops a.tmps)=true:=by simp[Region.wanted]
 rw[if_pos hw] at h;rcases h with h|⟨_,_,_,h⟩
 ·have e:Oper.wp P { o with guard:=none} a w (wpList P ops (pC K Q) []) (pC K Q)=Oper.upon P o a (wpList P ops (pC K Q) []) (pC K Q) ((execOp a.eval o).run P w):=rfl
  rw[e] at h;unfold Oper.wp;generalize (execOp a.eval o).run P w=r at h ⊢
  cases r with
  |ok n w'=>
   cases n<;>simp only[Oper.upon] at h ⊢
   case enter f args=>
    refine h.mono fun e w'' hh=>?_
    cases e with
    |returned v=>exact hh
    |panicked c=>exact hh
    |outgrown=>obtain⟨_,_,hf⟩:=hh;exact hf.elim
   all_goals exact h
  |halt x w'=>
   cases x<;>simp only[Oper.upon] at h ⊢
   all_goals exact h
 ·exact h.elim
theorem HStep.of_law {i:Nat} {o:Oper} (ops0:Array Oper) (hw:Region.wanted o (yielded ops a.tmps)=true)
 (h:∀K':Act→World→Prop,(∀a w,S w→wpAnyH P md ops Q S fuel (listed.setIfInBounds i true) a w→K' a w)→wpList P ops0 (pC K' Q) [{ o with guard:=none}] a w):HStep P md ops Q S fuel listed a w i o:=
 HStep.law hw fun K' hK=>jG (h K' hK)
end
attribute [irreducible] HStep
end Go.Proofs.YtcoolgnlhheaiaaGreatDoor
namespace Go.Proofs.YtcoolgnlhheaiaaGreatDoor
open Go.RowKit Go.Deep
set_option linter.all false
section
variable {ops:Array Oper} {Q:Exit→Act→World→Prop} {md:Region.Mode} {S:World→Prop} {fuel:Nat} {listed:Array Bool} {a:Act} {w:World}
theorem o8 (o:Oper) (a:Act) (w:World) (x:Operand) (c:Nat) (ho:o.op= .buildSlice 39 1 #[(0,x)]) (hx:a.eval x= .int .u8 (c:Int)):
 (execOp a.eval o).run Tryz.prog w= .ok (.value (.slice (some ⟨w.heap.size,0,none⟩) 1 1)) (w.alloc (.cells #[.int .u8 (c:Int)] 5)):=by
 unfold execOp;simp only[ho];rw[show(#[(0,x)]:Array (Nat×Operand)).map (fun(i,x)=>(i,a.eval x))=#[(0,.int .u8 (c:Int))] by simp[hx]]
 kernel_rfl
theorem HStep.byte {i:Nat} {o:Oper} (dst:Option Tmp) (hdst:o.dst=dst) (hw:Region.wanted o (yielded ops a.tmps)=true) (x:Operand) (c:Nat) (ho:o.op= .buildSlice 39 1 #[(0,x)]) (hx:a.eval x= .int .u8 (c:Int)) (hc:c<256)
 (hS:∀w',Below w.heap.size w w'→S w')
 (h:∀(w':World) (g:Nat),Below w.heap.size w w'→Rs w' (.slice (some ⟨g,0,none⟩) 1 1) [c]→wpAnyH Tryz.prog md ops Q S fuel (listed.setIfInBounds i true) (a.put dst (.slice (some ⟨g,0,none⟩) 1 1)) w'):
 HStep Tryz.prog md ops Q S fuel listed a w i o:=
 HStep.value dst hdst hw _ _ (o8 o a w x c ho hx) (hS _ ((Below.refl _ _).alloc (Nat.le_refl _) _)) (h _ _ ((Below.refl _ _).alloc (Nat.le_refl _) _) (bL w 0 [c] (AllB.one hc) (Nat.zero_le _) (by simp)).bs.rs)
end
end Go.Proofs.YtcoolgnlhheaiaaGreatDoor
namespace Go.Proofs.YtcoolgnlhheaiaaGreatDoor
open Go.RowKit Go.Deep
set_option linter.all false
section
variable {ops:Array Oper} {Q:Exit→Act→World→Prop} {md:Region.Mode} {S:World→Prop} {fuel:Nat} {listed:Array Bool} {a:Act} {w:World}
end
end Go.Proofs.YtcoolgnlhheaiaaGreatDoor
namespace Go.Proofs.YtcoolgnlhheaiaaGreatDoor
open Go.RowKit Go.Deep
set_option linter.all false
def dN:Code→Nat→Option (Array Oper)
 | .region id ops _,n=>if Nat.beq id n then some ops else none
 | .seq a b,n=>match dN a n with|some x=>some x|none=>dN b n
 | .cond _ a b,n=>match dN a n with|some x=>some x|none=>dN b n
 | .block _ b,n=>dN b n
 | .loop b,n=>dN b n
 | .rangeFunc _ _ a b,n=>match dN a n with|some x=>some x|none=>dN b n
 | .scope b,n=>dN b n
 |_,_=>none
def iJ (f:Func) (n:Nat):Array Oper:=match f.body with
 |some c=>(match dN c n with|some x=>x|none=>#[])
 |none=>#[]
def opn (ops:Array Oper) (i:Nat):Oper:=ops.getD i default
def nq (K:Act→World→Prop):Exit→Act→World→Prop
 | .normal,a,w=>K a w
 |_,_,_=>False
section
variable {P:Program} {ops:Array Oper} {K:Act→World→Prop} {S:World→Prop} {n:Nat} {listed:Array Bool} {a:Act} {w:World}
theorem bO {ops0:Array Oper} {id:Nat} {Q:Exit→Act→World→Prop} (f:Func) (k n:Nat) (S:World→Prop) (hr:iJ f k=ops0) (hn:(iJ f k).size=n) (hm:P.follows .mixedOrders=true) (hS:S (w.drewN 1))
 (h:∀K:Act→World→Prop,(∀a w,Q .normal a w→K a w)→S (w.drewN 1)→wpAnyH P .any (iJ f k) (nq K) S n (Array.replicate n false) a (w.drewN 1)):(Code.region id ops0 true).wp P Q a w:=by
 subst hr;subst hn;refine Code.wp_mono (Q:=nq (Q .normal)) (fun e a w h=>?_) (wp_region_held_drew (S:=S) hm hS (h _ (fun _ _ h=>h)))
 cases e<;>first|exact h|exact(h:False).elim
def qH (ops:Array Oper) (listed:Array Bool) (a:Act) (i:Nat) (d:Tmp):Bool:=
 (Nat.blt i ops.size)&&Region.noSelect ops&&Region.free .any ops listed i&&(Region.ready .any ops listed).contains i&&(match (opn ops i).dst with|some d'=>Nat.beq d' d|none=>false)&&Region.wanted (opn ops i) (yielded ops a.tmps)
theorem gY {i:Nat} (h:Nat.blt i ops.size=true):ops[i]? =some (opn ops i):=by
 have h':i<ops.size:=Nat.le_of_ble_eq_true h;simp[opn,h']
theorem lE {o:Oper} {d:Tmp} (h:(match o.dst with|some d'=>Nat.beq d' d|none=>false)=true):o.dst=some d:=by
 cases hd:o.dst with
 |none=>rw[hd] at h;cases h
 |some d'=>rw[hd] at h;rw[Nat.eq_of_beq_eq_true h]
theorem oY (i:Nat) (d:Tmp) (v:Value) (hB:qH ops listed a i d=true) (hrun:∀w,S w→(execOp a.eval (opn ops i)).run P w= .ok (.value v) w) (hS:S w)
 (h:wpAnyH P .any ops (nq K) S n (listed.setIfInBounds i true) (a.put (some d) v) w):wpAnyH P .any ops (nq K) S (n+1) listed a w:=by
 unfold qH at hB;simp only[Bool.and_eq_true] at hB;obtain⟨⟨⟨⟨⟨h1,h2⟩,h3⟩,h4⟩,h5⟩,h6⟩:=hB;exact lN i (some d) (gY h1) (lE h5) h2 h3 h4 (fun _ _ _ _ h=>h) h6 v hrun hS h
def aJC (ops:Array Oper) (listed:Array Bool) (a:Act) (i:Nat) (d:Tmp):Bool:=
 (Nat.blt i ops.size)&&Region.noSelect ops&&Region.free .any ops listed i&&(Region.ready .any ops listed).contains i&&(match (opn ops i).dst with|some d'=>Nat.beq d' d|none=>false)&& !Region.wanted (opn ops i) (yielded ops a.tmps)
theorem cX (i:Nat) (d:Tmp) (hB:aJC ops listed a i d=true) (hS:S w)
 (h:wpAnyH P .any ops (nq K) S n (listed.setIfInBounds i true) (a.put (some d) undef) w):wpAnyH P .any ops (nq K) S (n+1) listed a w:=by
 unfold aJC at hB;simp only[Bool.and_eq_true] at hB;obtain⟨⟨⟨⟨⟨h1,h2⟩,h3⟩,h4⟩,h5⟩,h6⟩:=hB;rw[←lE h5] at h;exact wpAnyH_take (gY h1) h2 h3 h4 (fun _ _ _ h=>h) (.inr ⟨by simpa using h6,rfl⟩) hS h
def aJL (ops:Array Oper) (listed:Array Bool) (a:Act) (i:Nat) (d:Tmp):Bool:=
 (Nat.blt i ops.size)&&(match Region.ready .any ops listed with|[j]=>Nat.beq j i|_=>false)&&(match (opn ops i).dst with|some d'=>Nat.beq d' d|none=>false)&&Region.wanted (opn ops i) (yielded ops a.tmps)
theorem aEI {l:List Nat} {i:Nat} (h:(match l with|[j]=>Nat.beq j i|_=>false)=true):l=[i]:=by
 match l with
 |[]=>cases h
 |[j]=>rw[Nat.eq_of_beq_eq_true h]
 |_::_::_=>cases h
theorem bE (i:Nat) (d:Tmp) (f:FuncId) (args:Array Value) (hB:aJL ops listed a i d=true) (hrun:(execOp a.eval (opn ops i)).run P w= .ok (.enter f args) w)
 (h:Calls P f args w fun e w'=>∃v,e= .returned v∧S w'∧wpAnyH P .any ops (nq K) S n (listed.setIfInBounds i true) (a.put (some d) v) w'):wpAnyH P .any ops (nq K) S (n+1) listed a w:=by
 unfold aJL at hB;simp only[Bool.and_eq_true] at hB;obtain⟨⟨⟨h1,h2⟩,h3⟩,h4⟩:=hB;exact aB2 i (some d) (aEI h2) (gY h1) (lE h3) h4 f args hrun h
theorem aR (i:Nat) (hr:Region.ready .any ops listed=[i]) (h1:Nat.blt i ops.size=true) (h:HStep P .any ops (nq K) S n listed a w i (opn ops i)):wpAnyH P .any ops (nq K) S (n+1) listed a w:=
 vG i hr (gY h1) h
theorem cU (i j:Nat) (hr:Region.ready .any ops listed=[i,j]) (h1:(Nat.blt i ops.size&&Nat.blt j ops.size)=true) (hi:HStep P .any ops (nq K) S n listed a w i (opn ops i)) (hj:HStep P .any ops (nq K) S n listed a w j (opn ops j)):wpAnyH P .any ops (nq K) S (n+1) listed a w:=by
 simp only[Bool.and_eq_true] at h1;exact aD2 i j hr (gY h1.1) (gY h1.2) hi hj
theorem aC8 (i j k:Nat) (hr:Region.ready .any ops listed=[i,j,k]) (h1:(Nat.blt i ops.size&&Nat.blt j ops.size&&Nat.blt k ops.size)=true) (hi:HStep P .any ops (nq K) S n listed a w i (opn ops i)) (hj:HStep P .any ops (nq K) S n listed a w j (opn ops j)) (hk:HStep P .any ops (nq K) S n listed a w k (opn ops k)):wpAnyH P .any ops (nq K) S (n+1) listed a w:=by
 simp only[Bool.and_eq_true] at h1;exact zI i j k hr (gY h1.1.1) (gY h1.1.2) (gY h1.2) hi hj hk
theorem aZ (hr:Region.ready .any ops listed=[]) (h:K a w):wpAnyH P .any ops (nq K) S n listed a w:=wpAnyH_done hr h n
theorem fA {α:Type} {n0:Nat} {listed0:Array Bool} (n:Nat) (listed:Array Bool) (g:Act→α→Act) (C:α→World→Prop) (hcut:∀x w,C x w→wpAnyH P .any ops (nq K) S n listed (g a x) w)
 (h:(∀x w,C x w→wpAnyH P .any ops (nq K) S n listed (g a x) w)→wpAnyH P .any ops (nq K) S n0 listed0 a w):wpAnyH P .any ops (nq K) S n0 listed0 a w:=h hcut
theorem aW {listed':Array Bool} {a':Act} (hl:listed=listed') (ha:a=a') (h:wpAnyH P .any ops (nq K) S n listed' a' w):wpAnyH P .any ops (nq K) S n listed a w:=by
 subst hl;subst ha;exact h
end
attribute [irreducible] qH aJC aJL iJ
section
variable {ops:Array Oper} {K:Act→World→Prop} {V:World} {B n:Nat} {listed:Array Bool} {a:Act} {w:World}
def nV (ops:Array Oper) (a:Act) (i:Nat) (d:Tmp):Bool:=
 (match (opn ops i).dst with|some d'=>Nat.beq d' d|none=>false)&&Region.wanted (opn ops i) (yielded ops a.tmps)
end
attribute [irreducible] nV
end Go.Proofs.YtcoolgnlhheaiaaGreatDoor
namespace Go.Proofs.YtcoolgnlhheaiaaGreatDoor
open Go.RowKit Go.Deep
set_option linter.all false
def Kq (B:Nat) (r:Option Nat) (w w':World):Prop:=
 Below B w w'∧w.heap.size≤w'.heap.size∧(∀p v,r≠some p.block→w.cell? p=some v→w'.cell? p=some v)∧∀(k:Nat) (c:Array Value) (t:TypeId) (fr:Nat×Nat),r≠some k→w.heap[k]? =some (Obj.cells c t fr)→∃fr':Nat×Nat,w'.heap[k]? =some (Obj.cells c t fr')
theorem Kq.of_below {B:Nat} {r:Option Nat} {w w':World} (hB:B≤w.heap.size) (h:Below w.heap.size w w'):Kq B r w w':=
 ⟨h.mono hB,h.size,fun _p _v _ hp=>(h.cell (World.block_lt_of_cell? w _ hp)).trans hp,fun k _ _ fr _ hk=>⟨fr,(h.block k (Array.getElem?_eq_some_iff.1 hk).1).trans hk⟩⟩
def Blk (w:World) (g:Nat) (C:Array Value) (t:TypeId):Prop:=∃fr:Nat×Nat,w.heap[g]? =some (Obj.cells C t fr)
theorem Blk.cell {w:World} {g i:Nat} {C:Array Value} {t:TypeId} {v:Value} (h:Blk w g C t) (hi:C[i]? =some v):w.cell? ⟨g,i,none⟩=some v:=by
 obtain⟨fr,h⟩:=h;simp[World.cell?,h,hi]
section
variable {P:Program} {ops:Array Oper} {K:Act→World→Prop} {S:World→Prop} {n:Nat} {listed:Array Bool} {a:Act} {w:World}
theorem bG (i:Nat) (d:Tmp) (hB:qH ops listed a i d=true) (ty:TypeId) (x:Operand) (ho:(opn ops i).op= .load ty x) (ad:Addr) (hx:a.eval x= .pointer (some ad)) (cs:Array Value) (ds:TypeDesc)
 (hc:∀w,S w→∀j v,cs[j]? =some v→w.cell? (ad.add j)=some v) (hu:P.underlying ty=some ds) (hd:(match ds with| .struct _| .array _ _=>true|_=>false)=true) (hz:(P.info? ty).map (·.size)=some cs.size) (hS:S w)
 (h:wpAnyH P .any ops (nq K) S n (listed.setIfInBounds i true) (a.put (some d) (.agg cs)) w):wpAnyH P .any ops (nq K) S (n+1) listed a w:=by
 refine oY i d (.agg cs) hB (fun w' hw'=>?_) hS h;unfold execOp;simp only[ho,hx,Instr.loadAt,Instr.sureAddr,Sem.run_bind,Sem.run_pure,Result.andThen_ok,cS w' ad ty cs ds (hc w' hw') hu hd hz]
end
section
variable {ops:Array Oper} {K:Act→World→Prop} {V:World} {B n:Nat} {listed:Array Bool} {a:Act} {w:World}
theorem dP {i:Nat} (d:Tmp) (vf:Nat→Value) (C:Array Value) (t:TypeId) (hst:nV ops a i d=true) (h0:Below B V w) (hB:B≤V.heap.size)
 (hrun:(execOp a.eval (opn ops i)).run Tryz.prog w= .ok (.value (vf w.heap.size)) (w.alloc (.cells C t)))
 (h:∀(w':World) (g:Nat),B≤g→g=w.heap.size→w'.heap.size=w.heap.size+1→Kq B none w w'→w.grownBy w' none→Below B V w'→w'.heap[g]? =some (Obj.cells C t (0,0))→wpAnyH Tryz.prog .any ops (nq K) (fun w'=>Below B V w') n (listed.setIfInBounds i true) (a.put (some d) (vf g)) w'):
 HStep Tryz.prog .any ops (nq K) (fun w'=>Below B V w') n listed a w i (opn ops i):=by
 unfold nV at hst;simp only[Bool.and_eq_true] at hst;have hwB:B≤w.heap.size:=Nat.le_trans hB h0.size;have k:Below w.heap.size w (w.alloc (.cells C t)):=(Below.refl _ _).alloc (Nat.le_refl _) _;exact HStep.value (some d) (lE hst.1) hst.2 _ _ hrun (h0.trans (k.mono hwB)) (h _ _ hwB rfl (by simp) (Kq.of_below hwB k) (aC k none) (h0.trans (k.mono hwB)) (heap_alloc_new _ _))
end
end Go.Proofs.YtcoolgnlhheaiaaGreatDoor
namespace Go.Proofs.YtcoolgnlhheaiaaGreatDoor
open Go.RowKit Go.Deep
set_option linter.all false
section
variable {P:Program} {ops:Array Oper} {K:Act→World→Prop} {S:World→Prop} {n:Nat} {listed:Array Bool} {a:Act} {w:World}
theorem dI {i:Nat} (d:Tmp) (f:FuncId) (args:Array Value) (v:Value) (hst:nV ops a i d=true) (hrun:(execOp a.eval (opn ops i)).run P w= .ok (.enter f args) w) (hc:Calls P f args w fun e w'=>e= .returned v∧w=w') (hS:S w)
 (h:wpAnyH P .any ops (nq K) S n (listed.setIfInBounds i true) (a.put (some d) v) w):HStep P .any ops (nq K) S n listed a w i (opn ops i):=by
 unfold nV at hst;simp only[Bool.and_eq_true] at hst;refine HStep.call (some d) (lE hst.1) hst.2 f args hrun (hc.mono ?_);rintro e w' ⟨he,rfl⟩;exact⟨v,he,hS,h⟩
end
def tJ (ops:Array Oper) (a:Act) (i:Nat):Bool:=(match (opn ops i).dst with|none=>true|some _=>false)&&Region.wanted (opn ops i) (yielded ops a.tmps)
theorem vH {o:Oper} (h:(match o.dst with|none=>true|some _=>false)=true):o.dst=none:=by
 cases hd:o.dst with
 |none=>rfl
 |some d'=>rw[hd] at h;cases h
section
variable {ops:Array Oper} {K:Act→World→Prop} {V:World} {B n:Nat} {listed:Array Bool} {a:Act} {w:World}
theorem pZ {i:Nat} (ty:TypeId) (x y:Operand) (g:Nat) (cells:Array Value) (t:TypeId) (old:Array Value) (hst:tJ ops a i=true) (ho:(opn ops i).op= .store ty x y) (hx:a.eval x= .pointer (some ⟨g,0,none⟩)) (hy:a.eval y= .agg cells) (hg:w.heap[g]? =some (.cells old t (0,0)))
 (hi:((Tryz.prog).info? ty).map (·.size)=some cells.size) (hold:old.size=cells.size) (h1:cells.all (·.oneCell')=true) (hB:B≤g) (h0:Below B V w)
 (h:Below B V (w.setRow g cells)→(w.setRow g cells).heap[g]? =some (.cells cells t (0,0))→wpAnyH Tryz.prog .any ops (nq K) (fun w'=>Below B V w') n (listed.setIfInBounds i true) a (w.setRow g cells)):HStep Tryz.prog .any ops (nq K) (fun w'=>Below B V w') n listed a w i (opn ops i):=by
 unfold tJ at hst;simp only[Bool.and_eq_true] at hst;have hd:=vH hst.1;have hS:=below_setRow h0 hB cells;refine HStep.of_law #[] hst.2 fun K' hK'=>?_
 refine wpList_store_rowTo rfl ty x y ho hd g cells hx hy t old hg hi hold h1 ?_;exact hK' _ _ hS (h hS (setRow_heap _ _ _ _ _ _ hg))
end
attribute [irreducible] tJ
end Go.Proofs.YtcoolgnlhheaiaaGreatDoor
namespace Go.Proofs.YtcoolgnlhheaiaaGreatDoor
open Go.RowKit Go.Deep
set_option linter.all false
section
variable {P:Program} {l n:Nat}
def iX (o:Oper):Bool:=match o.op with| .defer _=>false|_=>true
theorem pW {o:Oper} (h:iX o=true):∀c,o.op≠.defer c:=fun c e=>by
 unfold iX at h;rw[e] at h;cases h
theorem aAF {o:Oper} {a:Act} {w:World} {K K':Act→World→Prop} {Q:Exit→Act→World→Prop} (hp:iX o=true) (hK:∀a w,K a w→K' a w) (h:o.wp P a w K Q):
 o.wpIn (Fence.wide.inRound l) n P a w K' Q:=by
 unfold Oper.wp at h;unfold Oper.wpIn;refine⟨fun _ _=>trivial,?_⟩;rw[Oper.semAt_plain _ _ _ (pW hp)];generalize (execOp a.eval o).run P w=r at h ⊢
 cases r with
 |ok x w'=>
  cases x<;>simp only[Oper.upon,Oper.uponIn] at h ⊢
  case value=>exact hK _ _ h
  case skip=>exact hK _ _ h
  case defer=>exact hK _ _ h
  case enter f args=>
   refine⟨fun hh=>by simp[Fence.wide] at hh,CallsIn.inRound l (callsIn_wide.2 (h.mono fun e w'' he=>?_))⟩
   cases e with
   |returned v=>exact hK _ _ he
   |panicked c=>exact he
   |outgrown=>exact he
  case row row args=>exact⟨fun hh=>by simp[Fence.wide] at hh,fun c cs _=>let ⟨v,w'',r,st⟩:=h c cs;⟨v,w'',hK _ _ r,stepsIn_wide.2 st⟩⟩
 |halt x w'=>cases x<;>simp only[Oper.upon,Oper.uponIn] at h ⊢<;>exact h
theorem rU {ops:Array Oper} {Q:Exit→Act→World→Prop} {md:Region.Mode} (hQ:¬LetsOut Q) (hp:∀o,o∈ops→iX o=true):
 ∀(fuel:Nat) (listed:Array Bool) (a:Act) (w:World),wpAny P md ops Q fuel listed a w→wpAnyIn (Fence.wide.inRound l) n P md ops Q fuel listed a w
 |0,_,_,_,h=>h
 |fuel+1,listed,a,w,h=>⟨h.1,fun i hi=>by
   have h2:=h.2 i hi;unfold wpOp at h2;unfold wpOpIn
   cases ho:ops[i]? with
   |none=>
    simp only[ho] at h2 ⊢;exact rU hQ hp fuel _ _ _ h2
   |some o=>
    simp only[ho] at h2 ⊢;have hm:o∈ops:=Array.mem_of_getElem? ho
    by_cases hw:Region.wanted o (yielded ops a.tmps)=true
    ·simp only[hw,if_true] at h2 ⊢
     exact aAF (hp o hm) (rU hQ hp fuel _) (h2.resolve_right fun h=>hQ h.2)
    ·simp only[hw] at h2 ⊢
     exact⟨fun _ _=>trivial,rU hQ hp fuel _ _ _ h2⟩⟩
theorem nP {ops0:Array Oper} {id:Nat} {Q:Exit→Act→World→Prop} {a:Act} {w:World} (f:Func) (k m:Nat) (S:World→Prop) (hr:iJ f k=ops0) (hn:(iJ f k).size=m) (hm:P.follows .mixedOrders=true) (hp:(iJ f k).all iX=true) (hS:S (w.drewN 1))
 (h:∀K:Act→World→Prop,(∀a w,Q .normal a w→K a w)→S (w.drewN 1)→wpAnyH P .any (iJ f k) (nq K) S m (Array.replicate m false) a (w.drewN 1)):(Code.region id ops0 true).wpIn (Fence.wide.inRound l) n P Q a w:=by
 subst hr;subst hn;refine wpIn_mono (Q:=nq (Q .normal)) (wpIn_region_any hm (rU (fun hf=>by obtain⟨_,_,hf⟩:=hf;exact hf) (fun o ho=>Array.all_eq_true_iff_forall_mem.1 hp o ho) _ _ _ _ (wpAny_of_held _ _ _ _ (h _ (fun _ _ h=>h) hS)))) (fun e a w h=>?_)
 cases e<;>first|exact h|exact(h:False).elim
theorem bX {ops:Array Oper} {rest:List Oper} {o:Oper} {a:Act} {w:World} {Q:Exit→Act→World→Prop} (hgd:o.guard=none) (hp:iX o=true)
 (h:∀K:Act→World→Prop,(∀a w,wpListIn (Fence.wide.inRound l) n P ops Q rest a w→K a w)→wpList P #[] (pC K Q) [{ o with guard:=none}] a w):wpListIn (Fence.wide.inRound l) n P ops Q (o::rest) a w:=
 wpListIn_plain hgd fun K hK=>aAF hp (fun _ _ h=>h) (jG (h K hK))
theorem cD {F:Fence} {ops:Array Oper} {rest:List Oper} {o:Oper} {a:Act} {w:World} {Q:Exit→Act→World→Prop} (hgd:o.guard=none) (ty:TypeId) (x:Operand) (ho:o.op= .load ty x)
 (g:Nat) (hx:a.eval x= .pointer (some ⟨g,0,none⟩)) (t:TypeId) (cs:Array Value) (fr:Nat×Nat) (d:TypeDesc) (hg:w.heap[g]? =some (.cells cs t fr))
 (hu:P.underlying ty=some d) (hd:(match d with| .struct _| .array _ _=>true|_=>false)=true) (hi:(P.info? ty).map (·.size)=some cs.size)
 (h:wpListIn F n P ops Q rest (a.put o.dst (.agg cs)) w):wpListIn F n P ops Q (o::rest) a w:=by
 refine wpListIn_plain hgd fun K hK=>?_
 unfold Oper.wpIn;refine⟨?_,?_⟩
 ·simp[Oper.about,ho]
 ·rw[Oper.semAt_plain F _ _ (by rw[ho];intro c hc';cases hc')]
  unfold execOp;simp only[ho,hx,Instr.loadAt,Instr.sureAddr,Sem.run_bind,Sem.run_pure,Result.andThen_ok,run_loadVar_row w g t ty cs fr d hg hu hd hi];exact hK _ _ h
end
section
variable {n:Nat} {P:Program}
def Keeps2 (B:Nat) (W W':World):Prop:=W.heap.size≤W'.heap.size∧∀k o,B≤k→W.heap[k]? =some o→o.isCells=false→W'.heap[k]? =some o
theorem Keeps2.trans {B:Nat} {X Y Z:World} (h:Keeps2 B X Y) (k:Keeps2 B Y Z):Keeps2 B X Z:=⟨Nat.le_trans h.1 k.1,fun i o hB hi ho=>k.2 i o hB (h.2 i o hB hi ho) ho⟩
theorem Keeps2.grown {B:Nat} {W W':World} {r:Option Nat} (h:W.grownBy W' r) (hr:∀g,r=some g→∃o:Obj,W.heap[g]? =some o∧o.isCells=true):Keeps2 B W W':=
 ⟨h.size,fun k o _ hk ho=>(h.block k (Array.getElem?_eq_some_iff.1 hk).1 (fun e=>by
   obtain⟨o',h1,h2⟩:=hr k e.symm
   rw[hk] at h1;cases h1;rw[ho] at h2;cases h2)).trans hk⟩
def aGZ (B:Nat) (W W':World):Prop:=∃r:Option Nat,W.grownBy W' r∧∀g,r=some g→B≤g∧∃o:Obj,W.heap[g]? =some o∧o.isCells=false
def SameAt (Pk:Nat→Prop) (W W':World):Prop:=∀k,Pk k→W'.heap[k]? =W.heap[k]?
theorem SameAt.trans {Pk:Nat→Prop} {X Y Z:World} (h:SameAt Pk X Y) (k:SameAt Pk Y Z):SameAt Pk X Z:=fun i hi=>(k i hi).trans (h i hi)
def aFU (B:Nat) (Pk:Nat→Prop) (I' Ix:World→Prop) (W:World):Exit→Act→World→Prop
 | .normal,_,W'=>Keeps2 B W W'∧SameAt Pk W W'∧I' W'
 | .ret,_,W'=>Keeps2 B W W'∧Ix W'
 |_,_,_=>False
theorem aCX {g:Operand} {ps:Array Tmp} {assign body:Code} {Q:Exit→Act→World→Prop} {a:Act} {w:World} {gf:Nat} {lb:Array Value} (hg:a.eval g= .func (.func gf) #[] lb) (eg:∀args w,(callFunc gf args).run P w= .ok (.enter gf args) w)
 (encs:Nat→Array Value) (hps:∀j,(encs j).size=ps.size) (T:World→World→Prop) (I:Nat→World→Prop) (Ix:World→Prop) (Pk:Nat→Prop) (hPk:∀k,Pk k→k<w.heap.size)
 (hiter:∀(l:Nat) (J:Nat→World→Prop) (Jx:World→Prop) (W:World),SameAt Pk w W→(∀j A B,J j A→T A B→J j B)→(∀j A,J j A→I j A)→
   (∀j W1,J j W1→YieldAt Fence.wide (n - 1 - 1) P l (encs j) W1 fun e W'=>(e= .returned (.bool true)∧J (j+1) W'∧SameAt Pk W1 W')∨(e= .returned (.bool false)∧Jx W'))→J 0 W→
   CallsIn Fence.wide (n - 1) P gf (#[.func (.yield l) #[] #[]]++lb) W fun e W'=>(∃v,e= .returned v)∧Jx W')
 (hT:∀A B,T A B→∀k,w.heap.size≤k→k<A.heap.size→B.heap[k]? =A.heap[k]?) (hIT:∀j A B,I j A→T A B→I j B)
 (hI:∀j A B,I j A→aGZ w.heap.size A B→I j B) (hIx:∀A B,Ix A→aGZ w.heap.size A B→Ix B) (h0:I 0 w)
 (hround:∀(l j:Nat) (W:World),I j W→w.heap.size≤l→l<W.heap.size→∃Ax:Act→World→Prop,
   (∀K:Act→World→Prop,(∀a' W',Ax a' W'→Keeps2 w.heap.size W W'→SameAt Pk W W'→K a' W')→assign.wpIn (Fence.wide.inRound l) (n - 1 - 1) P (Exit.then K (fun _ _ _=>False)) { tmps:=(ps.zip (encs j)).foldl (fun t (p,v)=>t.setIfInBounds p v) a.tmps,defers:=[]} W)∧
   (∀a' A B,Ax a' A→aGZ w.heap.size A B→Ax a' B)∧
   (∀a' W',Ax a' W'→body.wpIn (Fence.wide.inRound l) (n - 1 - 1) P (aFU w.heap.size Pk (I (j+1)) Ix W') a' W'))
 (hstop:∀(D:Nat) (W:World),w.heap.size≤D→Ix W→W.heap[D]? =some (.deferred (some []))→Code.ret.wpIn Fence.wide n P Q { a with defers:={ target:=.collected D,args:=#[]}::a.defers} W):
 (Code.rangeFunc g ps assign body).wpIn Fence.wide n P Q a w:=by
 refine wpIn_rangeFunc ?_;intro fn _;obtain⟨rec,hrec⟩:∃rec:LoopState→Option Code→Loop,rec=fun st pe=>{ state:=st,pending:=pe,fn,tmps:=a.tmps,params:=ps,assign,body,defers:=w.heap.size}:=⟨_,rfl⟩
 obtain⟨V,hV⟩:∃V,V=(w.alloc (.deferred (some []))).alloc (.loop (rec .ready none)):=⟨_,rfl⟩;have vL:V.heap[w.heap.size+1]? =some (.loop (rec .ready none)):=by
  rw[hV];have:=World.alloc_heap_new (w.alloc (.deferred (some []))) (.loop (rec .ready none));rwa [World.size_alloc] at this
 have vD:V.heap[w.heap.size]? =some (.deferred (some [])):=by
  rw[hV];exact(Below.heap_alloc _ _ _ (by simp)).trans (World.alloc_heap_new w _)
 have vI:I 0 V:=by
  rw[hV];exact hI 0 _ _ (hI 0 _ _ h0 ⟨none,World.grownBy_alloc _ _ none,fun _ e=>by cases e⟩) ⟨none,World.grownBy_alloc _ _ none,fun _ e=>by cases e⟩
 refine⟨w.heap.size+1,[{ target:=.collected w.heap.size,args:=#[]}],V,{ target:=.fn (.func gf) lb,args:=#[.func (.yield (w.heap.size+1)) #[] #[]]},V,gf,#[.func (.yield (w.heap.size+1)) #[] #[]]++lb,V,?_,?_,fun _ _=>trivial,?_,fun h=>by simp[Fence.wide] at h,?_⟩
 ·rw[hV,hrec];exact run_enterLoop_outer _ _ _ _ _
 ·simp only[resolve,hg];simp[go_sem]
 ·simp[invoke,go_sem,eg]
 have book:∀(A:World) (o o':Obj),A.heap[w.heap.size+1]? =some o→o.isCells=false→aGZ w.heap.size A (A.putObj (w.heap.size+1) o'):=fun A o o' h ho=>⟨some _,grownBy_putObj' _ _ _,fun g e=>by cases e;exact⟨by omega,o,h,ho⟩⟩
 refine(hiter (w.heap.size+1)
  (fun j W=>I j W∧W.heap[w.heap.size+1]? =some (.loop (rec .ready none))∧W.heap[w.heap.size]? =some (.deferred (some [])))
  (fun W=>Ix W∧W.heap[w.heap.size+1]? =some (.loop (rec .done (some .ret)))∧W.heap[w.heap.size]? =some (.deferred (some [])))
  V (by rw[hV];exact fun k hk=>(Below.heap_alloc _ _ k (by have:=hPk k hk;simp;omega)).trans (Below.heap_alloc w _ k (hPk k hk))) (fun j A B h t=>⟨hIT j A B h.1 t,(hT A B t _ (by omega) (Array.getElem?_eq_some_iff.1 h.2.1).1).trans h.2.1,(hT A B t _ (Nat.le_refl _) (Array.getElem?_eq_some_iff.1 h.2.2).1).trans h.2.2⟩)
  (fun j A h=>h.1) ?_ ⟨vI,vL,vD⟩).mono ?_
 ·rintro j W ⟨hi,hl,hk⟩
  have hlt:w.heap.size+1<W.heap.size:=(Array.getElem?_eq_some_iff.1 hl).1;have hy:=run_yield (P:=P) (args:=encs j) hl (by rw[hrec];exact hps j);rw[hrec] at hy;obtain⟨Ax,ha,hAx,hb⟩:=hround (w.heap.size+1) j W hi (by omega) hlt;refine⟨fn,_,assign,body,hy,roundIn_of_wpIn trivial (ha _ fun a' W1 hx hk1 hs1=>⟨_,run_beginRound (hk1.2 _ _ (by omega) hl rfl) (by rw[hrec]),?_⟩)⟩;have hl1:=hk1.2 _ _ (by omega) hl rfl;have hd1:=hk1.2 _ _ (Nat.le_refl _) hk rfl;have hlt1:w.heap.size+1<W1.heap.size:=(Array.getElem?_eq_some_iff.1 hl1).1;have hl2:(W1.putObj (w.heap.size+1) (.loop { rec .ready none with state:=.busy})).heap[w.heap.size+1]? =some (.loop { rec .ready none with state:=.busy}):=World.putObj_heap_same hlt1;have hk2:(W1.putObj (w.heap.size+1) (.loop { rec .ready none with state:=.busy})).heap[w.heap.size]? =some (.deferred (some [])):=(World.putObj_heap_other (by omega)).trans hd1;refine wpIn_mono (hb a' _ (hAx _ _ _ hx (book W1 _ _ hl1 rfl))) ?_;have fin:∀(jump:Option Code) (W3:World),Keeps2 w.heap.size (W1.putObj (w.heap.size+1) (.loop { rec .ready none with state:=.busy})) W3→
   (Instr.endRound (w.heap.size+1) jump).run P W3= .ok (.bool jump.isNone) (W3.putObj (w.heap.size+1) (.loop (rec (if jump.isNone then .ready else .done) jump)))∧
   W3.heap[w.heap.size+1]? =some (.loop { rec .ready none with state:=.busy})∧
   (W3.putObj (w.heap.size+1) (.loop (rec (if jump.isNone then .ready else .done) jump))).heap[w.heap.size+1]? =some (.loop (rec (if jump.isNone then .ready else .done) jump))∧
   (W3.putObj (w.heap.size+1) (.loop (rec (if jump.isNone then .ready else .done) jump))).heap[w.heap.size]? =some (.deferred (some [])):=fun jump W3 k3=>by
   have hl3:=k3.2 _ _ (by omega) hl2 rfl;have:=run_endRound (P:=P) jump hl3;rw[hrec] at this ⊢;exact⟨this,by rw[hrec] at hl3;exact hl3,World.putObj_heap_same (Array.getElem?_eq_some_iff.1 hl3).1,(World.putObj_heap_other (by omega)).trans (k3.2 _ _ (Nat.le_refl _) hk2 rfl)⟩
  rintro e a3 W3 hp
  cases e with
  |normal=>
   obtain⟨k3,hs3,hi3⟩:=hp;obtain⟨hr,hl3,hl4,hk4⟩:=fin none W3 k3;have far:∀(A:World) (o:Obj),SameAt Pk A (A.putObj (w.heap.size+1) o):=fun A o k hk=>World.putObj_heap_other (by have:=hPk k hk;omega)
   exact⟨_,_,hr,.inl ⟨rfl,⟨hI _ _ _ hi3 (book W3 _ _ hl3 rfl),hl4,hk4⟩,((hs1.trans (far W1 _)).trans hs3).trans (far W3 _)⟩⟩
  |ret=>
   obtain⟨k3,hi3⟩:=hp;obtain⟨hr,hl3,hl4,hk4⟩:=fin (some .ret) W3 k3;exact⟨_,_,hr,.inr ⟨rfl,hIx _ _ hi3 (book W3 _ _ hl3 rfl),hl4,hk4⟩⟩
  |exit id=>exact(hp:False).elim
  |goto t=>exact(hp:False).elim
  |panic ch=>exact(hp:False).elim
  |outgrown=>exact(hp:False).elim
 ·rintro e W2 ⟨⟨v,rfl⟩,hi,hl,hk⟩
  refine⟨some .ret,_,by have:=run_endLoop (P:=P) hl (by rw[hrec];simp);rw[hrec] at this;exact this,?_⟩;exact hstop _ _ (Nat.le_refl _) (hIx _ _ hi (book W2 _ _ hl rfl)) ((World.putObj_heap_other (by omega)).trans hk)
end
theorem aX {ops:Array Oper} {S:World→Prop} {K:Act→World→Prop} {n:Nat} {listed:Array Bool} {a:Act} {w:World} (i:Nat) (d:Tmp) (v:Value) (hrun:∀w,S w→(execOp a.eval (opn ops i)).run Tryz.prog w= .ok (.value v) w) (hS:S w) (h:wpAnyH Tryz.prog .any ops (nq K) S n (listed.setIfInBounds i true) (a.put (some d) v) w) (hB:qH ops listed a i d=true:=by kernel_rfl):wpAnyH Tryz.prog .any ops (nq K) S (n+1) listed a w:=oY i d v hB hrun hS h
end Go.Proofs.YtcoolgnlhheaiaaGreatDoor
namespace Go.Proofs.YtcoolgnlhheaiaaGreatDoor
open Go.RowKit Go.Deep
set_option linter.all false
set_option maxRecDepth 100000
set_option maxHeartbeats 1000000
section
variable {ops:Array Oper} {K:Act→World→Prop} {V:World} {B n:Nat} {listed:Array Bool} {a:Act} {w:World}
end
end Go.Proofs.YtcoolgnlhheaiaaGreatDoor
namespace Go.Proofs.YtcoolgnlhheaiaaGreatDoor
open Go.RowKit Go.Deep
set_option linter.all false
set_option maxRecDepth 100000
set_option maxHeartbeats 1000000
def Wir.num (r:Wir.R) (k:Int):Wir.R×Nat:=((Wir.number r k).1,(Wir.number r k).2.getD 0)
theorem eZ (r:Wir.R) (k:Int):(Wir.num r k).1.l.length≤r.l.length:=by
 unfold Wir.num Wir.number
 by_cases hk:k<1∨8<k
 ·rw[if_pos hk];simp[Wir.failed]
 ·rw[if_neg hk]
  unfold Wir.next
  by_cases hb:r.bad=true∨r.l.length<k.toNat
  ·rw[if_pos hb];simp[Wir.failed]
  ·rw[if_neg hb];simp
end Go.Proofs.YtcoolgnlhheaiaaGreatDoor
namespace Wir
theorem next_app (l t:List Nat):next ⟨l++t,false⟩ l.length=(⟨t,false⟩,some l):=by
 unfold next;rw[if_neg (by simp)];simp
theorem number_put {k:Int} {x:Nat} {l:List Nat} (h:putNumber k x=some l) (t:List Nat):number ⟨l++t,false⟩ k=(⟨t,false⟩,some x):=by
 unfold putNumber at h;split at h
 ·cases h
 ·rename_i hk
  split at h
  ·rename_i hx
   simp at h;subst h;unfold number;rw[if_neg hk];have hl:(enc k.toNat x).length=k.toNat:=enc_length _ _;have:=next_app (enc k.toNat x) t;rw[hl] at this;rw[this];simp[aJJ _ _ hx]
  ·cases h
theorem string_put {k:Int} {l m:List Nat} (h:putString k l=some m) (t:List Nat):string ⟨m++t,false⟩ k=(⟨t,false⟩,l):=by
 unfold putString at h
 cases hp:putNumber k l.length with
 |none=>rw[hp] at h;cases h
 |some hd=>
  rw[hp] at h;simp at h;subst h;unfold string;rw[List.append_assoc,number_put hp (l++t)];simp only[next_app];rfl
end Wir
namespace Nam
abbrev W:=List UInt8
structure N where
 realm:W
 parts:List W
def none0:N:=⟨[],[]⟩
def okc (c:UInt8):Bool:=decide (33≤c)&&decide (c≤126)
def word (l:W):Bool:=decide (1≤l.length)&&decide (l.length≤100)&&l.all okc
def valid (n:N):Bool:=word n.realm&&decide (1≤n.parts.length)&&decide (n.parts.length≤8)&&n.parts.all word
theorem word_len {l:W} (h:word l=true):1≤l.length∧l.length≤100:=by
 unfold word at h;simp only[Bool.and_eq_true,decide_eq_true_eq] at h;exact h.1
theorem valid_iff (n:N):valid n=true↔word n.realm=true∧n.parts≠[]∧n.parts.length≤8∧n.parts.all word=true:=by
 unfold valid;simp only[Bool.and_eq_true,decide_eq_true_eq];constructor
 ·rintro⟨⟨⟨a,b⟩,c⟩,d⟩
  exact⟨a,by intro h;rw[h] at b;simp at b,c,d⟩
 ·rintro⟨a,b,c,d⟩
  refine⟨⟨⟨a,?_⟩,c⟩,d⟩
  cases h:n.parts with
  |nil=>exact absurd h b
  |cons _ _=>simp
end Nam
namespace Go.Proofs.YtcoolgnlhheaiaaGreatDoor
set_option linter.all false
set_option maxRecDepth 100000
set_option maxHeartbeats 1000000
namespace Nam
open _root_.Nam
def toN (l:W):List Nat:=l.map UInt8.toNat
def fromN (l:List Nat):W:=l.map UInt8.ofNat
theorem from_to (l:W):fromN (toN l)=l:=by
 unfold fromN toN;rw[List.map_map];have:(UInt8.ofNat∘UInt8.toNat)=id:=funext fun x=>by simp
 rw[this,List.map_id]
theorem toN_length (l:W):(toN l).length=l.length:=by simp[toN]
theorem fromN_length (l:List Nat):(fromN l).length=l.length:=by simp[fromN]
theorem toN_all (l:W):∀x,x∈toN l→x<256:=fun x hx=>by
 obtain⟨c,_,rfl⟩:=List.mem_map.1 hx;exact c.toNat_lt
def sized (l:W):List Nat:=l.length::toN l
def bytes (n:N):List Nat:=sized n.realm++n.parts.length::(n.parts.map sized).flatten
def loopR:Nat→Wir.R→List W→Wir.R×List W
 |0,r,ps=>(r,ps)
 |k+1,r,ps=>loopR k (Wir.string r 1).1 (ps++[fromN (Wir.string r 1).2])
def refRead (r:Wir.R):Wir.R×Option N:=
 ((loopR (min (Wir.num (Wir.string r 1).1 1).2 9) (Wir.num (Wir.string r 1).1 1).1 []).1,
   if (loopR (min (Wir.num (Wir.string r 1).1 1).2 9) (Wir.num (Wir.string r 1).1 1).1 []).1.bad=true∨valid ⟨fromN (Wir.string r 1).2,(loopR (min (Wir.num (Wir.string r 1).1 1).2 9) (Wir.num (Wir.string r 1).1 1).1 []).2⟩=false then none
   else some ⟨fromN (Wir.string r 1).2,(loopR (min (Wir.num (Wir.string r 1).1 1).2 9) (Wir.num (Wir.string r 1).1 1).1 []).2⟩)
theorem loopR_ext:∀(k:Nat) (r:Wir.R) (ps:List W),∃qs,(loopR k r ps).2=ps++qs∧qs.length=k
 |0,_,_=>⟨[],by simp[loopR],rfl⟩
 |k+1,r,ps=>by
  obtain⟨qs,h,hl⟩:=loopR_ext k (Wir.string r 1).1 (ps++[fromN (Wir.string r 1).2]);exact⟨fromN (Wir.string r 1).2::qs,by show(loopR k _ _).2=_;rw[h];simp,by simp[hl]⟩
theorem loopR_snoc:∀(k:Nat) (r:Wir.R) (ps:List W),loopR (k+1) r ps=((Wir.string (loopR k r ps).1 1).1,(loopR k r ps).2++[fromN (Wir.string (loopR k r ps).1 1).2])
 |0,_,_=>rfl
 |k+1,r,ps=>by
  show loopR (k+1) (Wir.string r 1).1 (ps++[fromN (Wir.string r 1).2])=_;rw[loopR_snoc k];rfl
theorem loopR_word {k j:Nat} {r:Wir.R} (hj:j<k) (h:word (fromN (Wir.string (loopR j r []).1 1).2)=false):(loopR k r []).2.all word=false:=by
 induction k with
 |zero=>exact absurd hj (Nat.not_lt_zero _)
 |succ k ih=>
  rw[loopR_snoc];simp only[List.all_append,List.all_cons,List.all_nil,Bool.and_true]
  by_cases e:j=k
  ·subst e;rw[h,Bool.and_false]
  ·rw[ih (by omega),Bool.false_and]
theorem refRead_realm {r:Wir.R} (h:word (fromN (Wir.string r 1).2)=false):(refRead r).2=none:=by
 unfold refRead;exact if_pos (.inr (by unfold valid;simp[h]))
theorem refRead_number {r:Wir.R} (h:(Wir.num (Wir.string r 1).1 1).2<1∨8<(Wir.num (Wir.string r 1).1 1).2):(refRead r).2=none:=by
 unfold refRead;refine if_pos (.inr ?_);obtain⟨qs,h1,h2⟩:=loopR_ext (min (Wir.num (Wir.string r 1).1 1).2 9) (Wir.num (Wir.string r 1).1 1).1 [];rw[List.nil_append] at h1;rw[h1];unfold valid;rcases h with h|h
 ·have:¬1≤qs.length:=by omega
  simp[this]
 ·have:¬qs.length≤8:=by omega
  simp[this]
theorem refRead_part {r:Wir.R} {k j:Nat} (hk:(Wir.num (Wir.string r 1).1 1).2=k) (hk8:k≤8) (hj:j<k) (h:word (fromN (Wir.string (loopR j (Wir.num (Wir.string r 1).1 1).1 []).1 1).2)=false):(refRead r).2=none:=by
 unfold refRead;refine if_pos (.inr ?_);rw[hk,show min k 9=k by omega];unfold valid;dsimp only;rw[loopR_word hj h,Bool.and_false]
theorem refRead_end {r:Wir.R} {k:Nat} (hw:word (fromN (Wir.string r 1).2)=true) (hk:(Wir.num (Wir.string r 1).1 1).2=k) (hk1:1≤k) (hk8:k≤8) (h:(loopR k (Wir.num (Wir.string r 1).1 1).1 []).2.all word=true):
 refRead r=((loopR k (Wir.num (Wir.string r 1).1 1).1 []).1,if (loopR k (Wir.num (Wir.string r 1).1 1).1 []).1.bad=true then none else some ⟨fromN (Wir.string r 1).2,(loopR k (Wir.num (Wir.string r 1).1 1).1 []).2⟩):=by
 unfold refRead;rw[hk,show min k 9=k by omega];obtain⟨qs,h1,h2⟩:=loopR_ext k (Wir.num (Wir.string r 1).1 1).1 [];rw[List.nil_append] at h1;have hv:valid ⟨fromN (Wir.string r 1).2,(loopR k (Wir.num (Wir.string r 1).1 1).1 []).2⟩=true:=by
  unfold valid;simp only[Bool.and_eq_true,decide_eq_true_eq];refine⟨⟨⟨hw,?_⟩,?_⟩,h⟩
  ·rw[h1];omega
  ·rw[h1];omega
 rw[hv];simp
theorem string_sized (l:W) (t:List Nat) (h:l.length<256):Wir.string ⟨sized l++t,false⟩ 1=(⟨t,false⟩,toN l):=by
 refine Wir.string_put (k:=1) (l:=toN l) (m:=sized l) ?_ t;unfold Wir.putString Wir.putNumber;rw[toN_length,if_neg (by omega),if_pos (by simpa using h)];simp[Wir.enc,sized,Nat.mod_eq_of_lt h]
theorem num_one (k:Nat) (t:List Nat) (h:k<256):Wir.num ⟨k::t,false⟩ 1=(⟨t,false⟩,k):=by
 have e:Wir.putNumber 1 k=some [k]:=by
  unfold Wir.putNumber;rw[if_neg (by omega),if_pos (by simpa using h)];simp[Wir.enc,Nat.mod_eq_of_lt h]
 have:=Wir.number_put e t;unfold Wir.num;rw[show([k]++t:List Nat)=k::t from rfl] at this;rw[this];rfl
theorem loopR_bytes:∀(qs:List W) (t:List Nat) (ps:List W),(∀q,q∈qs→q.length<256)→loopR qs.length ⟨(qs.map sized).flatten++t,false⟩ ps=(⟨t,false⟩,ps++qs)
 |[],t,ps,_=>by simp[loopR]
 |q::qs,t,ps,h=>by
  have e:=string_sized q ((qs.map sized).flatten++t) (h q (by simp));show loopR qs.length (Wir.string ⟨(List.map sized (q::qs)).flatten++t,false⟩ 1).1 _=_;have e2:(List.map sized (q::qs)).flatten++t=sized q++((qs.map sized).flatten++t):=by simp
  rw[e2,e];dsimp only;rw[from_to,loopR_bytes qs t _ (fun x hx=>h x (by simp[hx]))];simp
theorem word_lt {l:W} (h:word l=true):l.length<256:=by have:=word_len h;omega
theorem refRead_bytes (n:N) (t:List Nat) (hv:valid n=true):refRead ⟨bytes n++t,false⟩=(⟨t,false⟩,some n):=by
 obtain⟨a,b,c,d⟩:=(valid_iff n).1 hv;have e1:=string_sized n.realm (n.parts.length::((n.parts.map sized).flatten++t)) (word_lt a);have e0:bytes n++t=sized n.realm++(n.parts.length::((n.parts.map sized).flatten++t)):=by simp[bytes]
 have e2:=num_one n.parts.length ((n.parts.map sized).flatten++t) (by omega);have e3:=loopR_bytes n.parts t [] (fun q hq=>word_lt (List.all_eq_true.1 d q hq));have hp:1≤n.parts.length:=by
  cases h:n.parts with
  |nil=>exact absurd h b
  |cons _ _=>simp
 rw[e0];rw[refRead_end (k:=n.parts.length) (by rw[e1];dsimp only;rw[from_to];exact a) (by rw[e1];dsimp only;rw[e2]) hp c (by rw[e1];dsimp only;rw[e2];dsimp only;rw[e3];simpa using d)];rw[e1];dsimp only;rw[e2];dsimp only;rw[e3,from_to];simp
theorem flat_len:∀(ps:List W),ps.all word=true→((ps.map sized).flatten).length≤101*ps.length
 |[],_=>by simp
 |p::ps,h=>by
  simp only[List.all_cons,Bool.and_eq_true] at h;have:=flat_len ps h.2;have hp:=(word_len h.1).2;simp only[List.map_cons,List.flatten_cons,List.length_append,List.length_cons,sized,toN_length];omega
theorem bytes_len {n:N} (hv:valid n=true):(bytes n).length≤910:=by
 obtain⟨a,b,c,d⟩:=(valid_iff n).1 hv;have:=flat_len n.parts d;have ha:=(word_len a).2;unfold bytes;simp only[List.length_append,List.length_cons,sized,toN_length];omega
end Nam
end Go.Proofs.YtcoolgnlhheaiaaGreatDoor
namespace Go.Proofs.YtcoolgnlhheaiaaGreatDoor
open Go.RowKit Go.Deep
set_option linter.all false
set_option maxRecDepth 100000
set_option maxHeartbeats 1000000
abbrev bl (s:ByteArray):Nam.W:=s.data.toList
theorem bZ (s:ByteArray):(bl s).length=s.size:=rfl
theorem zD (s:ByteArray) (i:Nat) (h:i<s.size):(s[i]'h)=(bl s).getD i 0:=by
 have:i<(bl s).length:=by rw[bZ];exact h
 simp only[List.getD,List.getElem?_eq_getElem this,Option.getD_some];simp[bl];rfl
theorem aA3 (l:Nam.W) (i:Nat) (h:i<l.length):l.take (i+1)=l.take i++[l.getD i 0]:=by
 rw[List.take_add_one];simp[List.getD,h]
theorem jU (l:Nam.W) (p:UInt8→Bool) (i:Nat) (h:i<l.length):(l.take (i+1)).all p=((l.take i).all p&&p (l.getD i 0)):=by
 rw[aA3 l i h,List.all_append];simp
theorem mY (l:Nam.W) (p:UInt8→Bool) (i:Nat) (h:i<l.length) (hp:p (l.getD i 0)=false):l.all p=false:=by
 rw[←List.take_append_drop (i+1) l,List.all_append,jU l p i h,hp];simp
theorem oC {s:ByteArray} (h:s.size<1∨100<s.size):Nam.word (bl s)=false:=by
 unfold Nam.word;rw[bZ];rcases h with h|h
 ·have:¬1≤s.size:=by omega
  simp[this]
 ·have:¬s.size≤100:=by omega
  simp[this]
theorem wQ {s:ByteArray} {i:Nat} (h:i<s.size) (hp:Nam.okc ((bl s).getD i 0)=false):Nam.word (bl s)=false:=by
 unfold Nam.word;rw[mY _ _ i (by rw[bZ];exact h) hp,Bool.and_false]
theorem aDF {s:ByteArray} (h1:¬s.size<1) (h2:¬100<s.size) (hp:((bl s).take s.size).all Nam.okc=true):Nam.word (bl s)=true:=by
 unfold Nam.word;rw[←bZ,List.take_length] at hp;rw[hp,bZ];simp;omega
theorem sK (c:UInt8):Nam.okc c=(decide (33≤c.toNat)&&decide (c.toNat≤126)):=by
 unfold Nam.okc;congr 1
theorem mJ {a w:World} {r:Option Nat} (h:a.grownBy w r) {k:Nat} (hk:a.heap.size≤k) (s:ByteArray) (pos:Nat):a.grownBy (w.iterAt k s pos) r:=
 ⟨h.os,h.tape,h.output,by rw[Lib.iterAt_size];exact h.size,fun i hi hn=>(Lib.iterAt_other w k i s pos (by omega)).trans (h.block i hi hn)⟩
theorem kM (s:ByteArray) (w:World) (hs:s.size≤maxLen):
 Calls Tryz.prog 268 #[.string s] w fun e w'=>e= .returned (.bool (Nam.word (bl s)))∧w.grownBy w' none:=by
 unfold maxLen at hs
 by_cases h1:s.size<1
 ·have HF:=aD (oC (.inl h1))
  go_enter Tryz.func268,Tryz.ntmps268;go_wp2
  all_goals first|omega|skip
  all_goals (go_ret;exact⟨by rw[HF.out];rfl,aE _ _⟩)
 by_cases h2:100<s.size
 ·have HF:=aD (oC (.inr h2))
  go_enter Tryz.func268,Tryz.ntmps268;go_wp2
  all_goals first|omega|skip
  all_goals (go_ret;exact⟨by rw[HF.out];rfl,aE _ _⟩)
 go_enter Tryz.func268,Tryz.ntmps268;go_wp2
 all_goals first|omega|skip
 go_loopw [] (fun wr=>∃pos,pos≤s.size∧wr.heap[w.heap.size]? =some (.stringIter s pos)∧w.grownBy wr none∧((bl s).take pos).all Nam.okc=true) (fun wr=>s.size - wr.iterPos w.heap.size)
 case atStart=>exact⟨0,Nat.zero_le _,World.iter_heap w s 0,aG (aE _ _) _,rfl⟩
 case round=>
  obtain⟨pos,hle,hit,hg,hall⟩:=hrel
  by_cases hp:pos<s.size
  ·by_cases ha:(s[pos]'hp).toNat<128
   ·have hnx:∀ty,(Instr.next (.pointer (some ⟨w.heap.size,0,none⟩)) true ty).run Tryz.prog wr=_:=fun ty=>Lib.run_next_ascii_at wr w.heap.size s pos ty hit hp ha
    have hc:=zD s pos hp;rw[hc] at hnx;have hit2:=Lib.iterAt_heap wr w.heap.size s pos (pos+1) hit;have hg2:=mJ hg (Nat.le_refl _) s (pos+1)
    by_cases hok:Nam.okc ((bl s).getD pos 0)=true
    ·have hall2:((bl s).take (pos+1)).all Nam.okc=true:=by rw[jU _ _ _ (by rw[bZ];exact hp),hall,hok];rfl
     rw[sK] at hok;simp only[Bool.and_eq_true,decide_eq_true_eq] at hok;generalize ((bl s).getD pos 0).toNat=c at hnx hok;have HA:=aD hall2;clear hall hall2 hc ha;go_wp2
     all_goals first|omega|skip
     go_roundw
     case rel=>exact⟨pos+1,hp,hit2,hg2,HA.out⟩
     case measure=>
      simp only[World.iterPos,hit2,hit];omega
    ·have hok':Nam.okc ((bl s).getD pos 0)=false:=by simpa using hok
     have HF:=aD (wQ hp hok');rw[sK] at hok';simp only[Bool.and_eq_false_iff,decide_eq_false_iff_not] at hok';generalize ((bl s).getD pos 0).toNat=c at hnx hok';clear hall hc ha hok;go_wp2
     all_goals first|omega|skip
     all_goals (go_ret;exact⟨by rw[HF.out];rfl,hg2⟩)
   ·have hnx:∀ty,(Instr.next (.pointer (some ⟨w.heap.size,0,none⟩)) true ty).run Tryz.prog wr=_:=fun ty=>Lib.run_next_any_at wr w.heap.size s pos ty hit hp
    have hd:=(decode_high s pos hp (by omega)).1;have hc:=zD s pos hp;rw[hc] at ha;have HF:=aD (wQ hp (by rw[sK];simp only[Bool.and_eq_false_iff,decide_eq_false_iff_not];omega));have hg2:=mJ hg (Nat.le_refl _) s (pos+(Utf8.decode s pos).2);generalize (Utf8.decode s pos).1=c at hnx hd;generalize (Utf8.decode s pos).2=d at hnx hg2;clear hall hc ha;go_wp2
    all_goals first|omega|skip
    all_goals (go_ret;exact⟨by rw[HF.out];rfl,hg2⟩)
  ·have hnx:∀ty,(Instr.next (.pointer (some ⟨w.heap.size,0,none⟩)) true ty).run Tryz.prog wr=_:=fun ty=>Lib.run_next_end_at wr w.heap.size s pos ty hit hp
   obtain rfl:pos=s.size:=by omega
   have HF:=aD (aDF h1 h2 hall);clear hall;go_wp2;go_ret;exact⟨by rw[HF.out];rfl,hg⟩
end Go.Proofs.YtcoolgnlhheaiaaGreatDoor
namespace Go.Proofs.YtcoolgnlhheaiaaGreatDoor
open Go.RowKit Go.Deep
set_option linter.all false
set_option maxRecDepth 100000
set_option maxHeartbeats 1000000
def Ss (w:World) (v:Value) (ss:List ByteArray):Prop:=
 (∀s,s∈ss→s.size≤maxLen)∧ss.length≤9223372036854775807∧((v= .slice none 0 0∧ss=[])∨∃x cap,v= .slice (some x) ss.length cap∧(ss.length≤cap∧cap≤9223372036854775807)∧∀i,i<ss.length→w.cell? (x.add i)=some (.string (ss.getD i ByteArray.empty)))
theorem Ss.nil (w:World):Ss w (.slice none 0 0) []:=⟨(fun _ h=>by cases h),by simp,.inl ⟨rfl,rfl⟩⟩
theorem Ss.len {w:World} {v:Value} {ss:List ByteArray} (h:Ss w v ss):ss.length≤9223372036854775807:=h.2.1
theorem Ss.form {w:World} {v:Value} {ss:List ByteArray} (h:Ss w v ss):∃a cap,v= .slice a ss.length cap:=by
 rcases h.2.2 with ⟨e,rfl⟩|⟨x,cap,e,_⟩
 ·exact⟨none,0,e⟩
 ·exact⟨some x,cap,e⟩
theorem Ss.below {w w':World} {v:Value} {ss:List ByteArray} (h:Ss w v ss) (k:Below w.heap.size w w'):Ss w' v ss:=by
 obtain⟨h0,h1,h|⟨x,cap,h,hcap,hc⟩⟩:=h
 ·exact⟨h0,h1,.inl h⟩
 ·exact⟨h0,h1,.inr ⟨x,cap,h,hcap,fun i hi=>(k.cell (World.block_lt_of_cell? w _ (hc i hi))).trans (hc i hi)⟩⟩
theorem Ss.only {w w':World} {v:Value} {ss:List ByteArray} (h:Ss w v ss) (k:w.grownBy w' none):Ss w' v ss:=h.below (aB k)
theorem Ss.size {w:World} {v:Value} {ss:List ByteArray} (h:Ss w v ss) {i:Nat} (hi:i<ss.length):(ss.getD i ByteArray.empty).size≤maxLen:=by
 have e:ss.getD i ByteArray.empty=ss[i]:=by simp[List.getD,hi]
 rw[e];exact h.1 _ (List.getElem_mem hi)
theorem Ss.at {w:World} {a:Option Addr} {n cap:Nat} {ss:List ByteArray} (h:Ss w (.slice a n cap) ss) {k:Nat} (hk:k<ss.length):∃b off,a=some ⟨b,off,none⟩∧w.cell? ⟨b,off+k,none⟩=some (.string (ss.getD k ByteArray.empty)):=by
 rcases h.2.2 with ⟨_,rfl⟩|⟨x,cap',e,_,hc⟩
 ·simp at hk
 ·simp only[Value.slice.injEq] at e
  obtain⟨rfl,rfl,rfl⟩:=e;obtain⟨b,off,key⟩:=x;have h0:=hc 0 (by omega);have hs:key=none:=by simpa [Addr.add] using World.cell?_spot h0
  subst hs;have h0:=hc k hk;exact⟨b,off,rfl,by rwa [Addr.add_lit] at h0⟩
def Hb (w:World) (b:Nat) (cs:Array Value) (t:TypeId):Prop:=w.heap[b]? =some (.cells cs t (0,0))
theorem Hb.new (w:World) (cs:Array Value) (t:TypeId):Hb (w.alloc (.cells cs t)) w.heap.size cs t:=heap_alloc_new w _
theorem Hb.lt {w:World} {b:Nat} {cs:Array Value} {t:TypeId} (h:Hb w b cs t):b<w.heap.size:=(Array.getElem?_eq_some_iff.1 h).1
theorem Hb.keep {w w':World} {b:Nat} {cs:Array Value} {t:TypeId} {r:Option Nat} (h:Hb w b cs t) (k:w.grownBy w' r) (hr:some b≠r):Hb w' b cs t:=(k.block b h.lt hr).trans h
theorem Hb.only {w w':World} {b:Nat} {cs:Array Value} {t:TypeId} (h:Hb w b cs t) (k:w.grownBy w' none):Hb w' b cs t:=h.keep k (by simp)
theorem Hb.cell {w:World} {b:Nat} {cs:Array Value} {t:TypeId} (h:Hb w b cs t) {i:Nat} {v:Value} (hv:cs[i]? =some v):w.cell? ⟨b,i,none⟩=some v:=(cell_of_row w b i cs t (0,0) h).trans hv
theorem Hb.frozen {w:World} {b:Nat} {cs:Array Value} {t:TypeId} (h:Hb w b cs t) (i:Nat):w.frozen? ⟨b,i,none⟩=false:=by
 unfold Hb at h;simp[World.frozen?,h]
theorem Hb.alloc {w:World} {b:Nat} {cs:Array Value} {t:TypeId} (h:Hb w b cs t) (o:Obj):Hb (w.alloc o) b cs t:=(Below.heap_alloc w o b h.lt).trans h
def nm (r:ByteArray) (ss:List ByteArray):Nam.N:=⟨bl r,ss.map bl⟩
theorem vV {r:ByteArray} (ss:List ByteArray) (h:Nam.word (bl r)=false):Nam.valid (nm r ss)=false:=by
 unfold Nam.valid nm;simp[h]
theorem vT {r:ByteArray} {ss:List ByteArray} (h:ss.length<1∨8<ss.length):Nam.valid (nm r ss)=false:=by
 unfold Nam.valid nm;simp only[List.length_map];rcases h with h|h
 ·have:¬1≤ss.length:=by omega
  simp[this]
 ·have:¬ss.length≤8:=by omega
  simp[this]
theorem xD {r:ByteArray} {ss:List ByteArray} {i:Nat} (hi:i<ss.length) (h:Nam.word (bl (ss.getD i ByteArray.empty))=false):Nam.valid (nm r ss)=false:=by
 unfold Nam.valid nm;have:(ss.map bl).all Nam.word=false:=by
  rw[List.all_eq_false];refine⟨bl (ss.getD i ByteArray.empty),?_,by rw[h];simp⟩;have e:ss.getD i ByteArray.empty=ss[i]:=by simp[List.getD,hi]
  rw[e];exact List.mem_map.2 ⟨_,List.getElem_mem hi,rfl⟩
 dsimp only;rw[this,Bool.and_false]
theorem aC1 {r:ByteArray} {ss:List ByteArray} (hr:Nam.word (bl r)=true) (h:¬(ss.length<1∨8<ss.length)) (ha:∀i,i<ss.length→Nam.word (bl (ss.getD i ByteArray.empty))=true):Nam.valid (nm r ss)=true:=by
 unfold Nam.valid nm;have:(ss.map bl).all Nam.word=true:=by
  rw[List.all_eq_true];intro x hx;obtain⟨y,hy,rfl⟩:=List.mem_map.1 hx;obtain⟨i,hi,rfl⟩:=List.getElem_of_mem hy;have:=ha i hi;have e:ss.getD i ByteArray.empty=ss[i]:=by simp[List.getD,hi]
  rwa [e] at this
 simp only[Bool.and_eq_true,decide_eq_true_eq,List.length_map];exact⟨⟨⟨hr,by omega⟩,by omega⟩,this⟩
theorem qK (r:ByteArray) (hr:r.size≤maxLen) (v:Value) (ss:List ByteArray) (w:World) (h:Ss w v ss):
 Calls Tryz.prog 234 #[.agg #[.string r,v]] w fun e w'=>e= .returned (.bool (Nam.valid (nm r ss)))∧w.grownBy w' none:=by
 obtain⟨a,cap,rfl⟩:=h.form;have H:=aD h;clear h;go_enter Tryz.func234,Tryz.ntmps234;go_wp2_with (go_at_call 268;refine(kM r _ hr).mono ?_);rintro e w1 ⟨rfl,h1⟩;have hb1:=(Hb.new w #[Value.string r,Value.slice a ss.length cap] _).only h1;have g1:=aF (aG (aE w none) _) h1;have c0:=hb1.cell (i:=0) rfl;have c1:=hb1.cell (i:=1) rfl;have hn:=H.out.len
 cases hw:Nam.word (bl r)
 ·have HF:=aD (vV ss hw)
  go_wp2_with fail;go_ret;exact⟨by rw[HF.out];rfl,g1⟩
 by_cases hl:ss.length<1∨8<ss.length
 ·have HF:=aD (vT (r:=r) hl)
  clear h1;go_wp2_with fail
  all_goals first|omega|skip
  all_goals (go_ret;exact⟨by rw[HF.out];rfl,g1⟩)
 clear h1;go_wp2_with fail
 all_goals first|omega|skip
 clear c0 c1 hb1
 go_loopw [24] (fun x wr=>∃j:Nat,j≤ss.length∧x= .int .i64 j∧w.grownBy wr none∧∀i,i<j→Nam.word (bl (ss.getD i ByteArray.empty))=true) (fun x _=>ss.length - (intOf x).toNat)
 case atStart=>exact⟨0,Nat.zero_le _,rfl,g1,fun i hi=>by omega⟩
 case round=>
  obtain⟨j,hle,rfl,hg,hall⟩:=hrel
  by_cases hj:j<ss.length
  ·obtain⟨b,off,rfl,hc⟩:=(H.out.only hg).at hj
   have hsz:=H.out.size hj;generalize hs:ss.getD j ByteArray.empty=s at hc hsz;have HS:=aD hs;clear hs;have HA:=aD hall;clear hall;go_wp2_with (go_at_call 268;refine(kM s _ hsz).mono ?_);rintro e w2 ⟨rfl,h2⟩;have g2:=aF hg h2
   cases hws:Nam.word (bl s)
   ·have HF:=aD (xD (r:=r) hj (by rw[HS.out];exact hws))
    go_wp2_with fail;go_ret;exact⟨by rw[HF.out];rfl,g2⟩
   ·have HW:=aD hws
    go_wp2_with fail
    all_goals first|omega|skip
    go_roundw
    case rel=>
     refine⟨j+1,by omega,by go_num,g2,fun i hi=>?_⟩
     by_cases e:i=j
     ·subst e;rw[HS.out];exact HW.out
     ·exact HA.out i (by omega)
    case measure=>simp[intOf];omega
  ·obtain rfl:j=ss.length:=by omega
   have HF:=aD (aC1 hw hl hall);clear hall;go_wp2_with fail
   all_goals first|omega|skip
   go_ret;exact⟨by rw[HF.out];rfl,hg⟩
end Go.Proofs.YtcoolgnlhheaiaaGreatDoor
namespace Go.Proofs.YtcoolgnlhheaiaaGreatDoor
open Go.RowKit Go.Deep
set_option linter.all false
set_option maxRecDepth 100000
set_option maxHeartbeats 1000000
theorem aAT {w:World} {v:Value} {l:List Nat} (h:Bs w v l):(convert 39 9 v).run Tryz.prog w= .ok (.string ⟨(Nam.fromN l).toArray⟩) w:=by
 rcases h.cases with ⟨rfl,rfl⟩|⟨b,off,cap,rfl,_,_,_,hc⟩
 ·exact run_convert_bytes_nil w 39 5 Tryz.underlying39 Tryz.underlying5 0 0 9 Tryz.underlying9
 ·have:=run_convert_bytes_back (P:=Tryz.prog) w 39 9 5 ⟨b,off,none⟩ cap (Nam.fromN l) Tryz.underlying39 Tryz.underlying5 Tryz.underlying9 (fun j hj=>by
   rw[Nam.fromN_length] at hj;rw[Addr.add_lit,hc j hj];have hl:=h.all _ (List.getElem_mem hj);simp[Nam.fromN,bv,List.getD,hj]
   omega)
  rwa [Nam.fromN_length] at this
end Go.Proofs.YtcoolgnlhheaiaaGreatDoor
namespace Go.Proofs.YtcoolgnlhheaiaaGreatDoor
open Go.RowKit Go.Deep
set_option linter.all false
set_option maxRecDepth 100000
set_option maxHeartbeats 1000000
def OwnS (w:World) (base:Nat) (v:Value) (ss:List ByteArray):Prop:=(∀s,s∈ss→s.size≤maxLen)∧w.ownsRow base 9 1 v ss.length (ss.map Value.string)
theorem OwnS.nil (w:World) (base:Nat):OwnS w base (.slice none 0 0) []:=⟨(fun _ h=>by cases h),World.ownsRow_nil _ _ _ _⟩
theorem OwnS.lt {w:World} {base:Nat} {v:Value} {ss:List ByteArray} (h:OwnS w base v ss):∀g,v.ownBlock=some g→base≤g∧g<w.heap.size:=h.2.lt
theorem OwnS.only {w w':World} {base:Nat} {v:Value} {ss:List ByteArray} {r:Option Nat} (h:OwnS w base v ss) (k:w.grownBy w' r) (hne:v.ownBlock=none∨v.ownBlock≠r):OwnS w' base v ss:=⟨h.1,h.2.kept k hne⟩
theorem OwnS.below {w w':World} {base:Nat} {v:Value} {ss:List ByteArray} (h:OwnS w base v ss) (k:Below w.heap.size w w'):OwnS w' base v ss:=h.only (aC k none) (by cases hv:v.ownBlock<;>simp)
theorem OwnS.mono {w:World} {base base':Nat} {v:Value} {ss:List ByteArray} (h:OwnS w base v ss) (hb:base'≤base):OwnS w base' v ss:=by
 refine⟨h.1,h.2.1,?_⟩;rcases h.2.2 with h'|⟨g,cap,cur,h1,h2,h3⟩
 ·exact .inl h'
 ·exact .inr ⟨g,cap,cur,h1,Nat.le_trans hb h2,h3⟩
theorem OwnS.alloc {w:World} {base:Nat} {v:Value} {ss:List ByteArray} (h:OwnS w base v ss) (o:Obj):OwnS (w.alloc o) base v ss:=⟨h.1,h.2.alloc o⟩
theorem OwnS.cases {w:World} {base:Nat} {v:Value} {ss:List ByteArray} (h:OwnS w base v ss):(v= .slice none 0 0∧ss=[])∨∃g cap,v= .slice (some ⟨g,0,none⟩) ss.length cap∧base≤g∧g<w.heap.size∧ss.length≤cap∧cap≤9223372036854775807∧
 ∀i,i<ss.length→w.cell? ⟨g,i,none⟩=some (.string (ss.getD i ByteArray.empty)):=by
 obtain⟨h0,h1⟩:=h;rcases h1.2 with ⟨rfl,hn⟩|⟨g,cap,cur,rfl,hb,hg,hn,hc,hs,ht⟩
 ·exact .inl ⟨rfl,List.eq_nil_of_length_eq_zero hn⟩
 ·refine .inr ⟨g,cap,rfl,hb,(Array.getElem?_eq_some_iff.1 hg).1,hn,hc,fun i hi=>?_⟩
  rw[h1.cellAt i (by omega)];simp[List.getD,hi]
theorem OwnS.ss {w:World} {base:Nat} {v:Value} {ss:List ByteArray} (h:OwnS w base v ss):Ss w v ss:=by
 rcases h.cases with ⟨rfl,rfl⟩|⟨g,cap,rfl,_,_,h1,h2,hc⟩
 ·exact Ss.nil w
 ·exact⟨h.1,by omega,.inr ⟨⟨g,0,none⟩,cap,rfl,⟨h1,h2⟩,fun i hi=>by rw[Addr.add_lit,Nat.zero_add];exact hc i hi⟩⟩
theorem jF {w:World} {p:Addr} (u:Value):w.grownBy (w.setCell p u) (some p.block):=kS (aE w _) (.inl rfl) u
theorem OwnS.apart {w:World} {base:Nat} {v:Value} {ss:List ByteArray} (h:OwnS w base v ss) {b:Nat} (hb:b<base):some b≠v.ownBlock:=fun e=>by have:=(h.lt b e.symm).1;omega
theorem OwnS.setCell {w:World} {base:Nat} {v:Value} {ss:List ByteArray} (h:OwnS w base v ss) {p:Addr} (hp:p.block<base) (u:Value):OwnS (w.setCell p u) base v ss:=by
 refine h.only (jF u) ?_
 cases hv:v.ownBlock with
 |none=>exact .inl rfl
 |some g=>exact .inr (fun e=>by have:=(h.lt g hv).1;cases e;omega)
theorem Hb.set {w:World} {b:Nat} {cs:Array Value} {t:TypeId} (h:Hb w b cs t) (i:Nat) (u:Value):Hb (w.setCell ⟨b,i,none⟩ u) b (cs.setIfInBounds i u) t:=by
 unfold Hb at h ⊢;simp[World.setCell,Array.getElem?_modify,h]
theorem Hb.far {w:World} {b:Nat} {cs:Array Value} {t:TypeId} (h:Hb w b cs t) {p:Addr} (hp:b≠p.block) (u:Value):Hb (w.setCell p u) b cs t:=(Below.heap_setCell w p u b hp).trans h
theorem Hb.two {w:World} {b:Nat} {x y:Value} {t:TypeId} (h:Hb w b #[x,y] t) (u:Value):
 w.cell? ⟨b,0,none⟩=some x∧w.cell? ⟨b,1,none⟩=some y∧w.frozen? ⟨b,0,none⟩=false∧w.frozen? ⟨b,1,none⟩=false∧(w.setCell ⟨b,0,none⟩ u).cell? ⟨b,1,none⟩=some y∧(w.setCell ⟨b,0,none⟩ u).frozen? ⟨b,1,none⟩=false:=
 ⟨h.cell (i:=0) rfl,h.cell (i:=1) rfl,h.frozen 0,h.frozen 1,(h.set 0 u).cell (i:=1) rfl,(h.set 0 u).frozen 1⟩
theorem jP:(Tryz.prog.info? 63).map (·.size)=some 2:=by kernel_rfl
theorem aEL:(Tryz.prog.info? 9).map (fun i=>(i.zero,i.size,i.bytes))=some (some (.string ⟨#[]⟩),1,16):=by kernel_rfl
theorem kP {w:World} {ops:Array Oper} {rest:List Oper} {o:Oper} {a:Act} {Q:Exit→Act→World→Prop} (hgd:o.guard=none) (s x:Operand)
 (ho:o.op= .call { callee:=.builtin .append,args:=#[s,x],argTypes:=#[61,61]})
 (base:Nat) (v:Value) (ss:List ByteArray) (hs:a.eval s=v) (hown:OwnS w base v ss) (g:Nat) (t:ByteArray) (ht:t.size≤maxLen) (hx:a.eval x= .slice (some ⟨g,0,none⟩) 1 1) (hc:w.cell? ⟨g,0,none⟩=some (.string t))
 (hn:ss.length≤1000000) (hbase:base≤w.heap.size)
 (h:∀a' c' w',OwnS w' base (.slice a' (ss.length+1) c') (ss++[t])→w.grownBy w' v.ownBlock→wpList Tryz.prog ops Q rest (a.put o.dst (.slice a' (ss.length+1) c')) w'):wpList Tryz.prog ops Q (o::rest) a w:=by
 obtain⟨i0,hi,hz0,hz1,hz2⟩:=info_parts aEL;refine wpList_append_own w hgd s x 61 ho base 9 i0 (.string ⟨#[]⟩) 1 16 Tryz.underlying61 hi hz0 hz1 hz2 rfl (by decide) v ss.length (ss.map Value.string) hs hown.2 ⟨g,0,none⟩ 1 1 [.string t] hx (by simp) ?_ ?_ ?_ (by omega) hbase ?_
 ·intro j u hj
  match j,hj with
  |0,hj=>simp at hj;subst hj;rw[Addr.add_lit];exact hc
 ·intro u hu
  simp at hu;subst hu;rfl
 ·unfold maxLen;omega
 ·intro v' w' h3 h4 _
  have hO:OwnS w' base v' (ss++[t]):=by
   refine⟨fun s hs=>?_,?_⟩
   ·rcases List.mem_append.1 hs with hs|hs
    ·exact hown.1 s hs
    ·rw[List.mem_singleton.1 hs];exact ht
   ·rw[List.length_append,List.map_append]
    exact h3
  obtain⟨a',c',e⟩:=hO.ss.form;rw[List.length_append,List.length_singleton] at e;subst e;exact h a' c' w' hO h4
theorem dU {w w2:World} {r:Option Nat} (h:w.grownBy w2 r) {p:Addr} (hp:w.heap.size≤p.block) (u:Value):w.grownBy (w2.setCell p u) r:=
 ⟨h.os,h.tape,h.output,by simpa [World.setCell] using h.size,fun i hi hne=>(Below.heap_setCell w2 p u i (by rintro rfl;omega)).trans (h.block i hi hne)⟩
theorem bF {P:Program} {fn:Func} {p u:Tmp} {ty:TypeId} (h:fn.results=#[.cell p ty,.tmp u]) (tmps:Array Value) (w:World) (g:Nat) (t:TypeId) (cs:Array Value) (fr:Nat×Nat) (d:TypeDesc)
 (hp:tmps.getD p undef= .pointer (some ⟨g,0,none⟩)) (hg:w.heap[g]? =some (.cells cs t fr))
 (hu:P.underlying ty=some d) (hd:(match d with| .struct _| .array _ _=>true|_=>false)=true) (hi:(P.info? ty).map (·.size)=some cs.size):
 (results fn tmps).run P w= .ok (.tuple #[.agg cs,tmps.getD u undef]) w:=by
 rw[results_cell_tmp h,hp];simp[asAddr,Sem.run,Result.andThen,run_loadVar_row w g t ty cs fr d hg hu hd hi]
end Go.Proofs.YtcoolgnlhheaiaaGreatDoor
namespace Go.Proofs.YtcoolgnlhheaiaaGreatDoor
set_option linter.all false
namespace Wir
open _root_.Wir
theorem be_append_one (l:List Nat) (x:Nat):be (l++[x])=be l*256+x:=by simp[be]
theorem enc_be (k:Nat):∀(l:List Nat),l.length=k→(∀x,x∈l→x<256)→enc k (be l)=l:=by
 induction k with
 |zero=>intro l hl _;obtain rfl:=List.eq_nil_of_length_eq_zero hl;rfl
 |succ k ih=>
  intro l hl h;rcases List.eq_nil_or_concat l with rfl|⟨m,x,rfl⟩
  ·simp at hl
  ·simp only[List.concat_eq_append] at hl h ⊢
   have hx:x<256:=h x (by simp);have hm:m.length=k:=by simpa using hl
   have e:=ih m hm (fun y hy=>h y (by simp[hy]));rw[be_append_one];show enc k ((be m*256+x) / 256)++[(be m*256+x) % 256]=_;rw[show(be m*256+x) / 256=be m by omega,show(be m*256+x) % 256=x by omega,e]
theorem next_back {r:R} {n:Nat} (h:(next r n).1.bad=false):r.bad=false∧∃l,(next r n).2=some l∧r.l=l++(next r n).1.l∧l.length=n:=by
 unfold next at h ⊢;split
 ·rename_i hc;rw[if_pos hc] at h;simp[failed] at h
 ·rename_i hc
  exact⟨by simpa using (not_or.1 hc).1,_,rfl,(List.take_append_drop _ _).symm,by rw[List.length_take];have:=(not_or.1 hc).2;omega⟩
theorem take_back {r:R} {n:Nat} (h:(take r n).1.bad=false):r.bad=false∧r.l=(take r n).2++(take r n).1.l∧(take r n).2.length=n:=by
 unfold take at h ⊢;rw[if_neg (by omega)] at h ⊢;dsimp only at h ⊢;rw[Int.toNat_natCast] at h ⊢;obtain⟨h1,l,e,h2,h3⟩:=next_back h;rw[e];exact⟨h1,h2,h3⟩
theorem num_back {r:R} {k:Nat} (hk:1≤k∧k≤8) (hr:∀x,x∈r.l→x<256) (h:(num r k).1.bad=false):r.bad=false∧r.l=enc k (num r k).2++(num r k).1.l:=by
 unfold num number at h ⊢;rw[if_neg (by omega)] at h ⊢;dsimp only at h ⊢;rw[Int.toNat_natCast] at h ⊢;obtain⟨h1,l,e,h2,h3⟩:=next_back h;refine⟨h1,?_⟩;rw[e];show r.l=enc k (be l)++_;rw[enc_be k l h3 (fun x hx=>hr x (by rw[h2];simp[hx]))];exact h2
end Wir
namespace Nam
open _root_.Nam
theorem num_bad {r:Wir.R} {k:Int} (h:(Wir.num r k).1.bad=false):r.bad=false:=by
 unfold Wir.num Wir.number Wir.next at h;dsimp only at h;split at h
 ·simp[Wir.failed] at h
 ·dsimp only at h
  split at h
  ·simp[Wir.failed] at h
  ·rename_i hc;simpa using (not_or.1 hc).1
end Nam
namespace Tic
structure T where
 client:Nam.N
 start:Int
 stop:Int
 key:List Nat
def valid (t:T):Bool:=Nam.valid t.client&&decide (0≤t.start)&&decide (t.start≤t.stop)&&decide (t.stop≤1099511627776)
def bytes (t:T):List Nat:=1::(Nam.bytes t.client++(Wir.enc 8 t.start.toNat++(Wir.enc 8 t.stop.toNat++t.key)))
def parse (b:List Nat):Option T:=
 if (Wir.num ⟨b,false⟩ 1).2≠1 then none else
 match (Nam.refRead (Wir.num ⟨b,false⟩ 1).1).2 with
 |none=>none
 |some n=>
  let s:=Wir.num (Nam.refRead (Wir.num ⟨b,false⟩ 1).1).1 8
  let e:=Wir.num s.1 8
  let k:=Wir.take e.1 16
  if (k.1.bad=true∨k.1.l.length≠0)∨e.2<s.2∨1099511627776<e.2 then none else some ⟨n,s.2,e.2,k.2⟩
theorem valid_iff (t:T):valid t=true↔Nam.valid t.client=true∧0≤t.start∧t.start≤t.stop∧t.stop≤1099511627776:=by
 unfold valid;simp[and_assoc]
theorem num_enc (x:Nat) (t:List Nat) (h:x<18446744073709551616):Wir.num ⟨Wir.enc 8 x++t,false⟩ 8=(⟨t,false⟩,x):=by
 have e:Wir.putNumber 8 x=some (Wir.enc 8 x):=by
  unfold Wir.putNumber;rw[if_neg (by omega),if_pos (by simpa using h)];rfl
 have:=Wir.number_put e t;unfold Wir.num;rw[this];rfl
theorem take_app (l t:List Nat) (k:Nat) (h:l.length=k):Wir.take ⟨l++t,false⟩ k=(⟨t,false⟩,l):=by
 unfold Wir.take;rw[if_neg (by omega),Int.toNat_natCast,←h,Wir.next_app];rfl
theorem parse_bytes {t:T} (hv:valid t=true) (hk:t.key.length=16):parse (bytes t)=some t:=by
 obtain⟨v1,v2,v3,v4⟩:=(valid_iff t).1 hv;obtain⟨n,s,e,k⟩:=t;dsimp only at v1 v2 v3 v4 hk;obtain⟨s,rfl⟩:=Int.eq_ofNat_of_zero_le v2;obtain⟨e,rfl⟩:=Int.eq_ofNat_of_zero_le (by omega:0≤e);have e1:=Nam.num_one 1 (Nam.bytes n++(Wir.enc 8 s++(Wir.enc 8 e++k))) (by omega);have e2:=Nam.refRead_bytes n (Wir.enc 8 s++(Wir.enc 8 e++k)) v1;have e3:=num_enc s (Wir.enc 8 e++k) (by omega);have e4:=num_enc e k (by omega);have e5:=take_app k [] 16 hk;rw[List.append_nil] at e5;have e6:((16:Nat):Int)=16:=rfl;rw[e6] at e5;unfold parse bytes;dsimp only;rw[Int.toNat_natCast,Int.toNat_natCast,e1];dsimp only;rw[if_neg (by omega),e2];dsimp only;rw[e3];dsimp only;rw[e4];dsimp only;rw[e5];dsimp only;rw[if_neg (by simp;omega)]
end Tic
end Go.Proofs.YtcoolgnlhheaiaaGreatDoor
namespace Go.Proofs.YtcoolgnlhheaiaaGreatDoor
set_option linter.all false
namespace Wir
open _root_.Wir
theorem num_encK (k x:Nat) (t:List Nat) (hk:1≤k∧k≤8) (h:x<256 ^ k):num ⟨enc k x++t,false⟩ k=(⟨t,false⟩,x):=by
 have e:putNumber k x=some (enc k x):=by
  unfold putNumber;rw[if_neg (by omega),if_pos (by simpa using h)];rfl
 unfold num;rw[number_put e t];rfl
theorem num_lt {r:R} {k:Nat} (hk:1≤k∧k≤8) (hr:∀x,x∈r.l→x<256):(num r k).2<256 ^ k:=by
 unfold num number next;rw[if_neg (by omega)];dsimp only;split
 ·exact Nat.pow_pos (by omega)
 ·rename_i hc
  rw[Int.toNat_natCast] at hc ⊢;exact be_lt r.l hr k (by have:=(not_or.1 hc).2;omega)
end Wir
namespace Aut
structure A where
 client:Nam.N
 time:Int
 micro:Nat
 seq:Nat
def valid (a:A):Bool:=Nam.valid a.client&&decide (0≤a.time)&&decide (a.time≤1099511627776)&&decide (a.micro≤999999)
def bytes (a:A):List Nat:=2::(Nam.bytes a.client++(Wir.enc 8 a.time.toNat++(Wir.enc 4 a.micro++Wir.enc 4 a.seq)))
def parse (b:List Nat):Option A:=
 if (Wir.num ⟨b,false⟩ 1).2≠2 then none else
 match (Nam.refRead (Wir.num ⟨b,false⟩ 1).1).2 with
 |none=>none
 |some n=>
  let x:=Wir.num (Nam.refRead (Wir.num ⟨b,false⟩ 1).1).1 8
  let y:=Wir.num x.1 4
  let z:=Wir.num y.1 4
  if (z.1.bad=true∨z.1.l.length≠0)∨1099511627776<x.2∨999999<y.2 then none else some ⟨n,x.2,y.2,z.2⟩
theorem valid_iff (a:A):valid a=true↔Nam.valid a.client=true∧0≤a.time∧a.time≤1099511627776∧a.micro≤999999:=by
 unfold valid;simp[and_assoc]
theorem parse_bytes {a:A} (hv:valid a=true) (hs:a.seq<4294967296):parse (bytes a)=some a:=by
 obtain⟨v1,v2,v3,v4⟩:=(valid_iff a).1 hv;obtain⟨n,t,m,s⟩:=a;dsimp only at v1 v2 v3 v4 hs;obtain⟨t,rfl⟩:=Int.eq_ofNat_of_zero_le v2;have e1:=Nam.num_one 2 (Nam.bytes n++(Wir.enc 8 t++(Wir.enc 4 m++Wir.enc 4 s))) (by omega);have e2:=Nam.refRead_bytes n (Wir.enc 8 t++(Wir.enc 4 m++Wir.enc 4 s)) v1;have e3:=Wir.num_encK 8 t (Wir.enc 4 m++Wir.enc 4 s) (by omega) (by omega);have e4:=Wir.num_encK 4 m (Wir.enc 4 s) (by omega) (by omega);have e5:=Wir.num_encK 4 s [] (by omega) (by omega);rw[List.append_nil] at e5;have e6:((8:Nat):Int)=8:=rfl;have e7:((4:Nat):Int)=4:=rfl;rw[e6] at e3;rw[e7] at e4 e5;unfold parse bytes;dsimp only;rw[Int.toNat_natCast,e1];dsimp only;rw[if_neg (by omega),e2];dsimp only;rw[e3];dsimp only;rw[e4];dsimp only;rw[e5];dsimp only;rw[if_neg (by simp;omega)]
theorem bytes_len {a:A} (hv:valid a=true):(bytes a).length≤927:=by
 have:=Nam.bytes_len ((valid_iff a).1 hv).1;have l8:=Wir.enc_length 8 a.time.toNat;have l4:=Wir.enc_length 4 a.micro;have l4s:=Wir.enc_length 4 a.seq;unfold bytes;simp only[List.length_cons,List.length_append];omega
end Aut
namespace Tic
theorem bytes_len {t:T} (hv:valid t=true) (hk:t.key.length=16):(bytes t).length≤943:=by
 have:=Nam.bytes_len ((valid_iff t).1 hv).1;have l8:=Wir.enc_length 8 t.start.toNat;have l4:=Wir.enc_length 8 t.stop.toNat;unfold bytes;simp only[List.length_cons,List.length_append];omega
end Tic
end Go.Proofs.YtcoolgnlhheaiaaGreatDoor
namespace Go.Proofs.YtcoolgnlhheaiaaGreatDoor
set_option linter.all false
namespace Wir
open _root_.Wir
theorem stringK (r:R) (k:Nat) (hk:1≤k∧k≤8):string r k=if (num r k).1.bad=true then (failed,[]) else ((next (num r k).1 (num r k).2).1,(next (num r k).1 (num r k).2).2.getD []):=by
 cases hn:number r k with
 |mk r1 o=>
  have hn2:=hn;unfold number next at hn2;rw[if_neg (by omega)] at hn2;unfold string num;rw[hn]
  by_cases hc:r.bad=true∨r.l.length<(k:Int).toNat
  ·rw[if_pos hc] at hn2
   simp only[Option.map_none,Prod.mk.injEq] at hn2;obtain⟨rfl,rfl⟩:=hn2;simp[failed]
  ·rw[if_neg hc] at hn2
   simp only[Option.map_some,Prod.mk.injEq] at hn2;obtain⟨rfl,rfl⟩:=hn2;simp
theorem stringK_back {r:R} {k:Nat} (hk:1≤k∧k≤8) (hr:∀x,x∈r.l→x<256) (h:(string r k).1.bad=false):r.bad=false∧(string r k).2.length<256 ^ k∧r.l=enc k (string r k).2.length++((string r k).2++(string r k).1.l):=by
 rw[stringK r k hk] at h ⊢
 by_cases hb:(num r k).1.bad=true
 ·rw[if_pos hb] at h;simp[failed] at h
 ·rw[if_neg hb] at h ⊢
  obtain⟨h0,h1⟩:=num_back hk hr (by simpa using hb);obtain⟨_,l,e,h2,h3⟩:=next_back h;have hlt:=num_lt hk hr;dsimp only;rw[e];refine⟨h0,by show l.length<_;rw[h3];exact hlt,?_⟩;show r.l=enc k l.length++(l++_);rw[h1,h2,h3]
theorem stringK_app (k:Nat) (hk:1≤k∧k≤8) (l t:List Nat) (h:l.length<256 ^ k):string ⟨enc k l.length++(l++t),false⟩ k=(⟨t,false⟩,l):=by
 have e:putString k l=some (enc k l.length++l):=by
  unfold putString putNumber;rw[if_neg (by omega),if_pos (by simpa using h)];rfl
 have:=_root_.Wir.string_put e t;rw[List.append_assoc] at this;exact this
theorem string_bad {r:R} {k:Nat} (hk:1≤k∧k≤8) (h:(string r k).1.bad=false):r.bad=false:=by
 rw[stringK r k hk] at h
 by_cases hb:(num r k).1.bad=true
 ·rw[if_pos hb] at h;simp[failed] at h
 ·exact Nam.num_bad (by simpa using hb)
theorem num_one_back {r:R} {c:Nat} (hc:c≠0) (hr:∀x,x∈r.l→x<256) (h:(num r 1).2=c):r.bad=false∧(num r 1).1.bad=false∧r.l=c::(num r 1).1.l:=by
 have hb:(num r 1).1.bad=false:=by
  cases hh:(num r 1).1.bad with
  |false=>rfl
  |true=>
   exfalso;unfold num number next at h hh;rw[if_neg (by omega)] at h hh;dsimp only at h hh;split at h
   ·simp at h;omega
   ·rename_i hd;rw[if_neg hd] at hh;simp at hh
 obtain⟨h0,h1⟩:=num_back (k:=1) (by omega) hr hb;have lt:=num_lt (k:=1) (r:=r) (by omega) hr;have e1:((1:Nat):Int)=1:=rfl;rw[e1] at h1 lt;rw[h] at h1 lt;refine⟨h0,hb,?_⟩;have:enc 1 c=[c]:=by simp[enc];omega
 rw[this] at h1;exact h1
end Wir
namespace Req
def bytes (x y:List Nat):Option (List Nat):=
 if 65536<7+x.length+y.length then none else some (65::80::1::(Wir.enc 2 x.length++(x++(Wir.enc 2 y.length++y))))
def parse (b:List Nat):Option (List Nat×List Nat):=
 if 65536<b.length then none else
 if (Wir.num ⟨b,false⟩ 1).2≠65 then none else
 if (Wir.num (Wir.num ⟨b,false⟩ 1).1 1).2≠80 then none else
 if (Wir.num (Wir.num (Wir.num ⟨b,false⟩ 1).1 1).1 1).2≠1 then none else
 let x:=Wir.string (Wir.num (Wir.num (Wir.num ⟨b,false⟩ 1).1 1).1 1).1 2
 let y:=Wir.string x.1 2
 if y.1.bad=true∨y.1.l.length≠0 then none else some (x.2,y.2)
theorem bytes_some {x y b:List Nat} (h:bytes x y=some b):7+x.length+y.length≤65536∧b=65::80::1::(Wir.enc 2 x.length++(x++(Wir.enc 2 y.length++y)))∧b.length=7+x.length+y.length:=by
 unfold bytes at h;split at h
 ·cases h
 ·obtain rfl:=Option.some.inj h
  have l1:=Wir.enc_length 2 x.length;have l2:=Wir.enc_length 2 y.length;refine⟨by omega,rfl,?_⟩;simp only[List.length_cons,List.length_append];omega
theorem parse_bytes {x y b:List Nat} (h:bytes x y=some b):parse b=some (x,y):=by
 obtain⟨h1,hb,hl⟩:=bytes_some h;have e1:=Nam.num_one 65 (80::1::(Wir.enc 2 x.length++(x++(Wir.enc 2 y.length++y)))) (by omega);have e2:=Nam.num_one 80 (1::(Wir.enc 2 x.length++(x++(Wir.enc 2 y.length++y)))) (by omega);have e3:=Nam.num_one 1 (Wir.enc 2 x.length++(x++(Wir.enc 2 y.length++y))) (by omega);have e4:=Wir.stringK_app 2 (by omega) x (Wir.enc 2 y.length++y) (by omega);have e5:=Wir.stringK_app 2 (by omega) y [] (by omega);rw[List.append_nil] at e5;have f2:((2:Nat):Int)=2:=rfl;rw[f2] at e4 e5;unfold parse;rw[if_neg (by omega),hb,e1];dsimp only;rw[if_neg (by omega),e2];dsimp only;rw[if_neg (by omega),e3];dsimp only;rw[if_neg (by omega),e4];dsimp only;rw[e5];dsimp only;rw[if_neg (by simp)]
theorem parse_some {b x y:List Nat} (hb:∀x,x∈b→x<256) (h:parse b=some (x,y)):bytes x y=some b:=by
 unfold parse at h;split at h
 ·cases h
 rename_i h0;split at h
 ·cases h
 rename_i h1;split at h
 ·cases h
 rename_i h2;split at h
 ·cases h
 rename_i h3;dsimp only at h;split at h
 ·cases h
 rename_i hc;obtain⟨c1,c2⟩:=not_or.1 hc;have h1:(Wir.num ⟨b,false⟩ 1).2=65:=by omega
 have h2:(Wir.num (Wir.num ⟨b,false⟩ 1).1 1).2=80:=by omega
 have h3:(Wir.num (Wir.num (Wir.num ⟨b,false⟩ 1).1 1).1 1).2=1:=by omega
 have f2:((2:Nat):Int)=2:=rfl;obtain⟨_,_,b1⟩:=Wir.num_one_back (r:=⟨b,false⟩) (by omega) hb h1;dsimp only at b1;have hb1:∀x,x∈(Wir.num ⟨b,false⟩ 1).1.l→x<256:=fun x hx=>hb x (by rw[b1];simp[hx])
 obtain⟨_,_,b2⟩:=Wir.num_one_back (by omega) hb1 h2;have hb2:∀x,x∈(Wir.num (Wir.num ⟨b,false⟩ 1).1 1).1.l→x<256:=fun x hx=>hb1 x (by rw[b2];simp[hx])
 obtain⟨_,_,b3⟩:=Wir.num_one_back (by omega) hb2 h3;have hb3:∀x,x∈(Wir.num (Wir.num (Wir.num ⟨b,false⟩ 1).1 1).1 1).1.l→x<256:=fun x hx=>hb2 x (by rw[b3];simp[hx])
 have t1:(Wir.string (Wir.string (Wir.num (Wir.num (Wir.num ⟨b,false⟩ 1).1 1).1 1).1 2).1 2).1.bad=false:=by simpa using c1
 have t0:=Wir.string_bad (k:=2) (by omega) t1;obtain⟨_,g1,s1⟩:=Wir.stringK_back (k:=2) (by omega) hb3 t0;rw[f2] at g1 s1;have hb4:∀x,x∈(Wir.string (Wir.num (Wir.num (Wir.num ⟨b,false⟩ 1).1 1).1 1).1 2).1.l→x<256:=fun x hx=>hb3 x (by rw[s1];simp[hx])
 obtain⟨_,g2,s2⟩:=Wir.stringK_back (k:=2) (by omega) hb4 t1;rw[f2] at g2 s2;have c2:(Wir.string (Wir.string (Wir.num (Wir.num (Wir.num ⟨b,false⟩ 1).1 1).1 1).1 2).1 2).1.l=[]:=by simpa using c2
 rw[c2,List.append_nil] at s2;simp only[Option.some.injEq,Prod.mk.injEq] at h;obtain⟨rfl,rfl⟩:=h;generalize Wir.string (Wir.num (Wir.num (Wir.num ⟨b,false⟩ 1).1 1).1 1).1 2=X at*;generalize Wir.string X.1 2=Y at*;have hbb:b=65::80::1::(Wir.enc 2 X.2.length++(X.2++(Wir.enc 2 Y.2.length++Y.2))):=by
  rw[←s2,←s1,←b3,←b2];exact b1
 have l1:=Wir.enc_length 2 X.2.length;have l2:=Wir.enc_length 2 Y.2.length;have hlen:b.length=7+X.2.length+Y.2.length:=by
  rw[hbb];simp only[List.length_cons,List.length_append];omega
 unfold bytes;rw[if_neg (by omega),←hbb]
end Req
end Go.Proofs.YtcoolgnlhheaiaaGreatDoor
