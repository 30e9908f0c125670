import Derived.Lib.Bytealg
import Derived.Sort.Grow
import Derived.Sort.Statements
import Derived.Test.YtcoolgnlhheaiaaGreatDoorG22
import Derived.Test.YtcoolgnlhheaiaaGreatDoorG23
namespace Go.Proofs.YtcoolgnlhheaiaaGreatDoor
open Go.RowKit Go.Deep Go.Maps Go.ChangeMaps Go.MapKept Go.WideShapes
set_option linter.all false
set_option maxRecDepth 100000
section
variable {w:World} {ops:Array Oper} {rest:List Oper} {o:Oper} {a:Act} {Q:Exit→Act→World→Prop} {k e t:TypeId} {b n:Nat} {mm:Go.Lit→Option Value}
theorem aEM (hg:o.guard=none) (m x:Operand) (hop:o.op=Op.lookup t m x false) (K:Keyed Tryz.prog k) (ht:Tryz.prog.underlying t=some (.map k e)) {z:Value} (hz:(zeroValue e).run Tryz.prog w= .ok z w)
 (hm:a.eval m= .map (some b)) (h:MapIs w k b n mm) {key:Value} {kl:Go.Lit} (hx:a.eval x=key) (hkey:keyOf Tryz.prog k key=some kl)
 (hK:wpList Tryz.prog ops Q rest (a.put o.dst ((mm kl).getD z)) w):wpList Tryz.prog ops Q (o::rest) a w:=by
 refine wpList_plain hg fun K' hK'=>?_
 have hrun:=h.look K ht hz hkey;unfold Oper.wp;simp[execOp,hop,hm,hx,hrun,Result.andThen];exact hK' _ _ hK
theorem lS (hg:o.guard=none) (m x:Operand) (hop:o.op=Op.lookup t m x true) (K:Keyed Tryz.prog k) (ht:Tryz.prog.underlying t=some (.map k e)) {z:Value} (hz:(zeroValue e).run Tryz.prog w= .ok z w)
 (hm:a.eval m= .map (some b)) (h:MapIs w k b n mm) {key:Value} {kl:Go.Lit} (hx:a.eval x=key) (hkey:keyOf Tryz.prog k key=some kl)
 (hK:wpList Tryz.prog ops Q rest (a.put o.dst (.tuple #[(mm kl).getD z,.bool (mm kl).isSome])) w):wpList Tryz.prog ops Q (o::rest) a w:=by
 refine wpList_plain hg fun K' hK'=>?_
 have hrun:=h.look_ok K ht hz hkey;unfold Oper.wp;simp[execOp,hop,hm,hx,hrun,Result.andThen];exact hK' _ _ hK
theorem qL (hg:o.guard=none) (m x v:Operand) (hop:o.op=Op.mapUpdate t m x v) (K:Keyed Tryz.prog k) (ht:Tryz.prog.underlying t=some (.map k e)) (hn:n<maxLen)
 (hm:a.eval m= .map (some b)) (h:MapIs w k b n mm) {key val:Value} {kl:Go.Lit} (hx:a.eval x=key) (hv:a.eval v=val) (hkl:WideAt.IsKeyLit kl) (hkey:keyOf Tryz.prog k key=some kl)
 (hK:∀w',MapIs w' k b (n+1) (m9 mm kl val)→w.mapTurned w' b→wpList Tryz.prog ops Q rest (a.put o.dst undef) w'):wpList Tryz.prog ops Q (o::rest) a w:=by
 refine wpList_plain hg fun K' hK'=>?_
 obtain⟨w',hrun,r1,r2⟩:=h.store K ht hn (val:=val) hkl hkey;unfold Oper.wp;simp[execOp,hop,hm,hx,hv,hrun,Result.andThen];exact hK' _ _ (hK w' r1 r2)
theorem uG (hg:o.guard=none) (m x:Operand) (hop:o.op=Op.call { callee:=Callee.builtin Builtin.delete,args:=#[m,x],argTypes:=#[t,k]}) (K:Keyed Tryz.prog k) (ht:Tryz.prog.underlying t=some (.map k e))
 (hm:a.eval m= .map (some b)) (h:MapIs w k b n mm) {key:Value} {kl:Go.Lit} (hx:a.eval x=key) (hkey:keyOf Tryz.prog k key=some kl)
 (hK:∀w',MapIs w' k b n (xM mm kl)→w.mapTurned w' b→wpList Tryz.prog ops Q rest (a.put o.dst (.tuple #[])) w'):wpList Tryz.prog ops Q (o::rest) a w:=by
 refine wpList_plain hg fun K' hK'=>?_
 obtain⟨w',hrun,r1,r2⟩:=h.drop K ht hkey o.type;unfold Oper.wp;simp[execOp,hop,resolve,invoke,builtin,hm,hx,hrun,Result.andThen];exact hK' _ _ (hK w' r1 r2)
theorem aCM (hg:o.guard=none) (m:Operand) (hop:o.op=Op.call { callee:=Callee.builtin Builtin.clear,args:=#[m],argTypes:=#[t]}) (ht:Tryz.prog.underlying t=some (.map k e))
 (hm:a.eval m= .map (some b)) (h:MapIs w k b n mm)
 (hK:∀w',MapIs w' k b 0 (fun _=>none)→w.mapTurned w' b→wpList Tryz.prog ops Q rest (a.put o.dst (.tuple #[])) w'):wpList Tryz.prog ops Q (o::rest) a w:=by
 refine wpList_plain hg fun K' hK'=>?_
 obtain⟨w',hrun,r1,r2⟩:=h.cleared ht o.type;unfold Oper.wp;simp[execOp,hop,resolve,invoke,builtin,hm,hrun,Result.andThen];exact hK' _ _ (hK w' r1 r2)
end
theorem yT {k:Int} (h0: -9223372036854775808≤k) (h1:k≤9223372036854775807):keyOf Tryz.prog 3 (.int .i64 k)=some (.int .i64 k):=keyOf_int_mk Tryz.underlying3 (by
 have a1:IntKind.i64.min= -9223372036854775808:=by decide
 have a2:IntKind.i64.max=9223372036854775807:=by decide
 simp[Go.Lit.wf,a1,a2];omega)
theorem yX:Keyed Tryz.prog 3:=int_keyed Tryz.underlying3
theorem tU (d:Nat) (b:Dsk.B) (D:Dsk.D) (x:Int) (w:World) (h:Dk w d b D):Calls Tryz.prog 240 #[.pointer (some ⟨d,0,none⟩),.int .i64 x] w fun e w'=>e= .returned (.bool (decide (0≤x∧x<D.sec.length)))∧w=w':=by
 obtain⟨⟨c0,_⟩,_⟩:=cW h.blk;obtain⟨p,cap,hv⟩:=h.sec.form;rw[hv,List.length_map] at c0;clear h hv;generalize D.sec.length=L at*;go_enter Tryz.func240,Tryz.ntmps240;go_wp2
 all_goals
  go_ret;refine⟨congrArg (fun z=>Ending.returned (.bool z)) ?_,rfl⟩;simp
  try omega
theorem jJ (d:Nat) (b:Dsk.B) (D:Dsk.D) (w:World) (h:Dk w d b D):Calls Tryz.prog 130 #[.pointer (some ⟨d,0,none⟩)] w fun e w'=>e= .returned (.int .i64 (D.sec.length:Nat))∧w=w':=by
 obtain⟨⟨c0,_⟩,_⟩:=cW h.blk;obtain⟨p,cap,hv⟩:=h.sec.form;rw[hv,List.length_map] at c0;clear h hv;generalize D.sec.length=L at*;go_enter Tryz.func130,Tryz.ntmps130;go_wp2
 all_goals
  go_ret;exact⟨rfl,rfl⟩
theorem aCG (d:Nat) (b:Dsk.B) (D:Dsk.D) (w:World) (h:Dk w d b D):Calls Tryz.prog 76 #[.pointer (some ⟨d,0,none⟩)] w fun e w'=>e= .returned (.bool D.down)∧w=w':=by
 obtain⟨⟨c0,c1,c2,c3,_⟩,_⟩:=cW h.blk;clear h c0 c1 c2;generalize D.down=L at*;go_enter Tryz.func76,Tryz.ntmps76;go_wp2
 all_goals
  go_ret;exact⟨rfl,rfl⟩
theorem Dk.cell {w:World} {d:Nat} {b:Dsk.B} {D D':Dsk.D} (h:Dk w d b D) (b':Dsk.B) (i:Nat) (u:Value)
 (hb:#[b'.vs,b'.vo,Value.map (some b'.bl),.bool D'.down,.int .i64 (D'.steps:Nat),.map (some b'.bf),.map (some b'.bc)]=(#[b.vs,b.vo,Value.map (some b.bl),.bool D.down,.int .i64 (D.steps:Nat),.map (some b.bf),.map (some b.bc)]:Array Value).setIfInBounds i u)
 (hF:∀g,b'.F d g→b.F d g) (ho:Dsk.ok D') (hl:b'.bl=b.bl) (hf:b'.bf=b.bf) (hc:b'.bc=b.bc) (hcm:b'.cm=b.cm) (hn:D'.n=D.n) (he:D'.opn=D.opn∧D'.fails=D.fails∧D'.crashes=D.crashes)
 (hs:RowOf (w.setCell ⟨d,i,none⟩ u) 0 191 64 b'.vs (D'.sec.map dX)) (hp:RowOf (w.setCell ⟨d,i,none⟩ u) 0 275 65 b'.vo (D'.opn.map sG)):Dk (w.setCell ⟨d,i,none⟩ u) d b' D':=by
 have ap:=h.apart;have hk:∀g,g≠d→(w.setCell ⟨d,i,none⟩ u).heap[g]? =w.heap[g]? :=fun g hg=>heap_setCell_other w _ g u hg
 have hz:w.heap.size≤(w.setCell ⟨d,i,none⟩ u).heap.size:=by simp[World.setCell]
 refine⟨ho,?_,hs,hp,?_,?_,?_,by rw[hl,hf,hc];exact h.ne,fun k=>?_⟩
 ·rw[hb];exact heap_setCell_same w d i _ _ u h.blk
 ·rw[hl,hn,he.1];exact h.last.of_block (hk _ (Ne.symm ap.2.2.1))
 ·rw[hf,hn,he.2.1];exact h.fails.of_block (hk _ (Ne.symm ap.2.2.2.1))
 ·rw[hc,hn,hcm];exact h.crashes.of_block (hk _ (Ne.symm ap.2.2.2.2))
 ·rw[he.2.2,hcm]
  rcases h.cuts k with hx|⟨l,v,h1,h2,h3⟩
  ·exact .inl hx
  ·refine .inr ⟨l,v,h1,h2,(h3.keep hz fun g _ hS=>hk g fun e=>hS (.inl e)).mono fun g _ hS hc=>hS (hF g hc)⟩
theorem zK (d:Nat) (b:Dsk.B) (D:Dsk.D) (w:World) (h:Dk w d b D):Calls Tryz.prog 50 #[.pointer (some ⟨d,0,none⟩)] w fun e w'=>e= .returned (.tuple #[])∧Dk w' d b { D with down:=false}∧w.grownBy w' (some d):=by
 obtain⟨⟨_,_,_,c3,_⟩,⟨_,_,_,f3,_⟩⟩:=cW h.blk;have H:=aD h;clear h;go_enter Tryz.func50,Tryz.ntmps50;go_wp2
 all_goals
  go_end0;have h:=H.out;have ap:=h.apart;refine⟨rfl,h.cell b 3 (.bool false) rfl (fun g hg=>hg) ⟨h.ok.sec,h.ok.opn,h.ok.len,h.ok.steps,h.ok.room⟩ rfl rfl rfl rfl rfl ⟨rfl,rfl,rfl⟩ ?_ ?_,bA (aE _ _) _ _⟩
  ·exact h.sec.of_block fun g hg=>heap_setCell_other w _ g _ (ap.1 g hg).1
  ·exact h.opn.of_block fun g hg=>heap_setCell_other w _ g _ (ap.2.1 g hg).1
end Go.Proofs.YtcoolgnlhheaiaaGreatDoor
namespace Go.Proofs.YtcoolgnlhheaiaaGreatDoor
open Go.RowKit Go.Deep
set_option linter.all false
set_option maxRecDepth 100000
set_option maxHeartbeats 1000000
theorem Kd.right_cases (K:Kd):(decide (0≤K.start)=false∧K.right=false)∨(decide (0≤K.start)=true∧decide (K.start≤K.stop)=false∧K.right=false)∨(decide (0≤K.start)=true∧decide (K.start≤K.stop)=true∧decide (K.stop≤1099511627776)=false∧K.right=false)∨
 (decide (0≤K.start)=true∧decide (K.start≤K.stop)=true∧decide (K.stop≤1099511627776)=true∧decide (0≤K.time)=false∧K.right=false)∨
 (decide (0≤K.start)=true∧decide (K.start≤K.stop)=true∧decide (K.stop≤1099511627776)=true∧decide (0≤K.time)=true∧decide (K.time≤1099511627776)=K.right):=by
 unfold Kd.right
 by_cases a1:0≤K.start<;>by_cases a2:K.start≤K.stop<;>by_cases a3:K.stop≤1099511627776<;>by_cases a4:0≤K.time<;>simp[a1,a2,a3,a4]
theorem oD (K:Kd) (w:World):Calls Tryz.prog 12 #[.agg (iI K)] w fun e w'=>e= .returned (.bool K.right)∧w.grownBy w' none:=by
 have hc:=K.right_cases;unfold iI;generalize K.right=R at*;have gr:=aG (aE w none) (.cells #[.int .i64 K.client,.int .i64 K.other,.int .i64 K.start,.int .i64 K.stop,.int .i64 K.time,.int .u32 (K.seq:Int),.bool K.foreign,.int .u16 (K.spoil:Int)] 47);have hb:=Hb.new w #[.int .i64 K.client,.int .i64 K.other,.int .i64 K.start,.int .i64 K.stop,.int .i64 K.time,.int .u32 (K.seq:Int),.bool K.foreign,.int .u16 (K.spoil:Int)] 47;have GR:=aD gr;have c2:=hb.cell (i:=2) rfl;have c3:=hb.cell (i:=3) rfl;have c4:=hb.cell (i:=4) rfl;clear gr hb;go_enter Tryz.func12,Tryz.ntmps12;go_upto_region 1 with fail;generalize w.alloc (.cells #[.int .i64 K.client,.int .i64 K.other,.int .i64 K.start,.int .i64 K.stop,.int .i64 K.time,.int .u32 (K.seq:Int),.bool K.foreign,.int .u16 (K.spoil:Int)] 47)=W at*;simp only[List.getElem_toArray,List.getElem_cons_zero,List.getElem_cons_succ] at c2 c3 c4;generalize K.start=a at*;generalize K.stop=b at*;generalize K.time=c at*;rcases hc with ⟨h1,hR⟩|⟨h1,h2,hR⟩|⟨h1,h2,h3,hR⟩|⟨h1,h2,h3,h4,hR⟩|⟨h1,h2,h3,h4,hR⟩
 ·subst hR
  go_wp2_with fail;go_ret;exact⟨rfl,GR.out⟩
 ·subst hR
  go_wp2_with fail;go_ret;exact⟨rfl,GR.out⟩
 ·subst hR
  go_wp2_with fail;go_ret;exact⟨rfl,GR.out⟩
 ·subst hR
  go_wp2_with fail;go_ret;exact⟨rfl,GR.out⟩
 ·have HR:=aD hR
  clear hR;go_wp2_with fail;go_ret;exact⟨by rw[←HR.out];rfl,GR.out⟩
end Go.Proofs.YtcoolgnlhheaiaaGreatDoor
namespace Go.Proofs.YtcoolgnlhheaiaaGreatDoor
open Go.RowKit Go.Deep Go.Maps Go.ChangeMaps Go.MapKept Go.WideShapes
open Go.Sort (grow grow_grow alloc_eq_grow SWO)
set_option linter.all false
set_option maxRecDepth 100000
set_option maxHeartbeats 1000000
def aBK (l m:List Nat):Int:=if Idx.ltB l m then -1 else if Idx.ltB m l then 1 else 0
theorem zQ:∀{l m:List Nat},AllB l→AllB m→Lib.compareBytes (l.map UInt8.ofNat) (m.map UInt8.ofNat)=aBK l m
 |[],[],_,_=>rfl
 |[],_::_,_,_=>rfl
 |_::_,[],_,_=>rfl
 |a::l,b::m,hl,hm=>by
  have ha:a<256:=hl a (by simp);have hb:b<256:=hm b (by simp);have h1:(UInt8.ofNat a<UInt8.ofNat b)↔a<b:=by
   rw[UInt8.lt_iff_toNat_lt];simp[Nat.mod_eq_of_lt ha,Nat.mod_eq_of_lt hb]
  have h2:(UInt8.ofNat b<UInt8.ofNat a)↔b<a:=by
   rw[UInt8.lt_iff_toNat_lt];simp[Nat.mod_eq_of_lt ha,Nat.mod_eq_of_lt hb]
  rw[List.map_cons,List.map_cons];unfold Lib.compareBytes;rw[zQ (l:=l) (m:=m) (fun x hx=>hl x (by simp[hx])) (fun x hx=>hm x (by simp[hx]))];simp only[h1,h2];unfold aBK;simp only[Idx.ltB];rcases Nat.lt_trichotomy a b with h|h|h
  ·have e1:¬b<a:=by omega
   have e2:a≠b:=by omega
   simp[h]
  ·subst h;simp
  ·have e1:¬a<b:=by omega
   have e2:¬a=b:=by omega
   have e3:¬b=a:=by omega
   simp[h,e1,e2]
theorem jV {w:World} {l:List Nat} (hl:AllB l):∀(n k:Nat) (x:Addr) (acc:ByteArray),k+n=l.length→(∀i,i<l.length→w.cell? (x.add i)=some (bv (l.getD i 0)))→acc.data.toList=(l.take k).map UInt8.ofNat→
 ∃r:ByteArray,(Extern.Bytes.loadBytes (x.add k) n acc).run Tryz.prog w= .ok r w∧r.data.toList=l.map UInt8.ofNat
 |0,k,x,acc,hk,_,ha=>⟨acc,rfl,by rw[ha,List.take_of_length_le (by omega)]⟩
 |n+1,k,x,acc,hk,hc,ha=>by
  have hkl:k<l.length:=by omega
  have hcell:=hc k hkl
  obtain⟨r,h1,h2⟩:=jV hl n (k+1) x (acc.push (l.getD k 0).toUInt8) (by omega) hc (by
   have hp:∀b:UInt8,(acc.push b).data.toList=acc.data.toList++[b]:=fun b=>by simp[ByteArray.push]
   rw[hp,ha,List.take_add_one,List.map_append,List.getElem?_eq_getElem hkl]
   simp only[Option.toList_some,List.map_cons,List.map_nil,List.getD,List.getElem?_eq_getElem hkl,Option.getD_some])
  refine⟨r,?_,h2⟩;unfold Extern.Bytes.loadBytes;rw[Sem.run_bind];have hload:(load (x.add k)).run Tryz.prog w= .ok (bv (l.getD k 0)) w:=by simp[hcell]
  rw[hload];have e:(x.add k).add 1=x.add (k+1):=by simp[Addr.add_add]
  simp only[Result.andThen,bv];rw[e]
  simpa using h1
theorem l6 {w:World} {v:Value} {l:List Nat} (h:Rs w v l):∃r:ByteArray,(Extern.Bytes.bytesOf v).run Tryz.prog w= .ok r w∧r.data.toList=l.map UInt8.ofNat:=by
 obtain⟨ha,_,⟨rfl,rfl⟩|⟨x,cap,rfl,_,hc⟩⟩:=h
 ·exact⟨.empty,rfl,rfl⟩
 ·obtain⟨r,h1,h2⟩:=jV ha l.length 0 x .empty (by omega) hc rfl
  refine⟨r,?_,h2⟩;show(Extern.Bytes.loadBytes x l.length .empty).run Tryz.prog w=_;have e:x.add 0=x:=by cases x;simp[Addr.add]
  rwa [e] at h1
theorem vY {w:World} {u v:Value} {l m:List Nat} (hu:Rs w u l) (hv:Rs w v m):(Extern.BytealgCompare.compare #[u,v]).run Tryz.prog w= .ok (.int .i64 (aBK l m)) w:=by
 obtain⟨r,h1,h2⟩:=l6 hu;obtain⟨s,h3,h4⟩:=l6 hv;change Sem.run Tryz.prog (do pure (goInt (Extern.BytealgCompare.cmp (←Extern.Bytes.bytesOf u) (←Extern.Bytes.bytesOf v)))) w=_;simp only[Sem.run_bind,Sem.run_pure,h1,h3,Result.andThen];rw[Lib.cmp_eq,h2,h4,zQ hu.1 hv.1];rfl
theorem rC (u v:Value) (l m:List Nat) (w:World) (hu:Rs w u l) (hv:Rs w v m):
 Calls Tryz.prog 161 #[u,v] w fun e w'=>e= .returned (.int .i64 (aBK l m))∧w=w':=by
 have hr:=vY hu hv;clear hu hv;go_enter Tryz.func161,Tryz.ntmps161;go_wp2;rw[run_callFunc_extern Tryz.func222 (by kernel_rfl) (by kernel_rfl) (by kernel_rfl) (e:=Extern.BytealgCompare.compare) (by kernel_rfl),hr];simp only[Result.andThen];rw[Oper.upon_value];go_wp2;go_ret;exact⟨rfl,rfl⟩
def nE (x y:Int):Int:=if x<y then -1 else if y<x then 1 else 0
theorem aF7 (x:Int) (w:World):Calls Tryz.prog 221 #[.int .i64 x] w fun e w'=>e= .returned (.bool false)∧w=w':=by
 go_enter Tryz.func221,Tryz.ntmps221;go_wp2;go_ret;exact⟨by simp,rfl⟩
theorem rF (x y:Int) (w:World):Calls Tryz.prog 160 #[.int .i64 x,.int .i64 y] w fun e w'=>e= .returned (.int .i64 (nE x y))∧w=w':=by
 have h1:=fun z=>aF7 z w
 have hc:(decide (x<y)=true∧nE x y= -1)∨(decide (x<y)=false∧decide (y<x)=true∧nE x y=1)∨(decide (x<y)=false∧decide (y<x)=false∧nE x y=0):=by
  unfold nE;rcases Int.lt_trichotomy x y with h|h|h
  ·exact .inl ⟨by simpa using h,if_pos h⟩
  ·subst h;exact .inr (.inr ⟨by simp,by simp,by simp⟩)
  ·exact .inr (.inl ⟨by simp;omega,by simpa using h,by rw[if_neg (by omega),if_pos h]⟩)
 rcases hc with ⟨a,c⟩|⟨a,b,c⟩|⟨a,b,c⟩
 all_goals
  rw[c];clear c;go_enter Tryz.func160,Tryz.ntmps160;go_wp2_with (go_at_call 221;refine(h1 _).mono ?_;rintro e w' ⟨rfl,rfl⟩);go_ret;exact⟨rfl,rfl⟩
def yV (a b:bC):Int:=if Idx.lt a b then -1 else if Idx.lt b a then 1 else 0
theorem aFZ {a b:bC} (h:nE a.exp b.exp≠0):yV a b=nE a.exp b.exp:=by
 unfold yV nE Idx.lt at*;rcases Int.lt_trichotomy a.exp b.exp with k|k|k
 ·simp[k]
 ·simp[k] at h
 ·have k1:¬a.exp<b.exp:=by omega
  have k2:¬a.exp=b.exp:=by omega
  simp[k,k1,k2]
theorem aE8 {a b:bC} (h:nE a.exp b.exp=0):yV a b=aBK a.dig b.dig:=by
 unfold nE at h;have k:a.exp=b.exp:=by
  rcases Int.lt_trichotomy a.exp b.exp with k|k|k
  ·rw[if_pos k] at h;cases h
  ·exact k
  ·rw[if_neg (by omega),if_pos k] at h;cases h
 unfold yV aBK Idx.lt;simp[k]
theorem aIM {w:World} {g:Nat} {e:bC} {t:TypeId} (hb:Hb w g (ev e) t) (ho:Frm.okE e):Rs w (.slice (some ⟨g,0,none⟩) 32 32) e.dig:=by
 refine⟨ho.2,by rw[ho.1];omega,.inr ⟨⟨g,0,none⟩,32,by rw[ho.1],by rw[ho.1];omega,fun i hi=>?_⟩⟩;rw[ho.1] at hi;rw[Addr.add_mid,Nat.zero_add];exact hb.cell (lD e hi)
theorem aBI (w:World) (os:Array Obj) (n:Nat):(grow w os).drewN n=grow (w.drewN n) os:=rfl
theorem sD (a b:bC) (w:World) (ha:Frm.okE a) (hb:Frm.okE b):
 Calls Tryz.prog 110 #[.agg (ev a),.agg (ev b)] w fun e w'=>e= .returned (.int .i64 (yV a b))∧∃q os',w'=grow (w.drewN q) os':=by
 have h1:=(Hb.new w (ev a) 73).alloc (.cells (ev b) 73);have h2:=Hb.new (w.alloc (.cells (ev a) 73)) (ev b) 73;rw[World.size_alloc] at h2;have hs1:=bP a;have hs2:=bP b;have c1:=h1.cell (d9 a);have c2:=h2.cell (d9 b);have r1:=aD (aIM h1 ha);have r2:=aD (aIM h2 hb);have HG:Hid ((w.alloc (.cells (ev a) 73)).alloc (.cells (ev b) 73)=grow w (#[.cells (ev a) 73]++#[.cells (ev b) 73])):=aD (by rw[alloc_eq_grow,alloc_eq_grow,grow_grow]);have hc:=fun W=>rF a.exp b.exp W
 have HE:=aD (@aFZ a b);have HD:=aD (@aE8 a b);generalize hR:nE a.exp b.exp=R at*;go_enter Tryz.func110,Tryz.ntmps110;go_upto_region 1 with fail;generalize hV:(w.alloc (.cells (ev a) 73)).alloc (.cells (ev b) 73)=V at*;clear h1 h2 hV hR;go_upto_region 2 with (go_at_call 160;refine(hc _).mono ?_;rintro e w' ⟨rfl,rfl⟩)
 by_cases h0:R=0
 ·subst h0
  have hb:=rC _ _ _ _ (V.drewN 1) (r1.out.below (aU (Below.refl _ _) 1)) (r2.out.below (aU (Below.refl _ _) 1));have hD:=aD (HD.out rfl);have hgl:=aD (aBI w (#[.cells (ev a) 73]++#[.cells (ev b) 73]) 1);clear HE HD r1 r2 hc;go_upto_region 4 with fail;go_still_tail 4,(by kernel_rfl);change wpList _ _ _ _ _ (V.drewN 1);generalize hW:V.drewN 1=W at*;have HW:=aD hW;clear hW;go_wp2_with (go_at_call 161;refine hb.mono ?_;clear hb;rintro e w' ⟨rfl,rfl⟩);go_ret;exact⟨by rw[hD.out];rfl,1,_,by rw[←HW.out,HG.out];rfl⟩
 ·have hd:(R !=0)=true:=by simpa using h0
  have hE:=aD (HE.out h0);clear HE HD h0;go_wp2_with fail;go_ret;exact⟨by rw[hE.out];rfl,0,_,HG.out⟩
end Go.Proofs.YtcoolgnlhheaiaaGreatDoor
