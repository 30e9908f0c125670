import Derived.Carry
import Derived.Test.YtcoolgnlhheaiaaGreatDoorG36
import Derived.Test.YtcoolgnlhheaiaaGreatDoorG38
import Derived.Test.YtcoolgnlhheaiaaGreatDoorG40
import Derived.Test.YtcoolgnlhheaiaaGreatDoorG41
import Derived.Test.YtcoolgnlhheaiaaGreatDoorG42
namespace Go.Proofs.YtcoolgnlhheaiaaGreatDoor
open Go.RowKit Go.Deep Go.Maps Go.ChangeMaps Go.MapKept Go.WideShapes
set_option linter.all false
set_option maxRecDepth 100000
set_option maxHeartbeats 1000000
theorem aB6 (z:Array Value) (n k:Nat) (hk:z.size=k) (h0:0<k):(madeCells z (n*k)).toList=(List.replicate n z.toList).flatten:=by
 have hl:∀x∈List.replicate n z.toList,x.length=k:=fun x hx=>by rw[(List.mem_replicate.1 hx).2];simpa using hk
 apply List.ext_getElem?;intro m
 by_cases hm:m<n*k
 ·obtain⟨q,j,rfl,hj⟩:∃q j,m=q*k+j∧j<k:=⟨m / k,m % k,by rw[Nat.mul_comm];exact(Nat.div_add_mod m k).symm,Nat.mod_lt _ h0⟩
  have hq:q<n:=by
   rcases Nat.lt_or_ge q n with h'|h'
   ·exact h'
   ·have:=Nat.mul_le_mul_right k h';omega
  rw[gJ hl (i:=q) (x:=z.toList) (by rw[List.getElem?_replicate,if_pos hq]) hj,Array.getElem?_toList,Array.getElem?_toList];have e:(q*k+j) % z.size=j:=by rw[hk,Nat.mul_comm,Nat.mul_add_mod];exact Nat.mod_eq_of_lt hj
  unfold madeCells;rw[Array.getElem?_map,Array.getElem?_eq_getElem (by simpa using hm),Array.getElem_range];simp only[Option.map_some];rw[e,Array.getElem?_eq_getElem (by omega),getElem!_pos z j (by omega)]
 ·have hs:(madeCells z (n*k)).toList.length=n*k:=by rw[Array.length_toList,size_madeCells]
  rw[List.getElem?_eq_none (by omega),List.getElem?_eq_none (by rw[flat_len hl];simp;omega)]
theorem aHT:(Tryz.prog.info? 191).map (fun i=>(i.zero.map (·.cells),i.size,i.bytes))=some (some (aH .u8 64 (aT (List.replicate 64 0))),64,64):=by kernel_rfl
theorem aBR {w:World} {ops:Array Oper} {rest:List Oper} {o:Oper} {a:Act} {Q:Exit→Act→World→Prop} (hgd:o.guard=none) (x:Operand) (ho:o.op= .makeSlice 83 x x) (n:Nat) (hx:a.eval x= .int .i64 (n:Int)) (hn:n≤4096)
 (h:∀w',RowOf w' w.heap.size 191 64 (.slice (some ⟨w.heap.size,0,none⟩) n n) ((List.replicate n (List.replicate 64 0)).map dX)→w.grownBy w' none→wpList Tryz.prog ops Q rest (a.put o.dst (.slice (some ⟨w.heap.size,0,none⟩) n n)) w'):wpList Tryz.prog ops Q (o::rest) a w:=by
 have hzs:=aHT
 cases hi:Tryz.prog.info? 191 with
 |none=>rw[hi] at hzs;cases hzs
 |some i=>
  rw[hi] at hzs;simp only[Option.map_some,Option.some.injEq,Prod.mk.injEq] at hzs
  cases hz:i.zero with
  |none=>rw[hz] at hzs;cases hzs.1
  |some z=>
   rw[hz] at hzs;simp only[Option.map_some,Option.some.injEq] at hzs;obtain⟨hc,hs,hb⟩:=hzs;obtain⟨w',hr,hown,hgr⟩:=run_makeSlice_full (P:=Tryz.prog) (w:=w) w.heap.size 83 191 i z 64 Tryz.underlying83 hi hz hs .i64 .i64 n (by omega) (by rw[hb];omega) (by unfold maxLen;omega) (Nat.le_refl _);rw[hc,aB6 _ n 64 (aA _ _ _) (by omega)] at hown;refine wpList_plain hgd fun K hK=>?_
   unfold Oper.wp execOp;simp only[ho,hx,Sem.run_bind,hr,Result.andThen_ok,Sem.run_pure];refine hK _ _ (h w' ⟨fun y hy=>?_,fun y hy=>?_,?_⟩ hgr)
   ·obtain⟨s,_,rfl⟩:=List.mem_map.1 hy;exact uR s
   ·obtain⟨s,_,rfl⟩:=List.mem_map.1 hy;exact mZ s
   ·rw[List.map_replicate,List.length_replicate];exact hown
def Dsk.fresh (n:Nat):Dsk.D:={ sec:=List.replicate n (List.replicate 64 0),opn:=[],down:=false,steps:=0,fails:=fun _=>false,crashes:=fun _=>none,n:=0}
theorem Dsk.fresh_ok {n:Nat} (h:n≤4096):Dsk.ok (Dsk.fresh n):=
 ⟨fun s hs=>by rw[(List.mem_replicate.1 hs).2];exact⟨by simp,AllB.replicate _ _ (by omega)⟩,by simp[Dsk.fresh],by simp[Dsk.fresh],by simp[Dsk.fresh],by simp[Dsk.fresh];exact h⟩
theorem wK:(fun _=>none:Go.Lit→Option Value)=dB (fun _=>none):=by
 funext kl;unfold dB;split<;>rfl
def xW (n:Nat) (w:World) (e:Ending) (w':World):Prop:=∃d b,e= .returned (.pointer (some ⟨d,0,none⟩))∧Dk w' d b (Dsk.fresh n)∧w.grownBy w' none∧∀i,b.F d i→w.heap.size≤i
theorem tA (n:Nat) (w:World) (hn:n≤4096):Calls Tryz.prog 32 #[.int .i64 (n:Int)] w (xW n w):=by
 have hmk:=fun(t:TypeId) (wx:World)=>run_makeMap (P:=Tryz.prog) t wx
 go_enter Tryz.func32,Tryz.ntmps32;go_wp2_with (refine aBR rfl _ rfl n rfl hn ?_;intro w1 r1 g1)
 all_goals first|omega|skip
 go_ret;clear hmk;have h1:=g1.size;have hs:=(r1.lt (g:=w.heap.size) rfl).2;have m1:=MapIs.made w1 3;have m2:=MapIs.made (w1.alloc (.map #[] 0)) 3;have m3:=MapIs.made ((w1.alloc (.map #[] 0)).alloc (.map #[] 0)) 3;rw[wK] at m1 m2 m3;simp only[World.size_alloc] at m2 m3;have hg:=aG (aG (aG (aG g1 (.map #[] 0)) (.map #[] 0)) (.map #[] 0)) (.cells #[.slice (some ⟨w.heap.size,0,none⟩) n n,.slice none 0 0,.map (some w1.heap.size),.bool false,.int .i64 0,.map (some (w1.heap.size+1)),.map (some (w1.heap.size+1+1))] 120);have hk:=Hb.new (((w1.alloc (.map #[] 0)).alloc (.map #[] 0)).alloc (.map #[] 0)) #[.slice (some ⟨w.heap.size,0,none⟩) n n,.slice none 0 0,.map (some w1.heap.size),.bool false,.int .i64 0,.map (some (w1.heap.size+1)),.map (some (w1.heap.size+1+1))] 120;simp only[World.size_alloc] at hk;have z1:(w1.alloc (.map #[] 0)).heap.size=w1.heap.size+1:=World.size_alloc _ _;have z2:((w1.alloc (.map #[] 0)).alloc (.map #[] 0)).heap.size=w1.heap.size+1+1:=by rw[World.size_alloc,z1]
 have z3:(((w1.alloc (.map #[] 0)).alloc (.map #[] 0)).alloc (.map #[] 0)).heap.size=w1.heap.size+1+1+1:=by rw[World.size_alloc,z2]
 have hl:dB (fL [])=dB (fun _=>none):=by rw[qW,wK]
 refine⟨w1.heap.size+1+1+1,⟨.slice (some ⟨w.heap.size,0,none⟩) n n,.slice none 0 0,w1.heap.size,w1.heap.size+1,w1.heap.size+1+1,fun _=>none⟩,rfl,⟨Dsk.fresh_ok hn,hk,?_,RowOf.nil _ _ _ _,?_,?_,?_,⟨by dsimp only;omega,by dsimp only;omega,by dsimp only;omega⟩,fun k=>.inl ⟨rfl,rfl⟩⟩,hg,fun i hi=>?_⟩
 ·refine(r1.mono (Nat.zero_le _)).of_block fun g hgg=>?_
  have:=(r1.lt hgg).2;rw[Below.heap_alloc _ _ _ (by omega),Below.heap_alloc _ _ _ (by omega),Below.heap_alloc _ _ _ (by omega),Below.heap_alloc _ _ _ (by omega)]
 ·show MapIs _ _ _ _ (dB (fL []))
  rw[hl];exact m1.of_block (by rw[Below.heap_alloc _ _ _ (by omega),Below.heap_alloc _ _ _ (by omega),Below.heap_alloc _ _ _ (by omega)])
 ·exact m2.of_block (by rw[Below.heap_alloc _ _ _ (by omega),Below.heap_alloc _ _ _ (by omega)])
 ·exact m3.of_block (by rw[Below.heap_alloc _ _ _ (by omega)])
 ·rcases hi with h|h|h|h|h|h
  ·omega
  ·simp[Value.ownBlock] at h;omega
  ·cases h
  ·simp at h;omega
  ·simp at h;omega
  ·simp at h;omega
set_option linter.all false
end Go.Proofs.YtcoolgnlhheaiaaGreatDoor
