import Derived.DeepKeys4
import Derived.Test.YtcoolgnlhheaiaaGreatDoorG22
namespace Go.Proofs.YtcoolgnlhheaiaaGreatDoor
open Go.RowKit Go.Deep Go.Maps Go.ChangeMaps Go.MapKept Go.WideShapes
set_option linter.all false
set_option maxRecDepth 100000
theorem aE5:laidOutB Tryz.prog=true:=by kernel_rfl
theorem aGD:(36:TypeId)<Tryz.prog.types.size:=of_decide_eq_true (by kernel_rfl)
theorem digK:Keyed Tryz.prog 36:=Keyed.of_law (deep_law_laid aE5 (m:=2) (by omega) aGD (by kernel_rfl) (by rw[Tryz.underlying36]))
def eC (d:List Nat):Go.Lit:=.string (d.map UInt8.ofNat)
theorem nN {α β:Type} {f:α→Option β} {g:α→β}:∀{l:List α},(∀x∈l,f x=some (g x))→l.mapM f=some (l.map g)
 |[],_=>rfl
 |x::l,h=>by
  rw[List.mapM_cons,h x (by simp),nN (l:=l) (fun y hy=>h y (by simp[hy]))];rfl
theorem aKE {x:Nat} (h:x<256):(Go.Lit.int .u8 (x:Int)).wf=true:=by
 have a1:IntKind.u8.min=0:=by decide
 have a2:IntKind.u8.max=255:=by decide
 simp[Go.Lit.wf,a1,a2];omega
theorem aBE:∃n,Tryz.prog.types.size+1=n+2:=⟨Tryz.prog.types.size - 1,by have h:(36:Nat)<Tryz.prog.types.size:=aGD;omega⟩
theorem sI {d:List Nat} (h:d.length=32) (hb:AllB d):keyOf Tryz.prog 36 (.agg (aH .u8 32 (aT d)))=some (eC d):=by
 have hkt:Tryz.prog.keyType 36=true:=by kernel_rfl
 have hce:Tryz.prog.cellsOf 36=32:=by kernel_rfl
 have hc1:Tryz.prog.cellsOf 5=1:=by kernel_rfl
 have hfm:(Value.agg (aH .u8 32 (aT d))).formed Tryz.prog 36=true:=by
  unfold Value.formed;simp only[Tryz.underlying36];rw[aA,hce];rfl
 have hlt:∀i,aT d i<256:=fun i=>hb.get i
 obtain⟨n,hn⟩:=aBE;have hkl:Tryz.prog.keyLits (Tryz.prog.types.size+1) 36 (Value.agg (aH .u8 32 (aT d))).cells.toList=some ((List.range 32).map fun i=>Go.Lit.int .u8 (aT d i:Int)):=by
  rw[hn];unfold Program.keyLits;simp only[Tryz.underlying36];have hl:(Value.agg (aH .u8 32 (aT d))).cells.toList=(List.range 32).map fun i=>Value.int .u8 (aT d i:Int):=by simp[Value.cells,aH]
  rw[hl,hce,hc1,if_pos (by simp)];rw[nN (g:=fun i=>[Go.Lit.int .u8 (aT d i:Int)]) (fun i hi=>?_)]
  ·rw[Option.map_some]
   congr 1
  ·have hi:i<32:=List.mem_range.1 hi
   have ht:(((List.range 32).map fun i=>Value.int .u8 (aT d i:Int)).drop (i*1)).take 1=[.int .u8 (aT d i:Int)]:=by
    rw[Nat.mul_one,List.take_one,List.head?_drop];simp[hi]
   rw[ht];unfold Program.keyLits;simp only[Tryz.underlying5,aKE (hlt i),and_self,if_true]
 unfold keyOf;simp only[Tryz.underlying36,hkt,hfm,Bool.and_self,if_true,hkl,Option.map_some];have hkb:∀i,Go.Lit.keyBytes (.int .u8 (aT d i:Int))=[UInt8.ofNat (aT d i)]:=fun i=>by
  have:=hlt i;have e:((aT d i:Int) % 2 ^ 8).toNat=aT d i:=by omega
  show bytesBE (8 / 8) ((aT d i:Int) % 2 ^ 8).toNat=_;rw[e];simp[bytesBE,bytesLE,Nat.mod_eq_of_lt this]
 unfold eC keyBytes;congr 2;rw[List.flatMap_map];rw[show(fun i=>Go.Lit.keyBytes (.int .u8 (aT d i:Int)))=fun i=>[UInt8.ofNat (aT d i)] from funext hkb];rw[←List.map_eq_flatMap];refine List.ext_getElem (by simp[h]) fun i h1 h2=>?_
 simp[aT,List.getD,h] at h1 ⊢;rw[List.getElem?_eq_getElem (by omega),Option.getD_some]
def jZ (bs:List UInt8):List Nat:=bs.map (·.toNat)
theorem j8 {d:List Nat} (h:AllB d):jZ (d.map UInt8.ofNat)=d:=by
 unfold jZ;rw[List.map_map]
 conv=>rhs;rw[←List.map_id d]
 refine List.map_congr_left fun x hx=>?_
 have:=h x hx;simp[Nat.mod_eq_of_lt this]
theorem oO (bs:List UInt8):eC (jZ bs)= .string bs:=by
 unfold eC jZ;rw[List.map_map]
 conv=>rhs;rw[←List.map_id bs]
 congr 1;exact List.map_congr_left fun x _=>by simp
def iG (X:List bC):Go.Lit→Option Value
 | .string bs=>(Idx.get X (jZ bs)).map fun x=>.int .i64 x
 |_=>none
theorem lB (X:List bC) {d:List Nat} (h:AllB d):iG X (eC d)=(Idx.get X d).map fun x=>.int .i64 x:=by
 show(Idx.get X (jZ (d.map UInt8.ofNat))).map _=_;rw[j8 h]
theorem kL {bs:List UInt8} {d:List Nat} (h:AllB d):Go.Lit.string bs=eC d↔jZ bs=d:=by
 constructor
 ·intro e
  unfold eC at e;injection e with e
  rw[e,j8 h]
 ·rintro rfl;exact(oO bs).symm
theorem aDT:iG []=fun _=>none:=by
 funext kl
 cases kl<;>rfl
theorem aFO {X:List bC} (hX:Idx.ok X) {e:bC} (h:AllB e.dig) (hp:Idx.puts X e=true):m9 (iG X) (eC e.dig) (.int .i64 e.exp)=iG (Idx.put X e):=by
 funext kl;unfold m9
 cases kl with
 |string bs=>
  show _=(Idx.get (Idx.put X e) (jZ bs)).map _;rw[Idx.get_put hX]
  by_cases hb:jZ bs=e.dig
  ·rw[if_pos ((kL h).2 hb),if_pos ⟨hp,hb⟩];rfl
  ·rw[if_neg (fun c=>hb ((kL h).1 c)),if_neg (fun c=>hb c.2)];rfl
 |_=>exact if_neg (by unfold eC;intro c;cases c)
structure Ix (w:World) (x m n:Nat) (X:List bC):Prop where
 ok:Idx.ok X
 all:∀e∈X,Frm.okE e
 len:X.length≤n
 blk:Hb w x #[.map (some m)] 212
 map:MapIs w 36 m n (iG X)
end Go.Proofs.YtcoolgnlhheaiaaGreatDoor
