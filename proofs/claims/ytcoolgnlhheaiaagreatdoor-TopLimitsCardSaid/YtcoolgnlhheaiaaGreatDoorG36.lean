import Derived.ScopeJumps
import Derived.Test.YtcoolgnlhheaiaaGreatDoorG30
import Derived.Test.YtcoolgnlhheaiaaGreatDoorG35
namespace Go.Proofs.YtcoolgnlhheaiaaGreatDoor
open Go.RowKit Go.Deep Go.Maps Go.ChangeMaps Go.MapKept Go.WideShapes
set_option linter.all false
set_option maxRecDepth 100000
set_option maxHeartbeats 1000000
theorem aG9 (w:World):(zeroValue 2).run Tryz.prog w= .ok (.int .i64 0) w:=by kernel_rfl
theorem bU (f:Nat→Nat):(Tryz.prog.info? 36).map (·.size)=some (aH .u8 32 f).size:=by rw[aA];kernel_rfl
theorem Ix.keep {w w':World} {x m n:Nat} {X:List bC} (h:Ix w x m n X) {r:Option Nat} (g:w.grownBy w' r) (h1:r≠some x) (h2:r≠some m):Ix w' x m n X:=
 ⟨h.ok,h.all,h.len,h.blk.keep g (Ne.symm h1),h.map.of_block (g.block m h.map.lt (Ne.symm h2))⟩
theorem Ix.only {w w':World} {x m n:Nat} {X:List bC} (h:Ix w x m n X) (g:w.grownBy w' none):Ix w' x m n X:=h.keep g (by simp) (by simp)
theorem lJ {w:World} {g:Nat} {cs:Array Value} {t:TypeId} (hb:Hb w g cs t):∀j v,cs[j]? =some v→w.cell? ((⟨g,0,none⟩:Addr).add j)=some v:=fun j v hj=>by
 rw[Addr.add_mid,Nat.zero_add];exact hb.cell hj
theorem yZ {w:World} {g:Nat} {e:bC} {t:TypeId} {dg:List Nat} (hb:Hb w g (ev e) t) (hdg:dg=e.dig):∀j v,(aH .u8 32 (aT dg))[j]? =some v→w.cell? ((⟨g,0,none⟩:Addr).add j)=some v:=fun j v hj=>by
 rw[Addr.add_mid,Nat.zero_add];have hj':j<32:=by have:=(Array.getElem?_eq_some_iff.1 hj).1;rwa [aA] at this
 rw[cJ _ _ _ _ hj'] at hj;rw[←Option.some.inj hj,hdg];exact hb.cell (lD e hj')
theorem zU {o:Oper} {a:Act} {w:World} {y z:Operand} {x m n:Nat} {X:List bC} {dg:List Nat} {R:Option Int} (hop:o.op=Op.lookup 210 y z true) (hm:a.eval y= .map (some m)) (hx:a.eval z= .agg (aH .u8 32 (aT dg))) (h:Ix w x m n X) (hl:dg.length=32) (hd:AllB dg) (hR:Idx.get X dg=R):
 (execOp a.eval o).run Tryz.prog w= .ok (.value (.tuple #[.int .i64 (R.getD 0),.bool R.isSome])) w:=by
 have hr:=h.map.look_ok digK Tryz.underlying210 (aG9 w) (sI hl hd);rw[lB X hd,hR] at hr;have hr':(Instr.lookup 210 (.map (some m)) (.agg (aH .u8 32 (aT dg))) true).run Tryz.prog w= .ok (.tuple #[.int .i64 (R.getD 0),.bool R.isSome]) w:=by
  rw[hr]
  cases R<;>rfl
 clear hr;simp[execOp,hop,hm,hx,hr',Result.andThen]
theorem aBG (x m n:Nat) (X:List bC) (dg:List Nat) (w:World) (h:Ix w x m n X) (hl:dg.length=32) (hd:AllB dg):
 Calls Tryz.prog 187 #[.pointer (some ⟨x,0,none⟩),.agg (aH .u8 32 (aT dg))] w fun e w'=>e= .returned (.tuple #[.int .i64 ((Idx.get X dg).getD 0),.bool (Idx.get X dg).isSome])∧w.grownBy w' none:=by
 have hb:=Hb.new w (aH .u8 32 (aT dg)) 36;have gr:=aG (aE w none) (.cells (aH .u8 32 (aT dg)) 36);have hs:=aA .u8 32 (aT dg);generalize hR:Idx.get X dg=R;go_enter Tryz.func187,Tryz.ntmps187;go_upto_region 3 with fail;generalize w.alloc (.cells (aH .u8 32 (aT dg)) 36)=W at*;generalize w.heap.size=bx at*;have g1:=aM gr 1;have HS:Hid (Ix (W.drewN 1) x m n X∧Hb (W.drewN 1) bx (aH .u8 32 (aT dg)) 36):=aD ⟨h.only g1,hb⟩;have GR:=aD g1;clear h hb gr g1;refine bO Tryz.f187 3 11 (fun w'=>Ix w' x m n X∧Hb w' bx (aH .u8 32 (aT dg)) 36) (by kernel_rfl) (by kernel_rfl) (by kernel_rfl) HS.out (fun K hK h0=>?_);refine aW (listed':=#[false,false,false,false,false,false,false,false,false,false,false]) (by kernel_rfl) rfl ?_;have HF:=aD hK;clear hK;refine aX 0 11 (Value.pointer (some ⟨x,0,none⟩)) (fun _ _=>by kernel_rfl) h0 ?_;simp only[Act.put,aJ,aK,aI];refine aX 1 12 (Value.pointer (some ⟨x,0,none⟩)) (fun _ _=>by kernel_rfl) h0 ?_;simp only[Act.put,aJ,aK,aI];refine aX 2 13 (Value.pointer (some ⟨x,0,none⟩)) (fun _ _=>by kernel_rfl) h0 ?_;simp only[Act.put,aJ,aK,aI];refine bD 3 14 (by kernel_rfl) 210 (.tmp 13) (by kernel_rfl) ⟨x,0,none⟩ (by kernel_rfl) (Value.map (some m)) _ (fun w' hw'=>hw'.1.blk.cell rfl) Tryz.underlying210 rfl h0 ?_;simp only[Act.put,aJ,aK,aI];refine bG 4 15 (by kernel_rfl) 36 (.tmp 3) (by kernel_rfl) ⟨bx,0,none⟩ (by kernel_rfl) (aH .u8 32 (aT dg)) _ (fun w' hw'=>lJ hw'.2) Tryz.underlying36 rfl (by kernel_rfl) h0 ?_;simp only[Act.put,aJ,aK,aI];refine aX 5 16 (Value.tuple #[.int .i64 (R.getD 0),.bool R.isSome]) (fun w' hw'=>zU (y:=.tmp 14) (z:=.tmp 15) (by kernel_rfl) (by kernel_rfl) (by kernel_rfl) hw'.1 hl hd hR) h0 ?_;simp only[Act.put,aJ,aK,aI];refine aX 6 10 (Value.tuple #[.int .i64 (R.getD 0),.bool R.isSome]) (fun _ _=>by kernel_rfl) h0 ?_;simp only[Act.put,aJ,aK,aI];refine aX 7 17 (.int .i64 (R.getD 0)) (fun _ _=>by kernel_rfl) h0 ?_;simp only[Act.put,aJ,aK,aI];refine aX 8 18 (.bool R.isSome) (fun _ _=>by kernel_rfl) h0 ?_;simp only[Act.put,aJ,aK,aI];refine aX 9 6 (.int .i64 (R.getD 0)) (fun _ _=>by kernel_rfl) h0 ?_;simp only[Act.put,aJ,aK,aI];refine aX 10 7 (.bool R.isSome) (fun _ _=>by kernel_rfl) h0 ?_;simp only[Act.put,aJ,aK,aI];refine aZ (by kernel_rfl) (HF.out _ _ ?_);go_wp2_with fail;go_ret2;exact⟨rfl,GR.out⟩
theorem aA6 (x m n:Nat) (X:List bC) (dg:List Nat) (now:Int) (w:World) (h:Ix w x m n X) (hl:dg.length=32) (hd:AllB dg):
 Calls Tryz.prog 118 #[.pointer (some ⟨x,0,none⟩),.agg (aH .u8 32 (aT dg)),.int .i64 now] w fun e w'=>e= .returned (.bool (Idx.has X dg now))∧w.grownBy w' none:=by
 have hb:=Hb.new w (aH .u8 32 (aT dg)) 36;have gr:=aG (aE w none) (.cells (aH .u8 32 (aT dg)) 36);have hs:=aA .u8 32 (aT dg);have hgt:=fun W (hW:w.grownBy W none)=>aBG x m n X dg W (h.only hW) hl hd
 unfold Idx.has;generalize hR:Idx.get X dg=R;rw[hR] at hgt;clear hR;go_enter Tryz.func118,Tryz.ntmps118;go_upto_region 1 with fail;generalize w.alloc (.cells (aH .u8 32 (aT dg)) 36)=W at*;have GR:=aD gr;generalize w.heap.size=bx at*;clear h
 go_upto_region 2 with (first
  |refine aS (by kernel_rfl) _ _ rfl bx rfl _ _ (0,0) _ hb rfl rfl (bU _) ?_
  |(go_at_call 187;refine(hgt W gr).mono ?_;clear hgt;rintro e w1 ⟨rfl,g1⟩))
 have G1:=aD (aF gr g1);clear gr g1 hb
 cases R with
 |none=>
  simp only[Option.getD_none,Option.isSome_none];go_wp2_with fail;go_ret;exact⟨rfl,G1.out⟩
 |some y=>
  simp only[Option.getD_some,Option.isSome_some];go_wp2_with fail;go_ret;exact⟨rfl,G1.out⟩
theorem Ix.more {w:World} {x m n:Nat} {X:List bC} (h:Ix w x m n X):Ix w x m (n+1) X:=⟨h.ok,h.all,Nat.le_succ_of_le h.len,h.blk,h.map.mono (Nat.le_succ n)⟩
theorem Ix.ne {w:World} {x m n:Nat} {X:List bC} (h:Ix w x m n X):x≠m:=by
 rintro rfl;obtain⟨_,_,hm⟩:=h.map.block;have:=h.blk;rw[show w.heap[x]? =_ from this] at hm
 cases hm
theorem aJI {w w2 w3:World} {x m n:Nat} {X:List bC} {e:bC} {dg:List Nat} (h:Ix w2 x m n X) (ho:Frm.okE e) (hdg:dg=e.dig) (hp:Idx.puts X e=true) (hm:MapIs w3 36 m (n+1) (m9 (iG X) (eC dg) (.int .i64 e.exp))) (ht:w2.mapTurned w3 m) (g:w.grownBy w2 none):Ix w3 x m (n+1) (Idx.put X e)∧w.grownBy w3 (some m):=by
 subst hdg;rw[aFO h.ok ho.2 hp] at hm;refine⟨⟨Idx.ok_put h.ok e,fun y hy=>?_,Nat.le_trans (Idx.put_len X e) (Nat.succ_le_succ h.len),(cC ht h.ne).trans h.blk,hm⟩,aF (aC (aB g) _) ht.grown⟩;rcases Idx.mem_put hy with rfl|hy
 ·exact ho
 ·exact h.all y hy
def aEF (v:Value) (x m n:Nat) (X:List bC) (w:World) (e:Ending) (w':World):Prop:=e= .returned v∧Ix w' x m n X∧w.grownBy w' (some m)
theorem qB (x m n:Nat) (X:List bC) (e:bC) (w:World) (h:Ix w x m n X) (ho:Frm.okE e) (hn:n<1000000):
 Calls Tryz.prog 124 #[.pointer (some ⟨x,0,none⟩),.agg (ev e)] w (aEF (.bool (Idx.puts X e)) x m (n+1) (Idx.put X e) w):=by
 have hb:=Hb.new w (ev e) 73;have gr:=aG (aE w none) (.cells (ev e) 73);have hs:=bP e;have ho2:=ho;obtain⟨hl,hd⟩:=ho;obtain⟨dg,hdg⟩:∃dg,dg=e.dig:=⟨_,rfl⟩;rw[←hdg] at hl hd;generalize hR:Idx.get X dg=R;go_enter Tryz.func124,Tryz.ntmps124;go_upto_region 3 with fail;generalize w.alloc (.cells (ev e) 73)=W at*;generalize w.heap.size=bx at*;have g1:=aM gr 1;have HS:Hid (Ix (W.drewN 1) x m n X∧Hb (W.drewN 1) bx (ev e) 73):=aD ⟨h.only g1,hb⟩;have GR:=aD g1;have HDG:=aD hdg;clear h hb gr g1 hdg;refine bO Tryz.f124 3 12 (fun w'=>Ix w' x m n X∧Hb w' bx (ev e) 73) (by kernel_rfl) (by kernel_rfl) (by kernel_rfl) HS.out (fun K hK h0=>?_);refine aW (listed':=#[false,false,false,false,false,false,false,false,false,false,false,false]) (by kernel_rfl) rfl ?_;have HF:=aD hK;clear hK;refine aX 0 10 (Value.pointer (some ⟨x,0,none⟩)) (fun _ _=>by kernel_rfl) h0 ?_;simp only[Act.put,aJ,aK,aI];refine aX 1 11 (Value.pointer (some ⟨x,0,none⟩)) (fun _ _=>by kernel_rfl) h0 ?_;simp only[Act.put,aJ,aK,aI];refine aX 2 12 (Value.pointer (some ⟨x,0,none⟩)) (fun _ _=>by kernel_rfl) h0 ?_;simp only[Act.put,aJ,aK,aI];refine bD 3 13 (by kernel_rfl) 210 (.tmp 12) (by kernel_rfl) ⟨x,0,none⟩ (by kernel_rfl) (Value.map (some m)) _ (fun w' hw'=>hw'.1.blk.cell rfl) Tryz.underlying210 rfl h0 ?_;simp only[Act.put,aJ,aK,aI];refine aX 4 14 (Value.pointer (some ⟨bx,0,none⟩)) (fun _ _=>by kernel_rfl) h0 ?_;simp only[Act.put,aJ,aK,aI];refine bG 5 15 (by kernel_rfl) 36 (.tmp 14) (by kernel_rfl) ⟨bx,0,none⟩ (by kernel_rfl) (aH .u8 32 (aT dg)) _ (fun w' hw'=>yZ hw'.2 HDG.out) Tryz.underlying36 rfl (by kernel_rfl) h0 ?_;simp only[Act.put,aJ,aK,aI];refine aX 6 16 (Value.tuple #[.int .i64 (R.getD 0),.bool R.isSome]) (fun w' hw'=>zU (y:=.tmp 13) (z:=.tmp 15) (by kernel_rfl) (by kernel_rfl) (by kernel_rfl) hw'.1 hl hd hR) h0 ?_;simp only[Act.put,aJ,aK,aI];refine aX 7 9 (Value.tuple #[.int .i64 (R.getD 0),.bool R.isSome]) (fun _ _=>by kernel_rfl) h0 ?_;simp only[Act.put,aJ,aK,aI];refine aX 8 17 (.int .i64 (R.getD 0)) (fun _ _=>by kernel_rfl) h0 ?_;simp only[Act.put,aJ,aK,aI];refine aX 9 18 (.bool R.isSome) (fun _ _=>by kernel_rfl) h0 ?_;simp only[Act.put,aJ,aK,aI];refine aX 10 5 (.int .i64 (R.getD 0)) (fun _ _=>by kernel_rfl) h0 ?_;simp only[Act.put,aJ,aK,aI];refine aX 11 6 (.bool R.isSome) (fun _ _=>by kernel_rfl) h0 ?_;simp only[Act.put,aJ,aK,aI];refine aZ (by kernel_rfl) (HF.out _ _ ?_);have h1:=HS.out;clear h0 HF;generalize W.drewN 1=W1 at*;have ce:=h1.2.cell (d9 e);have c0:=h1.1.blk.cell (i:=0) (v:=.map (some m)) rfl;have HBL:=aD (yZ h1.2 HDG.out);clear h1
 by_cases hp:Idx.puts X e=true
 ·have HP:=aD hp
  have hcase:R=none∨∃y,R=some y∧decide (y<e.exp)=true∧decide (e.exp≤y)=false:=by
   unfold Idx.puts at hp;rw[←HDG.out,hR] at hp
   cases R with
   |none=>exact .inl rfl
   |some y=>exact .inr ⟨y,rfl,by simp at hp ⊢;omega,by simp at hp ⊢;omega⟩
  clear hp hR;rcases hcase with rfl|⟨y,rfl,hy1,hy2⟩
  all_goals
   simp only[Option.getD_none,Option.isSome_none,Option.getD_some,Option.isSome_some];go_upto_region 6 with fail;go_still_tail 8,(by kernel_rfl)
   repeat (first|(refine aY rfl _ _ rfl ⟨bx,0,none⟩ rfl _ _ HBL.out rfl rfl (bU _) ?_)|still_step)
   try refine wpStill_nil ?_
   change wpList _ _ _ _ _ (W1.drewN 1);have hI:=HS.out.1.only (aM (aE W1 none) 1);have hk:=sI hl hd;have G1:=aD (aM GR.out 1);clear HBL HS GR ce c0;generalize W1.drewN 1=W2 at*;refine qL rfl (.tmp 29) (.tmp 31) (.tmp 33) rfl digK Tryz.underlying210 (by unfold maxLen;omega) rfl hI.map rfl rfl (show WideAt.IsKeyLit (eC dg) from trivial) hk ?_;intro w3 hm3 ht3;have hI3:=aD (aJI hI ho2 HDG.out HP.out hm3 ht3 G1.out);clear hI hm3 ht3 hk;go_wp2_with fail;go_ret;exact⟨by rw[HP.out];rfl,hI3.out⟩
 ·have hp':Idx.puts X e=false:=by simpa using hp
  have hid:=aD (Idx.put_id hp');have hcase:∃y,R=some y∧decide (y<e.exp)=false∧decide (e.exp≤y)=true:=by
   unfold Idx.puts at hp';rw[←HDG.out,hR] at hp'
   cases R with
   |none=>cases hp'
   |some y=>exact⟨y,rfl,by simp at hp' ⊢;omega,by simp at hp' ⊢;omega⟩
  have HP:=aD hp';clear hp hp' hR HBL;obtain⟨y,rfl,hy1,hy2⟩:=hcase;simp only[Option.getD_some,Option.isSome_some];go_wp2_with fail;go_ret;refine⟨by rw[HP.out];rfl,?_,aC (aB GR.out) _⟩;rw[hid.out];exact HS.out.1.more
end Go.Proofs.YtcoolgnlhheaiaaGreatDoor
namespace Go.Proofs.YtcoolgnlhheaiaaGreatDoor
open Go.RowKit Go.Deep
set_option linter.all false
set_option maxRecDepth 100000
set_option maxHeartbeats 1000000
namespace Lg
theorem tagN_succ (D:Dsk.D) (n:Nat):tagN D (n+1)=max (tagN D n) (Frm.tag (Dsk.read D n)):=by unfold tagN;rw[List.range_succ,List.foldl_append];rfl
end Lg
def aJ5 (d:Nat) (D:Dsk.D) (w:World) (a:Act) (w':World):Prop:=
 ∃k,k≤D.sec.length∧w.grownBy w' none∧∃u1 u6 u7 u8 u9 u10 u11 u12 u13 u14 u15 u16 u17 u18 u19 u20 u21 u22 u23 u24 u25 u26 u27 u28 u29 u30:Value,a={ tmps:=#[.pointer (some ⟨d,0,none⟩),u1,.int .u32 0,.nilIface,.int .u32 (Lg.tagN D k:Int),.int .i64 (k:Int),u6,u7,u8,u9,u10,u11,u12,u13,u14,u15,u16,u17,u18,u19,u20,u21,u22,u23,u24,u25,u26,u27,u28,u29,u30],defers:=[]}
theorem aDX (d:Nat) (b:Dsk.B) (D:Dsk.D) (w:World) (h:Dk w d b D) (hdn:D.down=false) (h2:2≤D.sec.length) (hN:D.n<1000000):
 Calls Tryz.prog 133 #[.pointer (some ⟨d,0,none⟩)] w fun e w'=>e= .returned (.tuple #[.int .u32 (Lg.last D:Int),.nilIface])∧w.grownBy w' none:=by
 have HD:=aD h;have HN:=aD hdn;have hroom:=h.ok.room;clear h hdn;go_enter Tryz.func133,Tryz.ntmps133;go_wp2_with fail;refine wp_scope_jumps 0 (aJ5 d D w) (fun a _=>D.sec.length - (intOf (a.tmps.getD 5 undef)).toNat) rfl ?_ ?_
 ·go_wp2_with fail
  go_step3;have G1:=aD (aE w none);have hx:=Dsk.read_ok HD.out.ok (x:=0);have hrd:0<D.sec.length→Calls Tryz.prog 194 #[.pointer (some ⟨d,0,none⟩),.int .i64 0] w fun e w'=>e= .returned (.tuple #[.agg (aH .u8 64 (aT (Dsk.read D 0))),.nilIface])∧Below w.heap.size w w':=
   fun hlt=>(lI d b D 0 w (HD.out.below (aB G1.out)) hlt (by omega)).mono fun e w' he=>⟨by rw[he.1,HN.out];rfl,he.2⟩
  have hsz:=jJ d b D w (HD.out.below (aB G1.out));have htg:=fun(hlt:0<D.sec.length) W=>aAH (Dsk.read D 0) W (hx hlt)
  have hts:=Lg.tagN_succ D 0;rw[show Lg.tagN D 0=0 from rfl] at hts;have hlt:0<D.sec.length:=by omega
  ·have hrd:=hrd hlt
   have htg:=htg hlt;generalize Frm.tag (Dsk.read D 0)=t at*;generalize Dsk.read D 0=s at*;have HTS:=aD hts;clear hts hx
   go_wp2_with (first
    |(go_at_call 130;refine hsz.mono ?_;clear hsz;rintro e w2 ⟨rfl,rfl⟩)
    |(go_at_call 194;refine hrd.mono ?_;clear hrd;rintro e w2 ⟨rfl,hb2⟩)
    |(refine wpList_store_rowTo rfl _ _ _ rfl rfl w2.heap.size _ rfl rfl _ _ (heap_alloc_new _ _) (by rw[aA];kernel_rfl) (by rw[aA];rfl) (aL _ _ _) ?_;generalize hV:World.setRow _ w2.heap.size _=V
      obtain⟨hA,hgV⟩:=cK w2 _ (aH .u8 64 (aT s)) 191;rw[hV] at hA hgV;have GV:=aD (aF G1.out (aF (aC hb2 none) hgV))
      clear hV hgV hb2)
    |refine aS (by kernel_rfl) _ _ rfl w2.heap.size rfl _ _ (0,0) _ hA rfl rfl (by rw[aA];kernel_rfl) ?_
    |(go_at_call 195;refine(htg V).mono ?_;clear htg;rintro e w3 ⟨rfl,hb3⟩))
   all_goals
    have ht:(0<t)∨¬(0<t):=Decidable.em _;go_step3;refine⟨rfl,0+1,hlt,aF GV.out hb3,?_⟩
    (repeat apply Exists.intro)
    first
     |(rw[show Lg.tagN D (0+1)=t by rw[HTS.out];omega];rfl)
     |(rw[show Lg.tagN D (0+1)=0 by rw[HTS.out];omega];rfl)
 ·rintro a w1 ⟨k,hk,g1,u1,u6,u7,u8,u9,u10,u11,u12,u13,u14,u15,u16,u17,u18,u19,u20,u21,u22,u23,u24,u25,u26,u27,u28,u29,u30,rfl⟩
  have G1:=aD g1;clear g1;have hx:=Dsk.read_ok HD.out.ok (x:=k);have hrd:k<D.sec.length→Calls Tryz.prog 194 #[.pointer (some ⟨d,0,none⟩),.int .i64 ((k:Int))] w1 fun e w'=>e= .returned (.tuple #[.agg (aH .u8 64 (aT (Dsk.read D k))),.nilIface])∧Below w1.heap.size w1 w':=
   fun hlt=>(lI d b D k w1 (HD.out.below (aB G1.out)) hlt (by omega)).mono fun e w' he=>⟨by rw[he.1,HN.out];rfl,he.2⟩
  have hsz:=jJ d b D w1 (HD.out.below (aB G1.out));have htg:=fun(hlt:k<D.sec.length) W=>aAH (Dsk.read D k) W (hx hlt)
  have hts:=Lg.tagN_succ D k
  by_cases hlt:k<D.sec.length
  ·have hrd:=hrd hlt
   have htg:=htg hlt;generalize Frm.tag (Dsk.read D k)=t at*;generalize Dsk.read D k=s at*;have HTS:=aD hts;clear hts hx
   go_wp2_with (first
    |(go_at_call 130;refine hsz.mono ?_;clear hsz;rintro e w2 ⟨rfl,rfl⟩)
    |(go_at_call 194;refine hrd.mono ?_;clear hrd;rintro e w2 ⟨rfl,hb2⟩)
    |(refine wpList_store_rowTo rfl _ _ _ rfl rfl w2.heap.size _ rfl rfl _ _ (heap_alloc_new _ _) (by rw[aA];kernel_rfl) (by rw[aA];rfl) (aL _ _ _) ?_;generalize hV:World.setRow _ w2.heap.size _=V
      obtain⟨hA,hgV⟩:=cK w2 _ (aH .u8 64 (aT s)) 191;rw[hV] at hA hgV;have GV:=aD (aF G1.out (aF (aC hb2 none) hgV))
      clear hV hgV hb2)
    |refine aS (by kernel_rfl) _ _ rfl w2.heap.size rfl _ _ (0,0) _ hA rfl rfl (by rw[aA];kernel_rfl) ?_
    |(go_at_call 195;refine(htg V).mono ?_;clear htg;rintro e w3 ⟨rfl,hb3⟩))
   all_goals
    have ht:(Lg.tagN D k<t)∨¬(Lg.tagN D k<t):=Decidable.em _;go_step3;refine⟨rfl,⟨k+1,hlt,aF GV.out hb3,?_⟩,by simp[intOf];omega⟩
    (repeat apply Exists.intro)
    first
     |(rw[show Lg.tagN D (k+1)=t by rw[HTS.out];omega];rfl)
     |(rw[show Lg.tagN D (k+1)=Lg.tagN D k by rw[HTS.out];omega];rfl)
  ·have hkn:k=D.sec.length:=by omega
   clear hts hx hrd htg;have hLL:=aD (show Lg.last D=Lg.tagN D k by rw[hkn];rfl);clear hkn;go_wp2_with (go_at_call 130;refine hsz.mono ?_;clear hsz;rintro e w2 ⟨rfl,rfl⟩)
   try simp only[Exit.jump]
   go_ret2;exact⟨by rw[hLL.out];rfl,G1.out⟩
end Go.Proofs.YtcoolgnlhheaiaaGreatDoor
namespace Go.Proofs.YtcoolgnlhheaiaaGreatDoor
open Go.RowKit Go.Deep Go.Maps Go.ChangeMaps Go.MapKept Go.WideShapes
set_option linter.all false
set_option maxRecDepth 100000
set_option maxHeartbeats 1000000
theorem jL {X:List bC} (h:∀e∈X,AllB e.dig) (kl:Go.Lit):(iG X kl).isSome=true↔∃e∈X,kl=eC e.dig:=by
 cases kl with
 |string bs=>
  show((Idx.get X (jZ bs)).map fun x=>Value.int .i64 x).isSome=true↔_;rw[Option.isSome_map];constructor
  ·intro hs
   obtain⟨x,hx⟩:=Option.isSome_iff_exists.1 hs;exact⟨_,Idx.mem_of_get hx,(oO bs).symm⟩
  ·rintro⟨e,he,hk⟩
   rw[(kL (h e he)).1 hk]
   cases hg:Idx.get X e.dig with
   |some x=>rfl
   |none=>exact absurd rfl (Idx.get_none.1 hg e he)
 |_=>exact⟨fun h=>(by cases h),fun⟨e,_,h⟩=>by unfold eC at h;cases h⟩
theorem rQ {d c:List Nat} (hc:AllB c) (hd:AllB d):eC d=eC c↔d=c:=by
 constructor
 ·intro h
  have:=(kL hc (bs:=d.map UInt8.ofNat)).1 h
  rwa [j8 hd] at this
 ·rintro rfl;rfl
def eW (X:List bC) (d:List Nat):List bC:=X.filter fun y=>y.dig !=d
theorem bT {X:List bC} {d:List Nat} {e:bC}:e∈eW X d↔e∈X∧e.dig≠d:=by unfold eW;simp
def Rng (w:World) (b r n:Nat) (X L:List bC) (cnt:Nat):Prop:=
 ∃(D:DataW Value) (left:Go.Lit→Bool),w.ranges Tryz.prog 36 pU b r n D left cnt∧((∀kl,Maps.has D kl=(iG X kl).isSome)∧∀kl v,iG X kl=some v→∀z,D.atKey kl z= .held v)∧∀kl,left kl=true↔∃e∈L,kl=eC e.dig
theorem Rng.kept {w w':World} {b r n:Nat} {X L:List bC} {cnt:Nat} {row:Option Nat} (h:Rng w b r n X L cnt) (g:w.grownBy w' row) (h1:some b≠row) (h2:some r≠row):Rng w' b r n X L cnt:=by
 obtain⟨D,left,h,k⟩:=h;exact⟨D,left,h.kept g h1 h2,k⟩
theorem Rng.left {w:World} {b r n:Nat} {X L:List bC} {cnt:Nat} (h:Rng w b r n X L cnt):w.rangeLeft b r=cnt:=by
 obtain⟨D,left,h,k⟩:=h;exact h.left_eq
theorem Rng.lt_it {w:World} {b r n:Nat} {X L:List bC} {cnt:Nat} (h:Rng w b r n X L cnt):r<w.heap.size:=by
 obtain⟨D,left,h,k⟩:=h;exact h.lt
theorem Rng.map {w:World} {b r n:Nat} {X L:List bC} {cnt:Nat} (h:Rng w b r n X L cnt):MapIs w 36 b n (iG X):=by
 obtain⟨D,left,h,k,_⟩:=h;exact⟨D,h.owns,k⟩
section
variable {w:World} {ops:Array Oper} {rest:List Oper} {o:Oper} {a:Act} {Q:Exit→Act→World→Prop} {b r n cnt:Nat} {X L:List bC}
theorem pR (hg:o.guard=none) (m:Operand) (hop:o.op=Op.range 210 m) (hm:a.eval m= .map (some b)) (h:MapIs w 36 b n (iG X)) (hall:∀e∈X,AllB e.dig)
 (hK:∀w' cnt,Rng w' b w.heap.size n X X cnt→w.grownBy w' none→w'.heap.size=w.heap.size+1→wpList Tryz.prog ops Q rest (a.put o.dst (.pointer (some ⟨w.heap.size,0,none⟩))) w'):
 wpList Tryz.prog ops Q (o::rest) a w:=by
 obtain⟨D,ho,hD⟩:=h;refine wpList_range_own w hg m 210 hop 36 2 digK Tryz.underlying210 pU b n D hm ho fun w' h1 h2 h3=>hK w' _ ⟨D,_,h1,hD,fun kl=>?_⟩ h2 h3
 rw[hD.1 kl];exact jL hall kl
theorem tC {left:Go.Lit→Bool} {e:bC} (hl:∀kl,left kl=true↔∃e∈L,kl=eC e.dig) (he:AllB e.dig) (hL:∀y∈L,AllB y.dig) (kl:Go.Lit):(left kl&& !kl.sameKey (eC e.dig))=true↔∃y∈eW L e.dig,kl=eC y.dig:=by
 rw[Bool.and_eq_true,hl kl];constructor
 ·rintro⟨⟨y,hy,rfl⟩,hs⟩
  refine⟨y,bT.2 ⟨hy,fun c=>?_⟩,rfl⟩;rw[c,WideAt.sameKey_self (by unfold eC;trivial)] at hs
  cases hs
 ·rintro⟨y,hy,rfl⟩
  obtain⟨hy,hne⟩:=bT.1 hy;refine⟨⟨y,hy,rfl⟩,?_⟩
  cases hs:(eC y.dig).sameKey (eC e.dig) with
  |false=>rfl
  |true=>exact absurd ((rQ he (hL y hy)).1 (WideAt.sameKey_eq hs)) hne
theorem vB (hg:o.guard=none) (it:Operand) (hop:o.op=Op.next it false) (hit:a.eval it= .pointer (some ⟨r,0,none⟩)) (h:Rng w b r n X L cnt) (hX:Idx.ok X) (hL:∀e∈L,e∈X) (hall:∀e∈X,Frm.okE e)
 (hDone:L=[]→wpList Tryz.prog ops Q rest (a.put o.dst (.tuple #[.bool false])) w)
 (hMore:∀e w' cnt',e∈L→Rng w' b r n X (eW L e.dig) cnt'→cnt'<cnt→w.grownBy w' (some r)→w'.heap.size=w.heap.size→(Instr.entry (.pointer (some ⟨r,0,none⟩))).run Tryz.prog w'= .ok (.tuple #[.agg (aH .u8 32 (aT e.dig)),.int .i64 e.exp]) w'→
   wpList Tryz.prog ops Q rest (a.put o.dst (.tuple #[.bool true,.agg (aH .u8 32 (aT e.dig)),.int .i64 e.exp])) w'):
 wpList Tryz.prog ops Q (o::rest) a w:=by
 obtain⟨D,left,hr,hD,hl⟩:=h;refine wpList_next_ranges w hg it hop 36 digK pU (fun v:Value=>v) (fun v:Value=>v) (fun key _ _=>⟨key,rfl⟩) (fun v _ _=>⟨v,rfl⟩) b r n D left cnt hit hr (fun _ h0=>hDone ?_) ?_
 ·cases L with
  |nil=>rfl
  |cons e L=>exact absurd ((hl (eC e.dig)).2 ⟨e,by simp,rfl⟩) (by rw[h0];simp)
 ·intro x c kl y w' cnt' hkey hlk hR hat hr' hlt hgr hsz hen
  obtain⟨e,he,rfl⟩:=(hl kl).1 hlk;have hoe:=hall e (hL e he);obtain rfl:=digK.inj hkey (sI hoe.1 hoe.2);have hv:iG X (eC e.dig)=some (.int .i64 e.exp):=by rw[lB X hoe.2,Idx.get_of_mem hX (hL e he)];rfl
  have h1:=hat (.held undef);rw[hD.2 _ _ hv] at h1;have h2:DataW.held c=y.1:=congrArg Prod.fst (Option.some.inj hR);rw[←h2] at h1;obtain rfl:Value.int .i64 e.exp=c:=DataW.held.inj h1;exact hMore e w' cnt' he ⟨D,_,hr',hD,fun kl=>tC hl hoe.2 (fun y hy=>(hall y (hL y hy)).2) kl⟩ hlt hgr hsz hen
end
theorem Rng.drop {w:World} {b r n cnt:Nat} {X L:List bC} {e:bC} (h:Rng w b r n X L cnt) (hX:Idx.ok X) (hL:∀e∈L,e∈X) (hall:∀e∈X,Frm.okE e) (ho:Frm.okE e) (ty:TypeId):
 ∃w' cnt',(Builtin.delete_ #[210,36] ty #[.map (some b),.agg (aH .u8 32 (aT e.dig))]).run Tryz.prog w= .ok (.tuple #[]) w'∧Rng w' b r n (eW X e.dig) (eW L e.dig) cnt'∧cnt'≤cnt∧w.mapTurned w' b:=by
 obtain⟨D,left,hr,hD,hl⟩:=h;obtain⟨w',cnt',hrun,r1,r2,r3⟩:=hr.drop digK Tryz.underlying210 (sI ho.1 ho.2) ty;refine⟨w',cnt',hrun,⟨_,_,r1,⟨fun kl=>?_,fun kl v hv z=>?_⟩,fun kl=>tC hl ho.2 (fun y hy=>(hall y (hL y hy)).2) kl⟩,r2,r3⟩
 ·have hs:(iG (eW X e.dig) kl).isSome=true↔(iG X kl).isSome=true∧kl≠eC e.dig:=by
   rw[jL (fun y hy=>(hall y (bT.1 hy).1).2),jL (fun y hy=>(hall y hy).2)];constructor
   ·rintro⟨y,hy,rfl⟩
    obtain⟨h1,h2⟩:=bT.1 hy;exact⟨⟨y,h1,rfl⟩,fun c=>h2 ((rQ ho.2 (hall y h1).2).1 c)⟩
   ·rintro⟨⟨y,hy,rfl⟩,hne⟩
    exact⟨y,bT.2 ⟨hy,fun c=>hne (by rw[c])⟩,rfl⟩
  by_cases hk:kl=eC e.dig
  ·subst hk
   rw[has_del_same]
   cases hc:(iG (eW X e.dig) (eC e.dig)).isSome with
   |false=>rfl
   |true=>exact absurd rfl (hs.1 hc).2
  ·rw[has_del_other hk,hD.1]
   cases hc:(iG X kl).isSome with
   |false=>
    cases hc':(iG (eW X e.dig) kl).isSome with
    |false=>rfl
    |true=>rw[(hs.1 hc').1] at hc;cases hc
   |true=>exact(hs.2 ⟨hc,hk⟩).symm
 ·have hvX:kl≠eC e.dig∧iG X kl=some v:=by
   have hsm:=(jL (fun y hy=>(hall y (bT.1 hy).1).2) kl).1 (by rw[hv];rfl);obtain⟨y,hy,rfl⟩:=hsm;obtain⟨h1,h2⟩:=bT.1 hy;refine⟨fun c=>h2 ((rQ ho.2 (hall y h1).2).1 c),?_⟩;rw[lB _ (hall y h1).2] at hv ⊢;rw[Idx.get_of_mem hX h1];rw[Idx.get_of_mem (show Idx.ok (eW X e.dig) from hX.filter _) hy] at hv;exact hv
  rw[atKey_del_other hvX.1];exact hD.2 kl v hvX.2 z
theorem yB {w:World} {ops:Array Oper} {rest:List Oper} {o:Oper} {a:Act} {Q:Exit→Act→World→Prop} {b r n cnt:Nat} {X L:List bC} {e:bC} (hg:o.guard=none) (y z:Operand) (hop:o.op=Op.call { callee:=Callee.builtin Builtin.delete,args:=#[y,z],argTypes:=#[210,36]})
 (hm:a.eval y= .map (some b)) (hx:a.eval z= .agg (aH .u8 32 (aT e.dig))) (h:Rng w b r n X L cnt) (hX:Idx.ok X) (hL:∀e∈L,e∈X) (hall:∀e∈X,Frm.okE e) (ho:Frm.okE e)
 (hK:∀w' cnt',Rng w' b r n (eW X e.dig) (eW L e.dig) cnt'→cnt'≤cnt→w.mapTurned w' b→wpList Tryz.prog ops Q rest (a.put o.dst (.tuple #[])) w'):wpList Tryz.prog ops Q (o::rest) a w:=by
 refine wpList_plain hg fun K' hK'=>?_
 obtain⟨w',cnt',hrun,r1,r2,r3⟩:=h.drop hX hL hall ho o.type;unfold Oper.wp;simp[execOp,hop,resolve,invoke,builtin,hm,hx,hrun,Result.andThen];exact hK' _ _ (hK w' cnt' r1 r2 r3)
theorem aCH {L:List bC} {d:List Nat}:eW (eW L d) d=eW L d:=by unfold eW;rw[List.filter_filter];simp
structure DropI (X cur L:List bC) (now:Int):Prop where
 ok:Idx.ok cur
 mem:∀e,e∈cur↔e∈X∧(now≤e.exp∨e∈L)
 sub:∀e∈L,e∈X
 len:cur.length≤X.length
theorem kR {X:List bC} (hX:Idx.ok X) {y e:bC} (hy:y∈X) (he:e∈X) (hd:y.dig=e.dig):y=e:=by
 have h1:=Idx.get_of_mem hX hy;rw[hd,Idx.get_of_mem hX he] at h1
 cases y;cases e
 simp_all
theorem DropI.skip {X cur L:List bC} {now:Int} {e:bC} (h:DropI X cur L now) (hX:Idx.ok X) (he:e∈L) (hn:now≤e.exp):DropI X cur (eW L e.dig) now:=by
 refine⟨h.ok,fun y=>?_,fun y hy=>h.sub y (bT.1 hy).1,h.len⟩;rw[h.mem y];constructor
 ·rintro⟨h1,h2⟩
  refine⟨h1,?_⟩;rcases h2 with h2|h2
  ·exact .inl h2
  ·by_cases hd:y.dig=e.dig
   ·rw[kR hX h1 (h.sub e he) hd];exact .inl hn
   ·exact .inr (bT.2 ⟨h2,hd⟩)
 ·rintro⟨h1,h2⟩
  exact⟨h1,h2.imp id fun h=>(bT.1 h).1⟩
theorem DropI.drop {X cur L:List bC} {now:Int} {e:bC} (h:DropI X cur L now) (hX:Idx.ok X) (he:e∈L) (hn:¬now≤e.exp):DropI X (eW cur e.dig) (eW L e.dig) now:=by
 refine⟨h.ok.filter _,fun y=>?_,fun y hy=>h.sub y (bT.1 hy).1,Nat.le_trans (List.length_filter_le _ _) h.len⟩;rw[bT,h.mem y,bT];constructor
 ·rintro⟨⟨h1,h2⟩,h3⟩
  exact⟨h1,h2.imp id fun h=>⟨h,h3⟩⟩
 ·rintro⟨h1,h2⟩
  refine⟨⟨h1,h2.imp id (·.1)⟩,?_⟩;rcases h2 with h2|h2
  ·intro hd
   rw[kR hX h1 (h.sub e he) hd] at h2;exact hn h2
  ·exact h2.2
theorem DropI.done {X cur:List bC} {now:Int} (h:DropI X cur [] now) (hX:Idx.ok X):cur=Idx.live X now:=
 Idx.eq_of_mem h.ok (Idx.ok_live hX now) fun e=>by
  rw[h.mem e];unfold Idx.live;simp
theorem DropI.start {X:List bC} (hX:Idx.ok X) (now:Int):DropI X X X now:=⟨hX,fun e=>⟨fun h=>⟨h,.inr h⟩,fun h=>h.1⟩,fun _ h=>h,Nat.le_refl _⟩
def aH0 (x m n:Nat) (X:List bC) (w:World) (e:Ending) (w':World):Prop:=(∃k:Int,e= .returned (.int .i64 k))∧Ix w' x m n X∧w.grownBy w' (some m)
theorem yJ (x m n:Nat) (X:List bC) (now:Int) (w:World) (h:Ix w x m n X):
 Calls Tryz.prog 88 #[.pointer (some ⟨x,0,none⟩),.int .i64 now] w (aH0 x m n (Idx.live X now) w):=by
 have c0:=h.blk.cell (i:=0) (v:=.map (some m)) rfl;have hmap:=h.map;have hB:∀e∈X,AllB e.dig:=fun e he=>(h.all e he).2
 have HI:=aD h;have hxm:=h.ne;have hml:=h.map.lt;have hxl:x<w.heap.size:=h.blk.lt;clear h;go_enter Tryz.func88,Tryz.ntmps88;go_upto_region 4 with fail;go_wp2_with (refine pR rfl (.tmp 13) rfl rfl hmap hB ?_;intro w0 cnt0 hR0 hg0 hs0)
 go_frame
 have G0:=aD hg0;clear hmap
 go_loopw [5] (fun i wr=>∃(k:Int) (cur L:List bC) (cnt:Nat),i= .int .i64 k∧Rng wr m w.heap.size n cur L cnt∧DropI X cur L now∧w.grownBy wr (some m)) (fun _ wr=>wr.rangeLeft m w.heap.size)
 case atStart=>exact⟨0,X,X,cnt0,rfl,hR0,DropI.start HI.out.ok now,G0.out.but _⟩
 case round=>
  obtain⟨k,cur,L,cnt,rfl,hR,hI,hg⟩:=hrel;have hLc:∀e∈L,e∈cur:=fun e he=>(hI.mem e).2 ⟨hI.sub e he,.inr he⟩
  have hall:∀e∈cur,Frm.okE e:=fun e he=>HI.out.all e ((hI.mem e).1 he).1
  have hcx:wr.cell? ⟨x,0,none⟩=some (.map (some m)):=(World.cell?_of_block (w:=w) (a:=⟨x,0,none⟩) (hg.block x hxl (fun e=>hxm (Option.some.inj e)))).trans c0;go_wp2_with (refine vB rfl (.tmp 14) rfl rfl hR hI.ok hLc hall ?_ ?_)
  ·intro hL0
   subst hL0;have HH:=aD (aQ hI hg);have HR:=aD hR;clear hI hg hR hLc hall hcx hB hR0;go_wp2_with fail;go_ret;obtain⟨hI,hg⟩:=HH.out;obtain rfl:=hI.done HI.out.ok;refine⟨⟨k,rfl⟩,⟨hI.ok,fun e he=>HI.out.all e ((hI.mem e).1 he).1,Nat.le_trans hI.len HI.out.len,?_,HR.out.map⟩,hg⟩;exact HI.out.blk.keep hg (fun e=>hxm (Option.some.inj e))
  ·intro e w1 cnt1 he hR1 hlt hg1 hs1 hen
   have hoe:=hall e (hLc e he);have hcx1:w1.cell? ⟨x,0,none⟩=some (.map (some m)):=(World.cell?_of_block (w:=wr) (a:=⟨x,0,none⟩) (hg1.block x (Nat.lt_of_lt_of_le hxl hg.size) (fun e=>by have:=Option.some.inj e;omega))).trans hcx;have hz1:w.heap.size<w1.heap.size:=by have:=hR1.lt_it;omega
   have hgn:w.grownBy w1 (some m):=hg.andThen hg1 fun j hj=>by cases hj;exact .inl (Nat.le_refl _)
   have HH:=aD (aQ hI (aQ hgn (aQ hR hlt)));have HE:=aD (aQ he (aQ hoe hLc));clear hI hg hR hLc hcx hg1 hB hR0 he hoe hlt hs1;go_upto_region 7 with (refine wpList_store_rowTo rfl _ _ _ rfl rfl w1.heap.size _ rfl rfl _ _ (heap_alloc_new _ _) (bU _) (by rw[aA];rfl) (aL _ _ _) ?_;generalize hV:World.setRow _ w1.heap.size _=V)
   all_goals first|omega|skip
   obtain⟨hA,hgV⟩:=cK w1 _ (aH .u8 32 (aT e.dig)) 36;rw[hV] at hA hgV;have hRV:=hR1.kept hgV (by simp) (by simp);have hcV:V.cell? ⟨x,0,none⟩=some (.map (some m)):=(World.cell?_of_block (w:=w1) (a:=⟨x,0,none⟩) (hgV.block x (by omega) (by simp))).trans hcx1;have GV:=aD hgV;clear hV hgV hR1 hcx1 hen
   by_cases hn:now≤e.exp
   ·have hd:decide (e.exp<now)=false:=decide_eq_false (by omega)
    have HN:=aD hn;clear hn;go_wp2_with fail;go_roundw
    case rel=>exact⟨k,cur,_,cnt1,rfl,hRV,HH.out.1.skip HI.out.ok HE.out.1 HN.out,HH.out.2.1.andThen GV.out (fun j hj=>by cases hj)⟩
    case measure=>rw[hRV.left,HH.out.2.2.1.left];exact HH.out.2.2.2
   ·have hd:decide (e.exp<now)=true:=decide_eq_true (by omega)
    have HN:=aD hn;clear hn;go_upto_region 8 with fail;have HBL:=aD (lJ hA);clear hA;go_still_tail 5,(by kernel_rfl)
    repeat (first|(refine aY rfl _ _ rfl ⟨w1.heap.size,0,none⟩ rfl _ _ HBL.out rfl rfl (bU _) ?_)|still_step)
    try refine wpStill_nil ?_
    change wpList _ _ _ _ _ (V.drewN 1);have hRV2:Rng (V.drewN 1) m w.heap.size n cur (eW L e.dig) cnt1:=hRV;refine yB (e:=e) rfl (.tmp 26) (.tmp 27) rfl rfl rfl hRV2 HH.out.1.ok (fun y hy=>HE.out.2.2 y (bT.1 hy).1) hall HE.out.2.1 ?_;intro V2 cnt2 hR2 hc2 ht2;rw[aCH] at hR2;go_wp2_with fail;go_roundw
    case rel=>exact⟨_,_,_,cnt2,rfl,hR2,HH.out.1.drop HI.out.ok HE.out.1 HN.out,aF (HH.out.2.1.andThen (aM GV.out 1) (fun j hj=>by cases hj)) ht2.grown⟩
    case measure=>rw[hR2.left,HH.out.2.2.1.left];exact Nat.lt_of_le_of_lt hc2 HH.out.2.2.2
end Go.Proofs.YtcoolgnlhheaiaaGreatDoor
