import Derived.Test.YtcoolgnlhheaiaaGreatDoorG20
import Derived.Test.YtcoolgnlhheaiaaGreatDoorG24
namespace Go.Proofs.YtcoolgnlhheaiaaGreatDoor
open Go.RowKit Go.Deep Go.Maps Go.ChangeMaps Go.MapKept Go.WideShapes
set_option linter.all false
set_option maxRecDepth 100000
set_option maxHeartbeats 4000000
theorem wW {w:World} {b o:Nat} {v:Value} {cs:List Value} (h:w.rangeAt b o (v::cs)):w.rangeAt b (o+1) cs:=fun j u hj=>by
 have:=h (j+1) u (by simpa using hj);rw[show o+1+j=o+(j+1) by omega];exact this
theorem aAV (w:World):(zeroValue 3).run Tryz.prog w= .ok (.int .i64 0) w:=by kernel_rfl
def aI8 (b:Bool) (s:List Nat):Ending:=.returned (.tuple #[if b then .agg (aH .u8 64 (fun _=>0)) else sv s,if b then iF 12 else .nilIface])
theorem lI (d:Nat) (b:Dsk.B) (D:Dsk.D) (x:Nat) (w:World) (h:Dk w d b D) (hx:x<D.sec.length) (hN:D.n<4611686018427387904):Calls Tryz.prog 194 #[.pointer (some ⟨d,0,none⟩),.int .i64 (x:Int)] w fun e w'=>e=aI8 D.down (Dsk.read D x)∧Below w.heap.size w w':=by
 have hroom:=h.ok.room;have b4:=Hb.new w (aH .u8 64 (fun _=>0)) 191;have g4:=aG (aE w none) (.cells (aH .u8 64 (fun _=>0)) 191);have h4:=h.below (aB g4);have hz:=aA .u8 64 (fun _=>0);generalize hR:Dsk.read D x=R;have HR:=aD hR;clear hR;have HD:=aD h4;have hd:=h.lt;obtain⟨⟨c0,c1,c2,c3,c4,c5,c6⟩,_⟩:=cW h4.blk;clear h h4 c4 c5 c6;go_enter Tryz.func194,Tryz.ntmps194;go_upto_region 1 with fail;rw[z64];generalize w.alloc (.cells (aH .u8 64 (fun _=>0)) 191)=W at*
 cases hdn:D.down
 ·rw[hdn] at c3
  have HDN:=aD hdn;clear hdn;have hm:=HD.out.last;have hh:=tU d b D (x:Int) W HD.out;rw[show decide (0≤(x:Int)∧(x:Int)<(D.sec.length:Nat))=true by simp;omega] at hh;go_upto_region 5 with (go_at_call 240;refine hh.mono ?_;rintro e w2 ⟨rfl,rfl⟩);have hk:=yT (k:=(x:Int)) (by omega) (by omega);have hl:dB (fL D.opn) (.int .i64 (x:Int))=(Dsk.lastOf D.opn x).map fun i=>Value.int .i64 (i:Nat):=by
   unfold dB fL;have:¬(x:Int)<0:=by omega
   simp[this]
  cases hlo:Dsk.lastOf D.opn x with
  |none=>
   rw[hlo] at hl;have HL:=aD hl;clear hl;have hRn:D.sec[x]? =some R:=by
    have e:=HR.out;unfold Dsk.read at e;rw[hlo] at e;rw[List.getElem?_eq_getElem hx,←e];simp[hx]
   obtain⟨g,cap,hv,_,hgl⟩:=HD.out.sec.pos (by simp;omega);have hrg:=HD.out.sec.range (g:=g) (by rw[hv];rfl) (i:=x) (x:=dX R) (by rw[List.getElem?_map,hRn];rfl);rw[List.length_map] at hv;rw[hv] at c0;go_upto_region 6 with (refine lS rfl _ _ rfl yX Tryz.underlying116 (aAV _) rfl hm rfl hk ?_;rw[HL.out]);have hsv:dX R=(aH .u8 64 (aT R)).toList:=rfl;rw[hsv] at hrg;have hss:=aA .u8 64 (aT R);have z:=b4.row (aH .u8 64 (aT R));have hxz:(x:Int).toNat=x:=by omega
   clear HR HD hm hh c1 c2 c3 hv hlo hRn;generalize D.sec.length=L at*
   go_wp2_with (first
    |refine wpList_load_mid rfl 191 _ rfl g (x*64) rfl (aH .u8 64 (aT R)).toList _ hrg rfl rfl (by rw[Array.length_toList,aA];rfl) ?_
    |refine wpList_store_rowTo rfl _ _ _ rfl rfl w.heap.size _ rfl rfl _ _ b4 (by rw[aA];rfl) (by rw[aA,aA]) (aL _ _ _) ?_)
   all_goals first|omega|skip
   try simp only[Exit.inBlock,Exit.then,Exit.noGoto_ret]
   refine bodyPost_ret (bF rfl _ _ w.heap.size _ _ (0,0) _ rfl z.1 rfl rfl (by rw[aA];rfl)) rfl ?_;exact⟨by rw[HDN.out];rfl,aB (aO g4 z.2 (Nat.le_refl _))⟩
  |some i=>
   rw[hlo] at hl;have HL:=aD hl;clear hl;have hil:=Dsk.lastOf_lt hlo;obtain⟨y,hy⟩:∃y,D.opn[i]? =some y:=⟨_,List.getElem?_eq_getElem hil⟩;have hRn:y.2=R:=by
    have e:=HR.out;unfold Dsk.read at e;rw[hlo] at e;simp only[hy,Option.getD_some] at e;exact e
   have hlen:=HD.out.ok.len;have hmx:D.opn.length<4611686018427387904:=Nat.lt_of_le_of_lt hlen hN;obtain⟨g,cap,hv,_,hgl⟩:=HD.out.opn.pos (by simp;omega);have hrg:=HD.out.opn.range (g:=g) (by rw[hv];rfl) (i:=i) (x:=sG y) (by rw[List.getElem?_map,hy];rfl);rw[List.length_map] at hv;rw[hv] at c1;have hrg:=wW hrg;rw[hRn] at hrg;have hss:=aA .u8 64 (aT R);have z:=b4.row (aH .u8 64 (aT R));have hiz:(i:Int).toNat=i:=by omega
   go_upto_region 6 with (refine lS rfl _ _ rfl yX Tryz.underlying116 (aAV _) rfl hm rfl hk ?_;rw[HL.out]);clear HR HD hm hh c0 c2 c3 hv hlo hRn hlen hN hy;generalize D.opn.length=L at*
   go_wp2_with (first
    |refine wpList_load_mid rfl 191 _ rfl g (i*65+1) rfl (aH .u8 64 (aT R)).toList _ hrg rfl rfl (by rw[Array.length_toList,aA];rfl) ?_
    |refine wpList_store_rowTo rfl _ _ _ rfl rfl w.heap.size _ rfl rfl _ _ b4 (by rw[aA];rfl) (by rw[aA,aA]) (aL _ _ _) ?_)
   all_goals first|omega|skip
   try simp only[Exit.inBlock,Exit.then,Exit.noGoto_ret]
   refine bodyPost_ret (bF rfl _ _ w.heap.size _ _ (0,0) _ rfl z.1 rfl rfl (by rw[aA];rfl)) rfl ?_;exact⟨by rw[HDN.out];rfl,aB (aO g4 z.2 (Nat.le_refl _))⟩
 ·rw[hdn] at c3
  have HDN:=aD hdn;clear hdn;have z:=b4.row (aH .u8 64 (fun _=>0))
  go_wp2_with (first
   |refine wpList_buildTo rfl 191 _ rfl _ rfl (aH .u8 64 (fun _=>0)) (by kernel_rfl) ?_
   |refine wpList_store_rowTo rfl _ _ _ rfl rfl w.heap.size _ rfl rfl _ _ b4 (by rw[aA];rfl) (by rw[aA]) (aL _ _ _) ?_)
  try simp only[Exit.inBlock,Exit.then,Exit.noGoto_ret]
  refine bodyPost_ret (bF rfl _ _ w.heap.size _ _ (0,0) _ rfl z.1 rfl rfl (by rw[aA];rfl)) rfl ?_;exact⟨by rw[HDN.out];rfl,aB (aO g4 z.2 (Nat.le_refl _))⟩
end Go.Proofs.YtcoolgnlhheaiaaGreatDoor
