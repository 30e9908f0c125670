import Derived.Lib.SmallJoins
import Derived.Test.YtcoolgnlhheaiaaGreatDoorG04
namespace Go.Proofs.YtcoolgnlhheaiaaGreatDoor
open Go.RowKit Go.Deep
set_option linter.all false
set_option maxRecDepth 100000
set_option maxHeartbeats 4000000
theorem Feed.later {K:Nat→Nat} {L:List Nat} {bt bb bu bs:Nat} {w0 w w':World} (h:Feed K L bt bb bu bs w0 w) (k:Below w.heap.size w w'):Feed K L bt bb bu bs w0 w':=by
 obtain⟨⟨u,hu,j,f,h1,h2,h3,h4,h5,h6⟩,hT,hB⟩:=h;exact⟨⟨u,hu,j,f,h1,h2,h3,(k.block bu (lt_of_block h4)).trans h4,h5.below k h5.lt,h6.below k h6.lt⟩,(k.block bt (lt_of_block hT)).trans hT,hB.trans (k.mono hB.size)⟩
theorem Feed.whole {K:Nat→Nat} {L:List Nat} {bt bb bu bs:Nat} {w0 w:World} (h:Feed K L bt bb bu bs w0 w) (h64:L.length % 64=0):isArr w bs 186 .u32 8 (Sha.run K L (L.length / 64)).at:=by
 obtain⟨⟨u,hu,j,f,h1,h2,h3,h4,h5,h6⟩,_⟩:=h;have:j=L.length / 64:=by omega
 rw[←this];exact h6
def OutInv (s:Sha.St) (bd:Nat) (w wr:World) (c:Nat):Prop:=isArr wr bd 35 .u8 32 (fun t=>if t<c then Sha.out s t else 0)∧Below w.heap.size w wr
theorem OutInv.set {s:Sha.St} {bd:Nat} {w wr:World} {c:Nat} (h:OutInv s bd w wr c) (hb:w.heap.size≤bd):OutInv s bd w (wr.setCell ⟨bd,c,none⟩ (.int .u8 (Sha.out s c:Nat))) (c+1):=by
 refine⟨(h.1.set c _).congr fun j _=>?_,bM h.2 hb _ _⟩
 by_cases e:j=c
 ·subst e;simp
 ·rw[if_neg e]
  by_cases e2:j<c
  ·rw[if_pos e2,if_pos (by omega)]
  ·rw[if_neg e2,if_neg (by omega)]
theorem aHN (K:Nat→Nat) (v:Value) (ll:List (List Nat)) (w:World) (h:Bss w v ll) (hlen:(Wir.join ll).length≤140737488355000) (hK:Consts w K):
 Calls Tryz.prog 117 #[v] w fun e w'=>e= .returned (.agg (aH .u8 32 (Sha.digK K (Wir.join ll))))∧Below w.heap.size w w':=by
 have H:=aD h;obtain⟨a,cap,rfl,hll,-⟩:=h;obtain⟨n,hn⟩:∃n,n=ll.length:=⟨_,rfl⟩;rw[←hn] at hll ⊢;have HN:=aD hn;clear hn;have HL:=aD hlen;clear hlen;have HK:=aD hK;clear hK;have hi8:∀f,((Tryz.prog).info? 186).map (·.size)=some (aH .u32 8 f).size:=by intro f;rw[aA];rfl
 have hmf:∀(fn:Fn) (first cap:Array Value) (w:World),(Instr.makeFunc fn first cap).run Tryz.prog w= .ok (.func fn first cap) w:=fun _ _ _ _=>rfl
 go_enter Tryz.func117,Tryz.ntmps117;go_upto_region 5 with (first|(go_at_call 183;refine(aCW _).mono ?_;rintro e w1 ⟨rfl,hb1⟩)|(refine wpList_store_rowTo rfl _ _ _ rfl rfl w1.heap.size _ rfl rfl _ _ (heap_alloc_new _ _) (hi8 _) (by rw[aA];rfl) (aL _ _ _) ?_;generalize hV:World.setRow _ w1.heap.size _=V));generalize hw0:w.alloc _=w0 at hb1;have hz0:w0.heap.size=w.heap.size+1:=by rw[←hw0];simp
 have hR0:∃c:Array Value,w0.heap[w.heap.size]? =some (.cells c 35 (0,0))∧c.size=32:=by rw[←hw0];exact⟨_,heap_alloc_new _ _,rfl⟩
 have hbw:Below w.heap.size w w0:=by rw[←hw0];exact(Below.refl _ _).alloc (Nat.le_refl _) _
 clear hw0;have hz1:=hb1.size;have hVs:V.heap.size=w1.heap.size+1:=by rw[←hV,setRow_size];simp
 have hbV:Below w0.heap.size w0 V:=by rw[←hV];exact below_setRow (hb1.alloc hz1 _) hz1 _
 have hSt:isArr V w1.heap.size 186 .u32 8 Sha.start.at:=by rw[←hV];exact setRow_heap _ _ _ _ _ _ (heap_alloc_new _ _)
 clear hV;generalize hW:((V.alloc _).alloc _).alloc _=W;have hWs:W.heap.size=V.heap.size+3:=by rw[←hW];simp
 have hF:Feed K [] (V.heap.size+2) V.heap.size (V.heap.size+1) w1.heap.size w0 W:=by
  refine⟨⟨0,by omega,0,fun _=>0,rfl,fun _=>Nat.zero_lt_succ _,fun i hi=>absurd hi (Nat.not_lt_zero _),?_,?_,?_⟩,?_,?_⟩
  ·rw[←hW,Below.heap_alloc _ _ _ (by simp)]
   have e:V.heap.size+1=(V.alloc (.cells (Array.replicate 64 (.int .u8 0)) 191)).heap.size:=by simp
   rw[e];exact heap_alloc_new _ _
  ·rw[←hW]
   exact((cM V _ _ _ _ (Array.replicate 64 (.int .u8 0)) (by simp) (fun i hi=>dG _ _ _ hi)).alloc _).alloc _
  ·rw[←hW]
   exact((hSt.alloc _).alloc _).alloc _
  ·rw[←hW]
   have e:V.heap.size+2=((V.alloc (.cells (Array.replicate 64 (.int .u8 0)) 191)).alloc (.cells #[.int .i64 0] 3)).heap.size:=by simp
   rw[e];exact heap_alloc_new _ _
  ·rw[←hW]
   exact((hbV.alloc hbV.size _).alloc (by simp;omega) _).alloc (by simp;omega) _
 have F:=aD hF;have HR:=aD (aQ hR0 hbw);have HZ:=aD (aQ hz0 (aQ hz1 (aQ hVs hWs)));clear hF hW hSt hbV hR0 hbw hb1 hz0 hz1 hVs hWs;generalize V.heap.size=bb at F HZ ⊢;generalize w1.heap.size=bs at F HZ ⊢;go_wp2_with fail
 go_loopw [18] (fun i wr=>∃j:Nat,j≤n∧i= .int .i64 j∧Feed K (Wir.join (ll.take j)) (bb+2) bb (bb+1) bs w0 wr∧W.heap.size≤wr.heap.size) (fun i _=>n - (intOf i).toNat)
 case atStart=>exact⟨0,by omega,rfl,F.out,Nat.le_refl _⟩
 case round=>
  clear F;obtain⟨j,hj,rfl,hF,hsz⟩:=hrel;have F:=aD hF;have HS:=aD hsz;clear hsz
  by_cases hlt:j<n
  ·have hge:=Wir.get_le ll j (by rw[←HN.out];exact hlt)
   have hsn:=aD (Wir.join_snoc ll j (by rw[←HN.out];exact hlt));have hbw:=(HR.out.2.trans (hF.2.2.mono (by have:=HZ.out;omega)));have hss:=H.out.below hbw;obtain⟨b,off,u,rfl,hu,hbs⟩:=hss.at (k:=j) (by rw[←HN.out];exact hlt);have HL2:=aD (show(Wir.join (ll.take j)).length+(ll.getD j []).length≤140737488355328 by have:=HL.out;omega);have hsep:ll.getD j []≠[]→∀b,u.ownBlock=some b→b≠bb+2∧b≠bb∧b≠bb+1∧b≠bs:=by
    intro hne b' hb';obtain⟨b2,off2,u2,e2,hu2,hr2⟩:=H.out.at (k:=j) (by rw[←HN.out];exact hlt);simp only[Option.some.injEq,Addr.mk.injEq,and_true] at e2;obtain⟨rfl,rfl⟩:=e2;have hlt2:=World.block_lt_of_cell? w _ hu2;have hu3:wr.cell? ⟨b,off+j,none⟩=some u2:=(hbw.cell (p:=⟨b,off+j,none⟩) hlt2).trans hu2;obtain rfl:u2=u:=by rw[hu] at hu3;exact(Option.some.inj hu3).symm
    obtain⟨ua,ucap,rfl⟩:=hr2.form;have h0:0<(ll.getD j []).length:=List.length_pos_iff.2 hne;obtain⟨b3,o3,rfl,hc3⟩:=hr2.at h0;have:=World.block_lt_of_cell? w _ (hc3 0 h0);simp[Value.ownBlock] at hb';have hz:=HZ.out;simp at this;omega
   have HSEP:=aD hsep;have HBS:=aD hbs;obtain⟨ua,ucap,rfl⟩:=hbs.form;have HKC:=aD (HK.out.below HR.out.2);have hd:(bb+2≠bb∧bb+2≠bb+1∧bb+2≠bs∧bb≠bb+1∧bb≠bs∧bb+1≠bs)∧w0.heap.size≤bb+2∧w0.heap.size≤bb∧w0.heap.size≤bb+1∧w0.heap.size≤bs:=by have:=HZ.out;omega
   have HD:=aD hd;clear hF hss hbw hge hsep hbs hd;go_wp2_with (go_at_call 184;refine(wO K (Wir.join (ll.take j)) (ll.getD j []) (bb+2) bb (bb+1) bs _ w0 _ F.out HBS.out HSEP.out HL2.out HD.out.1 HD.out.2 HKC.out).mono ?_;rintro e w3 ⟨rfl,hF3,hs3⟩);go_roundw
   case rel=>exact⟨j+1,by omega,by go_num,by rw[hsn.out];exact hF3,Nat.le_trans HS.out hs3⟩
   case measure=>simp[intOf];omega
  ·obtain rfl:j=n:=by omega
   have e0:ll.take j=ll:=List.take_of_length_le (by rw[HN.out];exact Nat.le_refl _);rw[e0] at F;clear e0 hF;have hT:=F.out.2.1;have cT:=cell_of_one hT;clear hT;obtain⟨l,hl⟩:∃l,l=Wir.join ll:=⟨_,rfl⟩;rw[←hl] at F cT HL;have HLL:=aD hl;clear hl;obtain⟨m,hm⟩:∃m,m=l.length:=⟨_,rfl⟩;rw[←hm] at cT;have HM:=aD hm;clear hm;have hm47:m≤140737488355000:=by rw[HM.out];exact HL.out
   clear hlt;go_wp2_with (go_at_call 186;refine(wC m _ (by omega)).mono ?_;rintro e w3 ⟨vp,rfl,hown3,hbel3⟩);have hF3:=F.out.later hbel3;have hrs3:=hown3.bs.rs;have hz3:=hbel3.size;have hsep:Sha.pad m≠[]→∀b,vp.ownBlock=some b→b≠bb+2∧b≠bb∧b≠bb+1∧b≠bs:=by
    intro _ b hb;have:=(hown3.lt b hb).1;have:=HZ.out;have:=HS.out;omega
   have hd:(bb+2≠bb∧bb+2≠bb+1∧bb+2≠bs∧bb≠bb+1∧bb≠bs∧bb+1≠bs)∧w0.heap.size≤bb+2∧w0.heap.size≤bb∧w0.heap.size≤bb+1∧w0.heap.size≤bs:=by have:=HZ.out;omega
   have hpl:(Sha.pad m).length≤72:=by rw[Sha.pad_length];omega
   refine(wO K l (Sha.pad m) (bb+2) bb (bb+1) bs vp w0 _ hF3 hrs3 hsep (by rw[←HM.out];omega) hd.1 hd.2 (HK.out.below HR.out.2)).mono ?_;rintro e w4 ⟨rfl,hF4,hs4⟩;have hA:=hF4.whole (by rw[List.length_append,←HM.out];exact Sha.pad_whole m);have hst:(Sha.run K (l++Sha.pad m) ((l++Sha.pad m).length / 64))=(Sha.run K (l++Sha.pad l.length) ((l++Sha.pad l.length).length / 64)):=by rw[HM.out]
   rw[hst] at hA;have ST:=aD (show Sha.digK K l=Sha.out (Sha.run K (l++Sha.pad l.length) ((l++Sha.pad l.length).length / 64)) from rfl);have hS32:=Sha.run_32 K (l++Sha.pad l.length) ((l++Sha.pad l.length).length / 64);generalize Sha.run K (l++Sha.pad l.length) ((l++Sha.pad l.length).length / 64)=s at hA ST hS32;have hR4:∃c:Array Value,w4.heap[w.heap.size]? =some (.cells c 35 (0,0))∧c.size=32:=by
    obtain⟨c,e1,e2⟩:=HR.out.1;exact⟨c,(hF4.2.2.block w.heap.size (by have:=HZ.out;omega)).trans e1,e2⟩
   have hB4:Below w.heap.size w w4:=HR.out.2.trans (hF4.2.2.mono (by have:=HZ.out;omega));have hbs4:=hA.lt;have S32:=aD hS32;have B4:=aD hB4;have R4:=aD hR4;clear hF3 hrs3 hsep hd hpl hF4 hst hS32 hR4 hB4 cT hown3 hbel3 hz3 F;go_upto_region 12 with fail;generalize hV5:w4.alloc _=V5;have hz5:V5.heap.size=w4.heap.size+1:=by rw[←hV5];simp
   have hA5:isArr V5 bs 186 .u32 8 s.at:=by rw[←hV5];exact hA.alloc _
   have hO5:OutInv s w4.heap.size w4 V5 0:=by
    rw[←hV5];refine⟨?_,(Below.refl _ _).alloc (Nat.le_refl _) _⟩;exact(cM w4 _ _ _ _ (Array.replicate 32 (.int .u8 0)) (by simp) (fun i hi=>dG _ _ _ hi)).congr fun i _=>by rw[if_neg (Nat.not_lt_zero _)]
   have O5:=aD hO5;have HA:=aD hA;clear hA hV5 hO5;go_wp2_with (refine wpList_load_row rfl _ _ rfl bs rfl _ _ (0,0) _ hA5 rfl rfl (hi8 _) ?_);clear hA5
   go_loopw [31] (fun i wr=>∃q:Nat,q≤8∧i= .int .i64 q∧OutInv s w4.heap.size w4 wr (4*q)) (fun i _=>8 - (intOf i).toNat)
   case atStart=>exact⟨0,by omega,rfl,O5.out⟩
   case round=>
    clear O5;obtain⟨q,hq,rfl,hO⟩:=hrel;have O:=aD hO;clear hO
    by_cases hlt:q<8
    ·have hix:=fun wx=>fY (w:=wx) (k:=.i64) .u32 Tryz.underlying186 Tryz.underlying44 (by kernel_rfl) hlt (cJ .u32 8 s.at q hlt)
     have hx32:=Sha.at_32 s S32.out q;have HX:=aD (show ∀t,t<4→Sha.out s (4*q+t)=s.at q / 2 ^ (24 - 8*t) % 256 from fun t ht=>by unfold Sha.out;rw[show(4*q+t) / 4=q by omega,show(4*q+t) % 4=t by omega]);generalize s.at q=x at hix hx32 HX;go_wp2_with fail
     go_loopw [35] (fun i wr=>∃t:Nat,t≤4∧i= .int .i64 t∧OutInv s w4.heap.size w4 wr (4*q+t)) (fun i _=>4 - (intOf i).toNat)
     case atStart=>exact⟨0,by omega,rfl,O.out⟩
     case round=>
      clear O hix;obtain⟨t,ht,rfl,hO⟩:=hrel
      by_cases hlt2:t<4
      ·have c0:=hO.1.cell (i:=4*q+t) (by omega)
       have f0:=hO.1.frozen (4*q+t);have O2:=hO.set (Nat.le_refl _);rw[HX.out t hlt2] at O2;have O3:=aD O2;clear hO O2;go_wp2_with fail;have e:((x:Int) / 2 ^ (24 - 8*t) % 256)=((x / 2 ^ (24 - 8*t) % 256:Nat):Int):=by rw[Int.natCast_emod,Int.natCast_ediv,Int.natCast_pow];rfl
       go_roundw
       case rel=>exact⟨t+1,by omega,by go_num,by rw[e];exact O3.out⟩
       case measure=>simp[intOf];omega
      ·obtain rfl:t=4:=by omega
       have O2:=aD hO;clear hO;go_wp2_with fail;go_roundw
       case rel=>exact⟨q+1,by omega,by go_num,O2.out⟩
       case measure=>simp[intOf];omega
    ·obtain rfl:q=8:=by omega
     obtain⟨c,e1,e2⟩:=R4.out;have hO:=O.out;have hrow:isArr wr w4.heap.size 35 .u8 32 (Sha.digK K l):=hO.1.congr fun t ht=>by rw[ST.out];simp[ht]
     have hres:wr.heap[w.heap.size]? =some (.cells c 35 (0,0)):=(hO.2.block _ (lt_of_block e1)).trans e1;have hi32:∀f,((Tryz.prog).info? 35).map (·.size)=some (aH .u8 32 f).size:=by intro f;rw[aA];rfl
     go_wp2_with (first|refine wpList_load_row rfl _ _ rfl (w4.heap.size) rfl _ _ (0,0) _ hrow rfl rfl (hi32 _) ?_|(refine wpList_store_row rfl _ _ _ rfl w.heap.size _ rfl rfl _ _ hres (hi32 _) (by rw[aA];exact e2) (aL _ _ _) ?_));exact bodyPost_ret (results_cell_row rfl _ _ w.heap.size _ _ (0,0) _ rfl (setRow_heap wr w.heap.size _ _ _ (0,0) hres) rfl rfl (hi32 _)) rfl ⟨by rw[HLL.out],below_setRow (B4.out.trans (hO.2.mono B4.out.size)) (Nat.le_refl _) _⟩
end Go.Proofs.YtcoolgnlhheaiaaGreatDoor
namespace Sha
theorem enc_take (j x:Nat) (h:j<8):(Wir.enc 8 x).take (j+1)=(Wir.enc 8 x).take j++[x / 256 ^ (7 - j) % 256]:=by
 rw[Wir.enc_cons,Wir.enc_cons,Wir.enc_cons,Wir.enc_cons,Wir.enc_cons,Wir.enc_cons,Wir.enc_cons,Wir.enc_cons];rcases j with _|_|_|_|_|_|_|_|j<;>first|rfl|omega
end Sha
namespace Go.Proofs.YtcoolgnlhheaiaaGreatDoor
open Go.RowKit Go.Deep
set_option linter.all false
set_option maxRecDepth 100000
set_option maxHeartbeats 4000000
theorem nC (n:Nat) (w:World) (hn:n≤140737488355328):
 Calls Tryz.prog 94 #[.int .i64 n] w (cG (Sha.pad n) w):=by
 obtain⟨z,hz⟩:∃z,z=(119 - n % 64) % 64:=⟨_,rfl⟩;have E:=aD (show Sha.pad n=128::(List.replicate z 0++Wir.enc 8 (8*n)) by rw[hz];rfl);have hz64:z<64:=by omega
 have hx:(n:Int)*8=((8*n:Nat):Int):=by omega
 have hx2:8*n<18446744073709551616:=by omega
 have HZ:=aD hz;clear hz;generalize 8*n=x at E hx hx2;go_enter Tryz.func94,Tryz.ntmps94;go_wp2_with fail
 go_loopw [3] (fun v wr=>∃k:Nat,k≤z∧Own wr w.heap.size v (128::List.replicate k 0)∧Below w.heap.size w wr) (fun v _=>100 - mX v)
 case atStart=>exact⟨0,by omega,bL w _ [128] (AllB.one (by omega)) (Nat.le_refl _) (by simp),(Below.refl _ _).alloc (Nat.le_refl _) _⟩
 case round=>
  obtain⟨k,hk,hown,hbel⟩:=hrel;have hsz:=hbel.size;have B:=aD hbel;clear hbel;obtain⟨va,vcap,rfl⟩:=hown.form;have e:(128::List.replicate k 0).length=k+1:=by simp
  rw[e] at hown ⊢;clear e;have O:=aD hown;clear hown
  by_cases hlt:k<z
  ·have ht:(((n:Int)+(k+1)+8) % 64 !=0)=true:=by have:=HZ.out;rw[bne_iff_ne];omega
   go_wp2_with (at_builtin;go_must (refine bW rfl _ _ rfl w.heap.size _ (128::List.replicate k 0) rfl (O.out.alloc _) _ [0] rfl (bL wr _ [0] (AllB.one (by omega)) hsz (by simp)).bs (by simp;omega) (Nat.le_trans hsz (by simp)) ?_;intro v2 w2 hown2 hgr2));have hb2:=aP (B.out.alloc hsz (.cells #[bv 0] 5)) (Nat.le_refl _) hgr2 (fun g hg=>(O.out.lt g hg).1);have e:(128::List.replicate k 0)++[0]=128::List.replicate (k+1) 0:=by rw[List.replicate_succ'];rfl
   rw[e] at hown2;have hl2:mX v2=k+2:=by obtain⟨a2,c2,rfl⟩:=hown2.form;simp[mX]
   have HL2:=aD hl2;clear hgr2 hl2 e;go_wp2_with fail;go_roundw
   case rel=>exact⟨k+1,by omega,hown2,hb2⟩
   case measure=>rw[HL2.out];simp[mX];omega
  ·obtain rfl:k=z:=by omega
   have ht:(((n:Int)+(k+1)+8) % 64 !=0)=false:=by have:=HZ.out;rw[bne_eq_false_iff_eq];omega
   clear hlt hk;go_wp2_with fail
   go_loopw [3,5] (fun v i wr=>∃j:Nat,j≤8∧i= .int .i64 (7 - (j:Int))∧Own wr w.heap.size v (128::(List.replicate k 0++(Wir.enc 8 x).take j))∧Below w.heap.size w wr) (fun _ i _=>(intOf i+1).toNat)
   case atStart=>exact⟨0,by omega,rfl,by simpa using O.out,B.out⟩
   case round=>
    clear O B hsz ht;obtain⟨j,hj,rfl,hown,hbel⟩:=hrel;have hsz:=hbel.size;have B:=aD hbel;clear hbel;obtain⟨va,vcap,rfl⟩:=hown.form;have e:(128::(List.replicate k 0++(Wir.enc 8 x).take j)).length=k+1+j:=by simp[Wir.enc_length];omega
    rw[e] at hown ⊢;clear e;have O:=aD hown;clear hown
    by_cases hlt:j<8
    ·obtain⟨p,hp⟩:∃p:Nat,p=7 - j:=⟨_,rfl⟩
     have hpi:(7:Int) - j=(p:Int):=by omega
     have hp8:p<8:=by omega
     rw[hpi];have T:=aD (Sha.enc_take j x hlt);have hq:x / 2 ^ (8*p)=x / 256 ^ (7 - j):=by rw[Wir.pow_shift,hp]
     have hql:x / 256 ^ (7 - j)≤x:=Nat.div_le_self _ _;generalize x / 256 ^ (7 - j)=q at T hq hql;have hqi:(x:Int) / 2 ^ (8*p)=(q:Int):=by rw[←hq,Int.natCast_ediv,Int.natCast_pow];rfl
     have HP:=aD (aQ hp hpi);clear hp hpi hq;have hq2:q % 256<256:=Nat.mod_lt _ (by omega);go_wp2_with (at_builtin;go_must (refine bW rfl _ _ rfl w.heap.size _ (128::(List.replicate k 0++(Wir.enc 8 x).take j)) rfl (O.out.alloc _) _ [q % 256] rfl (bL wr _ [q % 256] (AllB.one hq2) hsz (by simp)).bs (by simp[Wir.enc_length];omega) (Nat.le_trans hsz (by simp)) ?_;intro v2 w2 hown2 hgr2));have hb2:=aP (B.out.alloc hsz (.cells #[bv (q % 256)] 5)) (Nat.le_refl _) hgr2 (fun g hg=>(O.out.lt g hg).1);have e:(128::(List.replicate k 0++(Wir.enc 8 x).take j))++[q % 256]=128::(List.replicate k 0++(Wir.enc 8 x).take (j+1)):=by rw[T.out];simp
     rw[e] at hown2;have h1:(p:Int) - 1=7 - ↑(j+1):=by have:=HP.out;omega
     refine⟨⟨j+1,by omega,congrArg (Value.int .i64) h1,hown2,hb2⟩,?_⟩;simp[intOf]
    ·obtain rfl:j=8:=by omega
     have hO:=O.out;have e:(Wir.enc 8 x).take 8=Wir.enc 8 x:=List.take_of_length_le (by rw[Wir.enc_length];exact Nat.le_refl _);rw[e] at hO;have O2:=aD hO;clear hO e;clear hlt hj;go_wp2_with fail;go_ret;exact⟨_,rfl,by rw[E.out];exact O2.out,B.out⟩
end Go.Proofs.YtcoolgnlhheaiaaGreatDoor
namespace Go.Proofs.YtcoolgnlhheaiaaGreatDoor
open Go.RowKit Go.Deep
set_option linter.all false
set_option maxRecDepth 100000
set_option maxHeartbeats 4000000
theorem kC (x k:Int) (w:World) (hx:0≤x∧x<4294967296) (hk:1≤k∧k<32):
 Calls Tryz.prog 148 #[.int .u32 x,.int .u64 k] w fun e w'=>e= .returned (.int .u32 ↑(Sha.rotr x.toNat k.toNat))∧w=w':=by
 obtain⟨n,rfl⟩:=Int.eq_ofNat_of_zero_le (show 0≤k by omega);exact yY x n w hx (by omega) (by omega)
def RB (s:Sha.St) (b K f:Nat→Nat) (w wr:World):Prop:=
 Below w.heap.size w wr∧isArr wr w.heap.size 186 .u32 8 s.at∧isArr wr (w.heap.size+1) 191 .u8 64 b∧isArr wr (w.heap.size+2) 188 .u32 64 K∧isArr wr (w.heap.size+3) 186 .u32 8 (fun _=>0)∧
  isArr wr (w.heap.size+4) 188 .u32 64 f
theorem RB.drewN {s:Sha.St} {b K f:Nat→Nat} {w wr:World} (h:RB s b K f w wr) (n:Nat):RB s b K f w (wr.drewN n):=⟨aU h.1 n,h.2.1,h.2.2.1,h.2.2.2.1,h.2.2.2.2.1,h.2.2.2.2.2⟩
theorem RB.congr {s:Sha.St} {b K f g:Nat→Nat} {w wr:World} (h:RB s b K f w wr) (e:∀j,j<64→f j=g j):RB s b K g w wr:=⟨h.1,h.2.1,h.2.2.1,h.2.2.2.1,h.2.2.2.2.1,h.2.2.2.2.2.congr e⟩
theorem RB.set {s:Sha.St} {b K f g:Nat→Nat} {w wr:World} (h:RB s b K f w wr) (i x:Nat) (e:∀j,j<64→(if j=i then x else f j)=g j):RB s b K g w (wr.setCell ⟨w.heap.size+4,i,none⟩ (.int .u32 (x:Int))):=
 ⟨bM h.1 (by omega) _ _,h.2.1.setOther (by omega) _ _,h.2.2.1.setOther (by omega) _ _,h.2.2.2.1.setOther (by omega) _ _,h.2.2.2.2.1.setOther (by omega) _ _,(h.2.2.2.2.2.set i x).congr e⟩
theorem aD6 (e f g:Nat) (he:e<4294967296) (hf:f<4294967296) (hg:g<4294967296):
 bits .xor .u32 (bits .and .u32 (e:Int) (f:Int)) (bits .and .u32 (bits .xor .u32 IntKind.u32.max (e:Int)) (g:Int))=((Sha.ch e f g:Nat):Int):=rS e f g he hf hg
def RV (s:Sha.St) (b K:Nat→Nat) (gv:Nat) (g:Nat→Nat) (w wr:World):Prop:=RB s b K (Sha.wd b) w wr∧w.heap.size+5≤gv∧isArr wr gv 186 .u32 8 g
theorem RV.drewN {s:Sha.St} {b K:Nat→Nat} {gv:Nat} {g:Nat→Nat} {w wr:World} (h:RV s b K gv g w wr) (n:Nat):RV s b K gv g w (wr.drewN n):=⟨h.1.drewN n,h.2.1,h.2.2⟩
theorem RV.congr {s:Sha.St} {b K:Nat→Nat} {gv:Nat} {g g':Nat→Nat} {w wr:World} (h:RV s b K gv g w wr) (e:∀j,j<8→g j=g' j):RV s b K gv g' w wr:=⟨h.1,h.2.1,h.2.2.congr e⟩
theorem RV.set {s:Sha.St} {b K:Nat→Nat} {gv:Nat} {g:Nat→Nat} {w wr:World} (h:RV s b K gv g w wr) (i x:Nat):RV s b K gv (fun j=>if j=i then x else g j) w (wr.setCell ⟨gv,i,none⟩ (.int .u32 (x:Int))):=by
 obtain⟨⟨h1,h2,h3,h4,h5,h6⟩,h7,h8⟩:=h;exact⟨⟨bM h1 (by omega) _ _,h2.setOther (by omega) _ _,h3.setOther (by omega) _ _,h4.setOther (by omega) _ _,h5.setOther (by omega) _ _,h6.setOther (by omega) _ _⟩,h7,h8.set i x⟩
def moved (x:Sha.St) (q j:Nat):Nat:=if q<j then x.at (j - 1) else x.at j
theorem xA (x:Sha.St) (q:Nat) (j:Nat):(if j=q+1 then x.at q else moved x (q+1) j)=moved x q j:=by
 unfold moved
 by_cases e:j=q+1
 ·subst e;rw[if_pos rfl,if_pos (by omega),Nat.add_sub_cancel]
 ·rw[if_neg e]
  by_cases e2:q+1<j
  ·rw[if_pos e2,if_pos (by omega)]
  ·rw[if_neg e2,if_neg (by omega)]
theorem uW (x:Sha.St) (j:Nat) (h:j<8):moved x 7 j=x.at j:=by unfold moved;rw[if_neg (by omega)]
theorem uZ (x:Sha.St) (k v:Nat) (j:Nat) (h:j<8):(if j=0 then (Sha.t1 x k v+Sha.t2 x) % 4294967296 else if j=4 then (x.d+Sha.t1 x k v) % 4294967296 else moved x 0 j)=(Sha.round x k v).at j:=by
 unfold Sha.round;generalize Sha.t1 x k v=t;generalize Sha.t2 x=u;unfold moved;rcases j with _|_|_|_|_|_|_|_|j
 all_goals first|omega|simp[Sha.St.at]
theorem rX (s:Sha.St) (b K:Nat→Nat) (w:World) (hs:Sha.St32 s) (hb:∀i,b i<256):
 Calls Tryz.prog 97 #[.agg (aH .u32 8 s.at),.agg (aH .u8 64 b),.agg (aH .u32 64 K)] w fun e w'=>e= .returned (.agg (aH .u32 8 (Sha.blk K s b).at))∧Below w.heap.size w w':=by
 have HS:=aD hs;clear hs;have HB:=aD hb;clear hb;go_enter Tryz.func97,Tryz.ntmps97;go_upto_region 2 with fail;generalize hW:((((w.alloc _).alloc _).alloc _).alloc _).alloc _=W;have INV:RB s b K (fun j=>(Sha.first b 0).getD j 0) w W:=by
  rw[←hW];have z1:w.heap.size+1=(w.alloc (Obj.cells (aH IntKind.u32 8 s.at) 186)).heap.size:=by simp
  have z2:w.heap.size+2=((w.alloc (Obj.cells (aH IntKind.u32 8 s.at) 186)).alloc (Obj.cells (aH IntKind.u8 64 b) 191)).heap.size:=by simp
  have z3:w.heap.size+3=(((w.alloc (Obj.cells (aH IntKind.u32 8 s.at) 186)).alloc (Obj.cells (aH IntKind.u8 64 b) 191)).alloc (Obj.cells (aH IntKind.u32 64 K) 188)).heap.size:=by simp
  have z4:w.heap.size+4=((((w.alloc (Obj.cells (aH IntKind.u32 8 s.at) 186)).alloc (Obj.cells (aH IntKind.u8 64 b) 191)).alloc (Obj.cells (aH IntKind.u32 64 K) 188)).alloc (.cells (Array.replicate 8 (.int .u32 0)) 186)).heap.size:=by simp
  refine⟨(((((Below.refl _ _).alloc (Nat.le_refl _) _).alloc (by simp) _).alloc (by simp;omega) _).alloc (by simp;omega) _).alloc (by simp;omega) _,?_,?_,?_,?_,?_⟩
  ·exact((((aN w _ _ _ _).alloc _).alloc _).alloc _).alloc _
  ·rw[z1];exact(((aN _ _ _ _ _).alloc _).alloc _).alloc _
  ·rw[z2];exact((aN _ _ _ _ _).alloc _).alloc _
  ·rw[z3];exact(cM _ _ _ _ _ (Array.replicate 8 (.int .u32 0)) (by simp) (fun i hi=>dG _ _ _ hi)).alloc _
  ·rw[z4];exact cM _ _ _ _ _ (Array.replicate 64 (.int .u32 0)) (by simp) (fun i hi=>by rw[dG _ _ _ hi];rfl)
 have I0:=aD INV;clear hW INV;go_wp2_with fail
 go_loopw [8] (fun i wr=>∃k:Nat,k≤16∧i= .int .i64 k∧RB s b K (fun j=>(Sha.first b k).getD j 0) w wr) (fun i _=>16 - (intOf i).toNat)
 case atStart=>exact⟨0,by omega,rfl,I0.out⟩
 case round=>
  clear I0;obtain⟨i,hi,rfl,hinv⟩:=hrel;have INV:=aD hinv;clear hinv
  by_cases hlt:i<16
  ·have hd16:decide ((i:Int)<16)=true:=by simp;omega
   go_wp2_with fail
   go_loopw [9] (fun j wr=>∃k:Nat,k≤4∧j= .int .i64 k∧RB s b K (fun j=>(Sha.first b i++[Sha.pw b i k]).getD j 0) w wr) (fun j _=>4 - (intOf j).toNat)
   case atStart=>exact⟨0,by omega,rfl,INV.out.congr fun j _=>(Sha.getD_app_zero _ _).symm⟩
   case round=>
    clear INV;obtain⟨k,hk,rfl,hinv⟩:=hrel;have INV:=aD hinv
    by_cases hlk:k<4
    ·have cb:=hinv.2.2.1.cell (i:=4*i+k) (by omega)
     have cw:=hinv.2.2.2.2.2.cell (i:=i) (by omega);have fw:=hinv.2.2.2.2.2.frozen i;have e1:(Sha.first b i++[Sha.pw b i k]).getD i 0=Sha.pw b i k:=by
      have:=Sha.getD_last (Sha.first b i) (Sha.pw b i k)
      rwa [Sha.first_length] at this
     rw[e1] at cw;have hx:Sha.pw b i k<16777216:=Nat.lt_of_lt_of_le (Sha.pw_lt b HB.out i k) (aIH k (by omega));have hbb:=HB.out (4*i+k);have hnext:∀j,j<64→(if j=i then Sha.pw b i k*256+b (4*i+k) else (Sha.first b i++[Sha.pw b i k]).getD j 0)=(Sha.first b i++[Sha.pw b i (k+1)]).getD j 0:=by
      intro j _;have:=Sha.getD_set_last (Sha.first b i) (Sha.pw b i k) (Sha.pw b i (k+1)) j;rw[Sha.first_length] at this;exact this
     have INV2:=aD (show ∀n,RB s b K (fun j=>(Sha.first b i++[Sha.pw b i (k+1)]).getD j 0) w ((wr.drewN n).setCell ⟨w.heap.size+4,i,none⟩ (.int .u32 ((Sha.pw b i k*256+b (4*i+k):Nat):Int))) from fun n=>(INV.out.drewN n).set i _ hnext);clear hinv e1 hnext INV;generalize Sha.pw b i k=x at cw hx INV2;generalize b (4*i+k)=c at cb hbb INV2;obtain⟨p,hp⟩:∃p:Nat,p=4*i+k:=⟨_,rfl⟩;have lp:(p:Int)<64:=by omega
     have li:(i:Int)<64:=by omega
     have np:0≤(p:Int):=by omega
     have ni:0≤(i:Int):=by omega
     have w4:IntKind.i64.wrap (4*(i:Int))=4*(i:Int):=IntWalk.i64_in _ (by omega);have wp4:IntKind.i64.wrap (4*(i:Int)+k)=(p:Int):=(IntWalk.i64_in _ (by omega)).trans (by omega);rw[←hp] at cb;have HP:=aD hp;clear hp;go_wp2_with fail;go_still_tail 14,(by kernel_rfl);change wpList _ _ _ _ _ (wr.drewN 1);have hv:IntKind.u32.wrap (IntKind.u32.wrap ((x:Int)*256)+IntKind.u32.wrap (c:Int))=((x*256+c:Nat):Int):=by clear w4 wp4;simp only[IntKind.wrap_u32];omega
     rw[hv];clear hv w4 wp4;have cw2:(wr.drewN 1).cell? ⟨w.heap.size+4,i,none⟩=some (.int .u32 (x:Int)):=cw;have fw2:(wr.drewN 1).frozen? ⟨w.heap.size+4,i,none⟩=false:=fw;have INV3:=aD (INV2.out 1);clear INV2 cw fw cb;generalize wr.drewN 1=wd at cw2 fw2 INV3 ⊢;go_wp2_with fail;have e:(x:Int)*256+(c:Int)=((x*256+c:Nat):Int):=by omega
     go_roundw
     case rel=>exact⟨k+1,by omega,by go_num,by first|exact INV3.out|(rw[e];exact INV3.out)⟩
     case measure=>simp[intOf];omega
    ·obtain rfl:k=4:=by omega
     clear hinv;go_wp2_with fail;go_roundw
     case rel=>exact⟨i+1,by omega,by go_num,by rw[Sha.first_succ];exact INV.out⟩
     case measure=>simp[intOf];omega
  ·obtain rfl:i=16:=by omega
   clear hlt hi;have INV3:=aD (show RB s b K (fun j=>(Sha.ext b 0).getD j 0) w wr from INV.out);clear INV;go_wp2_with fail
   go_loopw [10] (fun i wr=>∃m:Nat,m≤48∧i= .int .i64 ((16+m:Nat):Int)∧RB s b K (fun j=>(Sha.ext b m).getD j 0) w wr) (fun i _=>64 - (intOf i).toNat)
   case atStart=>exact⟨0,by omega,rfl,INV3.out⟩
   case round=>
    clear INV3;obtain⟨m,hm,rfl,hinv⟩:=hrel
    by_cases hlt:m<48
    ·have c0:=hinv.2.2.2.2.2.cell (i:=m) (by omega)
     have c1:=hinv.2.2.2.2.2.cell (i:=m+1) (by omega);have c9:=hinv.2.2.2.2.2.cell (i:=m+9) (by omega);have c14:=hinv.2.2.2.2.2.cell (i:=m+14) (by omega);have fw:=hinv.2.2.2.2.2.frozen (16+m);have cw:=hinv.2.2.2.2.2.cell (i:=16+m) (by omega);have h0:=Sha.getD_lt _ (Sha.ext_lt b HB.out m) m;have h1:=Sha.getD_lt _ (Sha.ext_lt b HB.out m) (m+1);have h9:=Sha.getD_lt _ (Sha.ext_lt b HB.out m) (m+9);have h14:=Sha.getD_lt _ (Sha.ext_lt b HB.out m) (m+14);have hnext:∀j,j<64→(if j=16+m then Sha.nextw (Sha.ext b m) m else (Sha.ext b m).getD j 0)=(Sha.ext b (m+1)).getD j 0:=by
      intro j _;have:=Sha.getD_set_new (Sha.ext b m) (Sha.nextw (Sha.ext b m) m) j;rw[Sha.ext_length] at this;exact this
     have INV4:=aD (show ∀n,RB s b K (fun j=>(Sha.ext b (m+1)).getD j 0) w ((wr.drewN n).setCell ⟨w.heap.size+4,16+m,none⟩ (.int .u32 (Sha.nextw (Sha.ext b m) m:Nat))) from fun n=>(hinv.drewN n).set (16+m) _ hnext);have hnw:Sha.nextw (Sha.ext b m) m=((Sha.ext b m).getD m 0+Sha.s0 ((Sha.ext b m).getD (m+1) 0)+(Sha.ext b m).getD (m+9) 0+Sha.s1 ((Sha.ext b m).getD (m+14) 0)) % 4294967296:=rfl;rw[hnw] at INV4;clear hinv hnext hnw;generalize (Sha.ext b m).getD m 0=x0 at c0 h0 INV4;generalize (Sha.ext b m).getD (m+1) 0=x1 at c1 h1 INV4;generalize (Sha.ext b m).getD (m+9) 0=x9 at c9 h9 INV4;generalize (Sha.ext b m).getD (m+14) 0=x14 at c14 h14 INV4;generalize (Sha.ext b m).getD (16+m) 0=xw at cw;obtain⟨i,hi⟩:∃i:Nat,i=16+m:=⟨_,rfl⟩;rw[←hi] at INV4 fw cw ⊢;have hi64:i<64:=by omega
     have hi16:16≤i:=by omega
     have hd:decide ((i:Int)<64)=true:=by simp;omega
     obtain⟨p1,hp1⟩:∃p:Nat,p=m+1:=⟨_,rfl⟩;obtain⟨p9,hp9⟩:∃p:Nat,p=m+9:=⟨_,rfl⟩;obtain⟨p14,hp14⟩:∃p:Nat,p=m+14:=⟨_,rfl⟩;have e15:(i:Int) - 15=(p1:Int):=by omega
     have e2:(i:Int) - 2=(p14:Int):=by omega
     have l1:(p1:Int)<64:=by omega
     have l9:(p9:Int)<64:=by omega
     have l14:(p14:Int)<64:=by omega
     have lm:(m:Int)<64:=by omega
     have li:(i:Int)<64:=by omega
     have n1:0≤(p1:Int):=by omega
     have n9:0≤(p9:Int):=by omega
     have n14:0≤(p14:Int):=by omega
     have nm:0≤(m:Int):=by omega
     have ni:0≤(i:Int):=by omega
     rw[←hp1] at c1;rw[←hp9] at c9;rw[←hp14] at c14;have b1:0≤(x1:Int)∧(x1:Int)<4294967296:=by omega
     have b14:0≤(x14:Int)∧(x14:Int)<4294967296:=by omega
     have W16:=aD (show IntKind.i64.wrap ((i:Int) - 16)=(m:Int) from (IntWalk.i64_in _ (by omega)).trans (by omega));have W7:=aD (show IntKind.i64.wrap ((i:Int) - 7)=(p9:Int) from (IntWalk.i64_in _ (by omega)).trans (by omega));have HI:=aD (aQ hi hm);clear hi hp1 hp9 hp14 hm;go_wp2_with fail;have w16:=W16.out;have w7:=W7.out;go_still_tail 29,(by kernel_rfl)
     repeat (first|still_step|still_call (uF (kC _ _ _ (by first|exact b1|exact b14) (by omega))))
     try refine wpStill_nil ?_
     change wpList _ _ _ _ _ (wr.drewN 1);have hv:IntKind.u32.wrap (IntKind.u32.wrap (IntKind.u32.wrap ((x0:Int)+bits BinOp.xor IntKind.u32 (bits BinOp.xor IntKind.u32 ↑(Sha.rotr x1 7) ↑(Sha.rotr x1 18)) ((x1:Int) / 8))+(x9:Int))+bits BinOp.xor IntKind.u32 (bits BinOp.xor IntKind.u32 ↑(Sha.rotr x14 17) ↑(Sha.rotr x14 19)) ((x14:Int) / 1024))=(((x0+Sha.s0 x1+x9+Sha.s1 x14) % 4294967296:Nat):Int):=by
      clear w16 w7;rw[zM x1 h1,aAN x14 h14];simp only[IntKind.wrap_u32];omega
     rw[hv];clear hv w16 w7;have cw2:(wr.drewN 1).cell? ⟨w.heap.size+4,i,none⟩=some (.int .u32 (xw:Int)):=cw;have fw2:(wr.drewN 1).frozen? ⟨w.heap.size+4,i,none⟩=false:=fw;have INV5:=aD (INV4.out 1);clear INV4 cw fw c0 c1 c9 c14;generalize wr.drewN 1=wd at cw2 fw2 INV5 ⊢;go_wp2_with fail;refine⟨?_,?measure⟩
     ·(repeat apply Exists.intro)
      refine⟨?rel,rfl⟩
      case rel=>
       have h1:(i:Int)+1=((16+(m+1):Nat):Int):=by have:=HI.out;omega
       exact⟨m+1,by have:=HI.out;omega,congrArg (Value.int .i64) h1,INV5.out⟩
     case measure=>simp[intOf];omega
    ·obtain rfl:m=48:=by omega
     have hd:decide (((16+48:Nat):Int)<64)=false:=by decide
     clear hlt hm;have hi8:∀f,((Tryz.prog).info? 186).map (·.size)=some (aH .u32 8 f).size:=by intro f;rw[aA];rfl
     have hS:=hinv.2.1;have I4:=aD (show RB s b K (Sha.wd b) w wr from hinv);clear hinv;go_wp2_with (first|refine wpList_load_row rfl _ _ rfl w.heap.size rfl _ _ (0,0) _ hS rfl rfl (hi8 _) ?_|(refine wpList_store_rowTo rfl _ _ _ rfl rfl wr.heap.size _ rfl rfl _ _ (heap_alloc_new _ _) (hi8 _) (by rw[aA];rfl) (aL _ _ _) ?_));generalize hV:World.setRow _ wr.heap.size _=V;have IV:RV s b K wr.heap.size (Sha.rd K s b 0).at w V:=by
      rw[←hV];obtain⟨h1,h2,h3,h4,h5,h6⟩:=I4.out;have hz:=h6.lt;exact⟨⟨below_setRow (h1.alloc h1.size _) h1.size _,(h2.alloc _).row_other (by omega) _,(h3.alloc _).row_other (by omega) _,(h4.alloc _).row_other (by omega) _,(h5.alloc _).row_other (by omega) _,(h6.alloc _).row_other (by omega) _⟩,by omega,setRow_heap _ _ _ _ _ _ (heap_alloc_new _ _)⟩
     have I5:=aD IV;clear hV IV I4 hS;generalize wr.heap.size=gv at I5 ⊢
     go_loopw [14] (fun i wr=>∃k:Nat,k≤64∧i= .int .i64 k∧RV s b K gv (Sha.rd K s b k).at w wr) (fun i _=>64 - (intOf i).toNat)
     case atStart=>exact⟨0,by omega,rfl,I5.out⟩
     case round=>
      clear I5;obtain⟨k,hk,rfl,hinv⟩:=hrel
      by_cases hlt:k<64
      ·have hd64:decide ((k:Int)<64)=true:=by simp;omega
       have hkc:=hinv.1.2.2.2.1.cell (i:=k) hlt;have hwc:=hinv.1.2.2.2.2.2.cell (i:=k) hlt;have h32:=aAG K b s HS.out k;have hnx:Sha.rd K s b (k+1)=Sha.round (Sha.rd K s b k) (K k) (Sha.wd b k):=rfl;generalize Sha.rd K s b k=x at hinv h32 hnx;have HNX:=aD hnx;clear hnx;have c0:wr.cell? ⟨gv,0,none⟩=some (.int .u32 ↑x.a):=hinv.2.2.cell (i:=0) (by omega);have c1:wr.cell? ⟨gv,1,none⟩=some (.int .u32 ↑x.b):=hinv.2.2.cell (i:=1) (by omega);have c2:wr.cell? ⟨gv,2,none⟩=some (.int .u32 ↑x.c):=hinv.2.2.cell (i:=2) (by omega);have c4:wr.cell? ⟨gv,4,none⟩=some (.int .u32 ↑x.e):=hinv.2.2.cell (i:=4) (by omega);have c5:wr.cell? ⟨gv,5,none⟩=some (.int .u32 ↑x.f):=hinv.2.2.cell (i:=5) (by omega);have c6:wr.cell? ⟨gv,6,none⟩=some (.int .u32 ↑x.g):=hinv.2.2.cell (i:=6) (by omega);have c7:wr.cell? ⟨gv,7,none⟩=some (.int .u32 ↑x.h):=hinv.2.2.cell (i:=7) (by omega);obtain⟨h1,h2,h3,h4,h5,h6,h7,h8⟩:=h32;have ba:0≤(x.a:Int)∧(x.a:Int)<4294967296:=by omega
       have be:0≤(x.e:Int)∧(x.e:Int)<4294967296:=by omega
       have lk:(k:Int)<64:=by omega
       have nk:0≤(k:Int):=by omega
       have INV:=aD hinv;clear hinv;go_wp2_with fail;go_quiet ((go_at_call 148;exact eH (kC _ _ _ be (by omega))));go_wp2_with fail;rw[i7 _ _ _ _ h5,aD6 _ _ _ h5 h6 h7];have ht:((x.h:Int)+((Sha.rotr x.e 6 ^^^ Sha.rotr x.e 11 ^^^ Sha.rotr x.e 25:Nat):Int)+((Sha.ch x.e x.f x.g:Nat):Int)+((K k:Nat):Int)+((Sha.wd b k:Nat):Int)) % 4294967296=((Sha.t1 x (K k) (Sha.wd b k):Nat):Int):=by unfold Sha.t1 Sha.big1;omega
       rw[ht];clear ht;have d0:(wr.drewN nq).cell? ⟨gv,0,none⟩=some (.int .u32 ↑x.a):=c0;have d1:(wr.drewN nq).cell? ⟨gv,1,none⟩=some (.int .u32 ↑x.b):=c1;have d2:(wr.drewN nq).cell? ⟨gv,2,none⟩=some (.int .u32 ↑x.c):=c2;have INV2:=aD (show ∀n,RV s b K gv x.at w ((wr.drewN nq).drewN n) from fun n=>(INV.out.drewN nq).drewN n);clear c0 c1 c2 c4 c5 c6 c7 hkc hwc INV be;generalize wr.drewN nq=wn at d0 d1 d2 INV2 ⊢;go_quiet ((go_at_call 148;exact eH (kC _ _ _ ba (by omega))));go_wp2_with fail;rw[i7 _ _ _ _ h1,tO _ _ _ h1 h2 h3];have hu:(((Sha.rotr x.a 2 ^^^ Sha.rotr x.a 13 ^^^ Sha.rotr x.a 22:Nat):Int)+((Sha.maj x.a x.b x.c:Nat):Int)) % 4294967296=((Sha.t2 x:Nat):Int):=by unfold Sha.t2 Sha.big0;omega
       rw[hu];clear hu d0 d1 d2 ba;have I3:=aD (INV2.out nq);clear INV2;generalize wn.drewN nq=wm at I3 ⊢;have X32:=aD (show Sha.St32 x from ⟨h1,h2,h3,h4,h5,h6,h7,h8⟩);have ht1:Sha.t1 x (K k) (Sha.wd b k)<4294967296:=Nat.mod_lt _ (by omega);have ht2:Sha.t2 x<4294967296:=Nat.mod_lt _ (by omega);have MR:=aD (uZ x (K k) (Sha.wd b k));generalize Sha.t1 x (K k) (Sha.wd b k)=t at ht1 MR ⊢;generalize Sha.t2 x=u at ht2 MR ⊢
       go_loopw [17] (fun i wr=>∃q:Nat,q≤7∧i= .int .i64 q∧RV s b K gv (moved x q) w wr) (fun i _=>(intOf i).toNat)
       case atStart=>exact⟨7,by omega,rfl,I3.out.congr fun j hj=>(uW x j hj).symm⟩
       case round=>
        clear I3;obtain⟨q,hq,rfl,hinv⟩:=hrel
        by_cases h0:q=0
        ·subst h0
         have e4:moved x 0 4=x.d:=rfl;have c4:=hinv.2.2.cell (i:=4) (by omega);rw[e4] at c4;have f4:=hinv.2.2.frozen 4;have f0:=hinv.2.2.frozen 0;have c0:=hinv.2.2.cell (i:=0) (by omega);have I6:=aD ((hinv.set 4 ((x.d+t) % 4294967296)).set 0 ((t+u) % 4294967296));clear hinv;go_wp2_with fail;have e1:((x.d:Int)+(t:Int)) % 4294967296=(((x.d+t) % 4294967296:Nat):Int):=by omega
         have e2:((t:Int)+(u:Int)) % 4294967296=(((t+u) % 4294967296:Nat):Int):=by omega
         have I7:RV s b K gv (Sha.rd K s b (k+1)).at w (((wr.setCell ⟨gv,4,none⟩ (.int .u32 (((x.d+t) % 4294967296:Nat):Int))).setCell ⟨gv,0,none⟩ (.int .u32 (((t+u) % 4294967296:Nat):Int)))):=I6.out.congr fun j hj=>by rw[HNX.out];exact MR.out j hj
         go_roundw
         case rel=>exact⟨k+1,by omega,by go_num,by first|(rw[e1,e2];exact I7)|exact I7⟩
         case measure=>simp[intOf];omega
        ·obtain⟨r,rfl⟩:∃r,q=r+1:=⟨q - 1,by omega⟩
         have hd0:decide (0<((r+1:Nat):Int))=true:=by simp
         have cr:=hinv.2.2.cell (i:=r) (by omega);have fr:=hinv.2.2.frozen (r+1);have cw:=hinv.2.2.cell (i:=r+1) (by omega);have er:moved x (r+1) r=x.at r:=by unfold moved;rw[if_neg (by omega)]
         rw[er] at cr;have I6:=aD ((hinv.set (r+1) (x.at r)).congr fun j _=>xA x r j);generalize x.at r=y at cr I6;clear hinv er h0;go_wp2_with fail;exact⟨⟨r,by omega,rfl,I6.out⟩,by simp[intOf]⟩
      ·obtain rfl:k=64:=by omega
       have hd64:decide (((64:Nat):Int)<64)=false:=by decide
       have hx32:=aAG K b s HS.out 64;have HY:=aD (pN K s b);clear hlt hk;generalize Sha.rd K s b 64=x at hinv hx32 HY;have X32:=aD hx32;clear hx32;have I6:=aD (show RV s b K gv (eU x s 0) w wr by rw[nO];exact hinv);clear hinv;go_wp2_with fail
       go_loopw [18] (fun i wr=>∃m:Nat,m≤8∧i= .int .i64 m∧RV s b K gv (eU x s m) w wr) (fun i _=>8 - (intOf i).toNat)
       case atStart=>exact⟨0,by omega,rfl,I6.out⟩
       case round=>
        clear I6;obtain⟨m,hm,rfl,hinv⟩:=hrel
        by_cases hlt:m<8
        ·have hd8:decide ((m:Int)<8)=true:=by simp;omega
         have c0:=hinv.2.2.cell (i:=m) hlt;have f0:=hinv.2.2.frozen m;rw[vQ] at c0;have cs:=hinv.1.2.1.cell (i:=m) hlt
         have I7:=aD (show ∀n,RV s b K gv (eU x s (m+1)) w ((wr.drewN n).setCell ⟨gv,m,none⟩ (.int .u32 (((x.at m+s.at m) % 4294967296:Nat):Int))) from fun n=>((hinv.drewN n).set m _).congr fun j _=>by
          unfold eU
          by_cases e:j=m
          ·subst e;simp
          ·rw[if_neg e]
           by_cases e2:j<m
           ·rw[if_pos e2,if_pos (by omega)]
           ·rw[if_neg e2,if_neg (by omega)])
         have b1:=Sha.at_32 s HS.out m;have b2:=Sha.at_32 x X32.out m;clear hinv;generalize s.at m=p at cs b1 I7;generalize x.at m=q at c0 b2 I7;have lm:(m:Int)<8:=by omega
         have nm:0≤(m:Int):=by omega
         go_wp2_with fail;go_still_tail 8,(by kernel_rfl);change wpList _ _ _ _ _ (wr.drewN 1);have hv:IntKind.u32.wrap ((q:Int)+(p:Int))=(((q+p) % 4294967296:Nat):Int):=by simp only[IntKind.wrap_u32];omega
         rw[hv];clear hv;have cw2:(wr.drewN 1).cell? ⟨gv,m,none⟩=some (.int .u32 (q:Int)):=c0;have fw2:(wr.drewN 1).frozen? ⟨gv,m,none⟩=false:=f0;have I8:=aD (I7.out 1);clear I7 c0 f0 cs;generalize wr.drewN 1=wd at cw2 fw2 I8 ⊢;go_wp2_with fail
         first
          |exact⟨⟨m+1,by omega,by go_num,I8.out⟩,by simp[intOf];omega⟩
          |(refine⟨?_,?measure⟩
            ·(repeat apply Exists.intro)
             refine⟨?rel,rfl⟩
             case rel=>exact⟨m+1,by omega,by go_num,I8.out⟩
            case measure=>simp[intOf];omega)
        ·obtain rfl:m=8:=by omega
         have hd8:decide (((8:Nat):Int)<8)=false:=by decide
         have k4:isArr wr gv 186 .u32 8 (Sha.blk K s b).at:=hinv.2.2.congr fun j hj=>by
          rw[←HY.out j hj];unfold eU;rw[if_pos hj,if_pos hj,Nat.add_comm]
         have k3:=hinv.1.2.2.2.2.1;have k1:=hinv.1.1;clear hlt hm hinv;go_wp2_with (first|refine wpList_load_row rfl _ _ rfl gv rfl _ _ (0,0) _ k4 rfl rfl (hi8 _) ?_|(refine wpList_store_row rfl _ _ _ rfl (w.heap.size+3) _ rfl rfl _ _ k3 (hi8 _) ((aA _ _ _).trans (aA _ _ _).symm) (aL _ _ _) ?_));exact bodyPost_ret (results_cell_row rfl _ _ (w.heap.size+3) _ _ (0,0) _ rfl (setRow_heap wr (w.heap.size+3) _ _ _ (0,0) k3) rfl rfl (hi8 _)) rfl ⟨rfl,below_setRow k1 (by omega) _⟩
end Go.Proofs.YtcoolgnlhheaiaaGreatDoor
namespace Go.Proofs.YtcoolgnlhheaiaaGreatDoor
open Go.RowKit Go.Deep
set_option linter.all false
set_option maxRecDepth 100000
set_option maxHeartbeats 4000000
theorem l7 {a w:World} {g:Nat} (h:a.grownBy w (some g)) (cs:Array Value):a.grownBy (w.setRow g cs) (some g):=
 ⟨h.os,h.tape,h.output,by rw[setRow_size];exact h.size,fun i hi hne=>(setRow_other _ _ _ _ (by rintro rfl;exact hne rfl)).trans (h.block i hi hne)⟩
theorem rT (w:World) (g:Nat) (hg:w.heap.size=g) (base:Nat) (l:List Nat) (hl:AllB l) (hb:base≤w.heap.size) (h63:l.length≤9223372036854775807):
 Own (w.alloc (.cells (l.map bv).toArray 5)) base (.slice (some ⟨g,0,none⟩) l.length l.length) l:=by subst hg;exact bL w base l hl hb h63
theorem aJX (w:World) (g off n cap p:Nat) (h1:p+64≤cap):(Instr.slice 39 (.slice (some ⟨g,off,none⟩) n cap) (some (.int .i64 (p:Int))) (some (.int .i64 ((p:Int)+64))) none).run Tryz.prog w= .ok (.slice (some ⟨g,off+p,none⟩) 64 (cap - p)) w:=by
 rw[run_slice_lh w _ _ _ _ (by go_simp) .i64 .i64 _ _ (by omega) (by omega) (by omega)]
 go_simp
 have e1:((p:Int)+64).toNat=p+64:=by omega
 rw[e1];refine⟨fun h=>?_,?_⟩<;>omega
theorem fE (v:Value) (l:List Nat) (w:World) (h:Rs w v l) (hlen:l.length≤140737488355000):
 Calls Tryz.prog 57 #[v] w fun e w'=>e= .returned (.agg (aH .u8 32 (Sha.dig l)))∧Below w.heap.size w w':=by
 obtain⟨a,cap,rfl⟩:=h.form;obtain⟨n,hn⟩:∃n,n=l.length:=⟨_,rfl⟩;rw[←hn] at hlen h ⊢;have H:=aD h;clear h;have HN:=aD hn;clear hn;have hi8:∀f,((Tryz.prog).info? 186).map (·.size)=some (aH .u32 8 f).size:=by intro f;rw[aA];rfl
 have hi64:∀f,((Tryz.prog).info? 188).map (·.size)=some (aH .u32 64 f).size:=by intro f;rw[aA];rfl
 go_enter Tryz.func57,Tryz.ntmps57;go_upto_region 2 with (first|(at_builtin;go_must (refine bB rfl (.tmp 9) (.tmp 10) rfl (w.heap.size+1) _ [] rfl (rT _ (w.heap.size+1) (by simp) (w.heap.size+1) [] AllB.nil (by simp) (by simp)) _ l rfl (H.out.below (((Below.refl _ _).alloc (Nat.le_refl _) _).alloc (by simp) _)) (by rw[List.length_nil,Nat.zero_add,←HN.out];omega) (by simp) ?_;intro v1 w1 hown1 hgr1)));have hb1:Below (w.heap.size+1) (w.alloc (.cells (Array.replicate 32 (.int .u8 0)) 35)) w1:=by
  have h0:Below (w.heap.size+1) (w.alloc (.cells (Array.replicate 32 (.int .u8 0)) 35)) ((w.alloc (.cells (Array.replicate 32 (.int .u8 0)) 35)).alloc (.cells #[] 5)):=(Below.refl _ _).alloc (by simp) _;exact aP h0 (by simp) hgr1 (fun g hg=>by simp[Value.ownBlock,Act.eval] at hg;omega)
 clear hgr1;rw[List.nil_append] at hown1;generalize hw0:w.alloc (.cells (Array.replicate 32 (.int .u8 0)) 35)=w0 at hb1;have hz0:w0.heap.size=w.heap.size+1:=by rw[←hw0];simp
 have hR0:∃c:Array Value,w0.heap[w.heap.size]? =some (.cells c 35 (0,0))∧c.size=32:=by rw[←hw0];exact⟨_,heap_alloc_new _ _,by simp⟩
 have hbw:Below w.heap.size w w0:=by rw[←hw0];exact(Below.refl _ _).alloc (Nat.le_refl _) _
 clear hw0;rw[←hz0] at hb1 hown1;have hsz1:=hb1.size;refine(nC n _ (by omega)).mono ?_;rintro e w2 ⟨vp,rfl,hownp,hbelp⟩;have hown2:=hown1.below hbelp;have hb2:=hb1.trans (hbelp.mono hsz1);have hsz2:=hb2.size;clear hown1 hb1 hbelp;have hpl:(Sha.pad n).length≤72:=by rw[Sha.pad_length];omega
 have O2:=aD hown2;have P2:=aD hownp;obtain⟨va,vcap,rfl⟩:=hown2.form;obtain⟨pa,pcap,rfl⟩:=hownp.form;clear hown2 hownp;go_upto_region 2 with (at_builtin;go_must (refine bB rfl (.tmp 11) (.tmp 14) rfl w0.heap.size _ l rfl O2.out _ (Sha.pad n) rfl P2.out.bs.rs (by rw[←HN.out];omega) hsz2 ?_;intro v3 w3 hown3 hgr3));have hb3:=aP hb2 (Nat.le_refl _) hgr3 (fun g hg=>(O2.out.lt g hg).1);have hsz3:=hb3.size;clear hgr3 hb2;go_upto_region 4 with (first|(go_at_call 95;refine(rZ _).mono ?_;rintro e w4 ⟨rfl,hb4⟩)|(go_at_call 96;refine(aBM _).mono ?_;rintro e w5 ⟨rfl,hb5⟩)|(refine wpList_store_rowTo rfl _ _ _ rfl rfl w4.heap.size _ rfl rfl _ _ (heap_alloc_new _ _) (hi8 _) (by rw[aA];rfl) (aL _ _ _) ?_;generalize hV:World.setRow _ w4.heap.size _=V)|(refine wpList_store_rowTo rfl _ _ _ rfl rfl w5.heap.size _ rfl rfl _ _ (heap_alloc_new _ _) (hi64 _) (by rw[aA];rfl) (aL _ _ _) ?_;generalize hV':World.setRow _ w5.heap.size _=V'));have hz4:=hb4.size;have hzV:V.heap.size=w4.heap.size+1:=by rw[←hV,setRow_size];simp
 have hbV:Below w3.heap.size w3 V:=by rw[←hV];exact below_setRow (hb4.alloc hz4 _) hz4 _
 have hSV:isArr V w4.heap.size 186 .u32 8 Sha.start.at:=by rw[←hV];exact setRow_heap _ _ _ _ _ _ (heap_alloc_new _ _)
 have hz5:=hb5.size;have hbV':Below w3.heap.size w3 V':=by rw[←hV'];exact below_setRow ((hbV.trans (hb5.mono hbV.size)).alloc (by omega) _) (by omega) _
 have hS':isArr V' w4.heap.size 186 .u32 8 Sha.start.at:=by rw[←hV'];exact((hSV.below hb5 (by omega)).alloc _).row_other (by omega) _
 have hT':isArr V' w5.heap.size 188 .u32 64 Sha.tab:=by rw[←hV'];exact setRow_heap _ _ _ _ _ _ (heap_alloc_new _ _)
 have hown':=hown3.below hbV';have hbA:=hb3.trans (hbV'.mono hsz3);obtain⟨bs,hbs⟩:∃bs,bs=w4.heap.size:=⟨_,rfl⟩;obtain⟨bt,hbt⟩:∃bt,bt=w5.heap.size:=⟨_,rfl⟩;rw[←hbs] at hS' ⊢;rw[←hbt] at hT' ⊢;have hdif:bs≠bt∧w0.heap.size≤bs:=by omega
 have hvb:v3.ownBlock≠some bs:=fun e=>by have:=(hown3.lt bs e).2;omega
 clear hV hV' hz4 hzV hbV hSV hz5 hbV' hb4 hb5 hb3 hown3 hbs hbt hsz3 hsz2 hsz1;obtain⟨L,hL⟩:∃L,L=l++Sha.pad n:=⟨_,rfl⟩;rw[←hL] at hown';have hLL:L.length=n+(Sha.pad n).length:=by rw[hL,List.length_append,←HN.out]
 have hL64:L.length % 64=0:=by rw[hLL];exact Sha.pad_whole n
 have hLmax:L.length≤140737488355100:=by omega
 have HDIG:=aD (show Sha.dig l=Sha.out (Sha.run Sha.tab L (L.length / 64)) by rw[hL,HN.out];rfl);have HL:=aD hL;clear hL hLL;obtain⟨N,hN⟩:∃N,N=L.length / 64:=⟨_,rfl⟩;have hLN:L.length=64*N:=by omega
 rw[←hN] at HDIG;clear hN hL64;have OV:=aD hown';have RV':=aD (aQ hR0 (aQ hbw hbA));have TV:=aD hT';have SV:=aD hS';have VB:=aD hvb;clear hR0 hbw hbA hT' hS' hvb O2 P2;obtain⟨ga,gcap,rfl⟩:=hown'.form;rw[hLN] at hown' ⊢;have HLN:=aD hLN;clear hown';generalize V'=W at OV RV' TV SV ⊢;go_wp2_with fail
 go_loopw [6] (fun i wr=>∃j:Nat,j≤N∧i= .int .i64 ((64*j:Nat):Int)∧isArr wr bs 186 .u32 8 (Sha.run Sha.tab L j).at∧W.grownBy wr (some bs)) (fun i _=>64*N - (intOf i).toNat)
 case atStart=>exact⟨0,by omega,rfl,SV.out,aE _ _⟩
 case round=>
  clear SV;obtain⟨j,hj,rfl,hS,hgr⟩:=hrel;have hsz:=hgr.size;have hT:isArr wr bt 188 .u32 64 Sha.tab:=TV.out.of_block (hgr.block bt TV.out.lt (fun e=>hdif.1 (Option.some.inj e.symm)));have hOB:=OV.out.bs.only hgr (.inr VB.out)
  by_cases hlt:j<N
  ·have HS:=aD hS
   have HG:=aD hgr;clear hgr;rcases hOB.cases with ⟨h',hnil⟩|⟨g,off,gc,h',hc1,hc2,hc3,hc⟩
   ·rw[hnil] at hLN;simp at hLN;omega
   simp only[Value.slice.injEq,true_and] at h';obtain⟨rfl,rfl⟩:=h';obtain⟨p,hp⟩:∃p,p=64*j:=⟨_,rfl⟩;have hb:=fun i=>hOB.1.get i
   have hca:=uD (o:=p) (n:=64) hc (by omega);have HC:=aD hca;have HBB:=aD (show ∀i,Sha.bl L j i<256 from fun i=>hb _);have hca2:∀i v,(aH .u8 64 (Sha.bl L j))[i]? =some v→wr.cell? ((⟨g,off+p,none⟩:Addr).add i)=some v:=by rw[hp] at hca ⊢;exact hca
   have HC2:=aD hca2;have hTc:=hT.cells;have hSc:=hS.cells;have HTC:=aD hTc;have HSC:=aD hSc;rw[hLN] at hc1;have q1:(p:Int)+64≤(gcap:Int):=by omega
   have q2:IntKind.i64.wrap ((p:Int)+64)=(p:Int)+64:=IntWalk.i64_in _ (by omega);have q3:0≤(p:Int):=by omega
   have q4:(p:Int)+64≤64*(N:Int):=by omega
   have hat:∀(ad:Option Addr) cp wx,(Instr.arrayAt 191 (.slice ad 64 cp)).run Tryz.prog wx= .ok (.pointer ad) wx:=fun ad cp wx=>run_arrayAt wx 191 5 64 ad 64 cp Tryz.underlying191 (Nat.le_refl _)
   have hsl:=fun wx=>aJX wx g off (64*N) gcap p (by omega)
   have hd:decide ((p:Int)<64*(N:Int))=true:=by simp;omega
   rw[←hp];have HP:=aD hp;clear hOB hca hca2 hc hb hTc hSc hp hT hS;go_wp2_with fail;have hib:((Tryz.prog).info? 191).map (·.size)=some (aH .u8 64 (Sha.bl L j)).size:=by rw[aA];rfl
   go_still_tail 9,(by kernel_rfl)
   repeat (first|(refine aY rfl _ _ rfl ⟨bs,0,none⟩ rfl _ _ HSC.out rfl rfl (hi8 _) ?_)|(refine aY rfl _ _ rfl ⟨bt,0,none⟩ rfl _ _ HTC.out rfl rfl (hi64 _) ?_)|(refine aY rfl _ _ rfl ⟨g,off+p,none⟩ rfl _ _ HC2.out rfl rfl hib ?_)|still_step)
   try refine wpStill_nil ?_
   change wpList _ _ _ _ _ (wr.drewN 1);have hS1:=HS.out.drewN 1;have hG1:=aD (aM HG.out 1);clear HS HG HTC HSC HC HC2 hat hsl;generalize wr.drewN 1=wd at hS1 hG1 ⊢;have hlt1:=hS1.lt;go_wp2_with (first|(go_at_call 97;refine(rX (Sha.run Sha.tab L j) (Sha.bl L j) Sha.tab _ (Sha.run_32 _ _ _) HBB.out).mono ?_;rintro e w6 ⟨rfl,hb6⟩;have k6:=hS1.below hb6 hlt1)|(refine wpList_store_row rfl _ _ _ rfl bs _ rfl rfl _ _ k6 (hi8 _) ((aA _ _ _).trans (aA _ _ _).symm) (aL _ _ _) ?_));have e:(p:Int)+64=((64*(j+1):Nat):Int):=by have:=HP.out;omega
   have r1:isArr (w6.setRow bs (aH .u32 8 (Sha.blk Sha.tab (Sha.run Sha.tab L j) (Sha.bl L j)).at)) bs 186 .u32 8 (Sha.run Sha.tab L (j+1)).at:=setRow_heap w6 bs _ _ _ (0,0) k6;have r2:=l7 (fC hG1.out hb6) (aH .u32 8 (Sha.blk Sha.tab (Sha.run Sha.tab L j) (Sha.bl L j)).at);go_roundw
   case rel=>exact⟨j+1,by omega,congrArg (Value.int .i64) e,r1,r2⟩
   case measure=>simp[intOf];omega
  ·rename World=>wq
   obtain rfl:j=N:=by omega
   have hst:=hS;have hS32:=Sha.run_32 Sha.tab L j;generalize Sha.run Sha.tab L j=s at hst HDIG hS32;have HST:=aD hst;have HG:=aD hgr;have S32:=aD hS32;have hd:decide ((64:Int)*(j:Int)<64*(j:Int))=false:=by simp
   clear hS hT hOB hst hgr hS32 hlt;go_upto_region 10 with fail;generalize hV5:wq.alloc _=V5;have hO5:OutInv s wq.heap.size wq V5 0:=by
    rw[←hV5];refine⟨?_,(Below.refl _ _).alloc (Nat.le_refl _) _⟩;exact(cM wq _ _ _ _ (Array.replicate 32 (.int .u8 0)) (by simp) (fun i hi=>dG _ _ _ hi)).congr fun i _=>by rw[if_neg (Nat.not_lt_zero _)]
   have O5:=aD hO5;clear hV5 hO5
   go_loopw [8] (fun i wx=>∃q:Nat,q≤32∧i= .int .i64 q∧OutInv s wq.heap.size wq wx q) (fun i _=>32 - (intOf i).toNat)
   case atStart=>exact⟨0,by omega,rfl,O5.out⟩
   case round=>
    clear O5;obtain⟨i,hi,rfl,hO⟩:=hrel
    by_cases hlt:i<32
    ·have hd32:decide ((i:Int)<32)=true:=by simp;omega
     obtain⟨q,hq⟩:∃q,q=i / 4:=⟨_,rfl⟩;obtain⟨r,hr⟩:∃r,r=i % 4:=⟨_,rfl⟩;obtain⟨t,ht⟩:∃t,t=24 - 8*r:=⟨_,rfl⟩;have eq1:(i:Int) / 4=(q:Int):=by omega
     have er1:(i:Int) % 4=(r:Int):=by omega
     have et1:(24:Int) - 8*(r:Int)=(t:Int):=by omega
     have hq8:q<8:=by omega
     have hr4:r<4:=by omega
     have ht32:t<32:=by omega
     have cs:=(HST.out.below hO.2 HST.out.lt).cell (i:=q) hq8;have c0:=hO.1.cell (i:=i) hlt;have f0:=hO.1.frozen i;have O2:=hO.set (Nat.le_refl _);have ho:Sha.out s i=s.at q / 2 ^ t % 256:=by unfold Sha.out;rw[←hq,←hr,←ht]
     rw[ho] at O2;have O3:=aD O2;have hx32:=Sha.at_32 s S32.out q;clear hO O2 ho hq hr ht;generalize s.at q=x at cs O3 hx32;generalize (if i<i then Sha.out s i else 0)=y at c0;go_wp2_with fail;have e:((x:Int) / 2 ^ t % 256)=((x / 2 ^ t % 256:Nat):Int):=by rw[Int.natCast_emod,Int.natCast_ediv,Int.natCast_pow];rfl
     go_roundw
     case rel=>exact⟨i+1,by omega,by go_num,by rw[e];exact O3.out⟩
     case measure=>simp[intOf];omega
    ·obtain rfl:i=32:=by omega
     have hd32:decide (((32:Nat):Int)<32)=false:=by decide
     obtain⟨⟨c,e1,e2⟩,hbw,hbA⟩:=RV'.out;have hrow:isArr wr wq.heap.size 35 .u8 32 (Sha.dig l):=hO.1.congr fun t ht=>by rw[HDIG.out];simp[ht]
     have hlw:w.heap.size<w0.heap.size:=lt_of_block e1;have hbB:Below w0.heap.size w0 wq:=aP hbA (Nat.le_refl _) HG.out (fun g hg=>by simp at hg;omega);have hb5:=hbB.trans (hO.2.mono hbB.size);have hres:=(hb5.block w.heap.size hlw).trans e1;have hi32:∀f,((Tryz.prog).info? 35).map (·.size)=some (aH .u8 32 f).size:=by intro f;rw[aA];rfl
     have HB5:=aD (hbw.trans (hb5.mono (Nat.le_of_lt hlw)));clear hO hbw hbA hbB hb5 e1 hlt hi;go_wp2_with (first|refine wpList_load_row rfl _ _ rfl (wq.heap.size) rfl _ _ (0,0) _ hrow rfl rfl (hi32 _) ?_|(refine wpList_store_row rfl _ _ _ rfl w.heap.size _ rfl rfl _ _ hres (hi32 _) (by rw[aA];exact e2) (aL _ _ _) ?_));exact bodyPost_ret (results_cell_row rfl _ _ w.heap.size _ _ (0,0) _ rfl (setRow_heap _ w.heap.size _ _ _ (0,0) hres) rfl rfl (hi32 _)) rfl ⟨rfl,below_setRow HB5.out (Nat.le_refl _) _⟩
end Go.Proofs.YtcoolgnlhheaiaaGreatDoor
namespace Go.Proofs.YtcoolgnlhheaiaaGreatDoor
open Go.RowKit Go.Deep
set_option linter.all false
set_option maxRecDepth 100000
set_option maxHeartbeats 4000000
theorem r9 {w:World} {u:Value} {a:List Nat} (hu:Rs w u a):Bss (w.alloc (.cells #[u] 39)) (.slice (some ⟨w.heap.size,0,none⟩) 1 1) [a]:=
 gK w [u] [a] rfl (by simp) fun i x hx=>by
  match i with
  |0=>simp at hx;subst hx;exact hu
  |_+1=>simp at hx
theorem tV (w:World) (g:Nat) (hg:w.heap.size=g) (l:List Nat) (hl:AllB l) (h63:l.length≤9223372036854775807):
 Rs (w.alloc (.cells (l.map bv).toArray 5)) (.slice (some ⟨g,0,none⟩) l.length l.length) l:=by
 subst hg;exact(bL w 0 l hl (Nat.zero_le _) h63).bs.rs
theorem rP (v:Value) (ll:List (List Nat)) (w:World) (h:Bss w v ll) (hlen:(Wir.join ll).length≤140737488355000) (hK:Consts w Sha.tab):
 Calls Tryz.prog 117 #[v] w fun e w'=>e= .returned (.agg (aH .u8 32 (Sha.dig (Wir.join ll))))∧Below w.heap.size w w':=aHN Sha.tab v ll w h hlen hK
end Go.Proofs.YtcoolgnlhheaiaaGreatDoor
