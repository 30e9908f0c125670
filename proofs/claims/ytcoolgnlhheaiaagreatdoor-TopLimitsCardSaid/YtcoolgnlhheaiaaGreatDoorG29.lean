import Derived.LaidMore
import Derived.Lib.LaidTab
import Derived.SevenTiedAt
import Derived.Stop.Joined
import Derived.Test.YtcoolgnlhheaiaaGreatDoorCards
import Derived.Test.YtcoolgnlhheaiaaGreatDoorTie
import Derived.Test.YtcoolgnlhheaiaaGreatDoorG18
import Derived.Test.YtcoolgnlhheaiaaGreatDoorG20
import Derived.Test.YtcoolgnlhheaiaaGreatDoorG27
import Derived.Test.YtcoolgnlhheaiaaGreatDoorG28
namespace Go.Proofs.YtcoolgnlhheaiaaGreatDoor
open Go.RowKit Go.Deep
set_option linter.all false
set_option maxRecDepth 100000
set_option maxHeartbeats 4000000
theorem pI (l:List Nat) (h:65536≤l.length):Wir.putString 2 l=none:=by
 unfold Wir.putString Wir.putNumber
 rw[if_neg (by omega),if_neg (by have:(256:Nat) ^ (2:Int).toNat=65536:=by decide
                                 omega)];rfl
theorem nU (v:Value) (l:List Nat) (w:World) (h:Rs w v l) (hb:l.length≤1000000000):
 Calls Tryz.prog 129 #[.int .i64 2,v] w fun e w'=>Below w.heap.size w w'∧∃m u,e= .returned (.tuple #[u,.bool (decide (l.length<65536))])∧Own w' w.heap.size u m∧m.length≤l.length+2∧(l.length<65536→m=Wir.enc 2 l.length++l):=by
 refine(lL 2 v l w h (by omega)).mono ?_;rintro e w' ⟨hb',ht⟩;refine⟨hb',?_⟩
 by_cases hl:l.length<65536
 ·rw[pH l hl] at ht
  rcases ht with ⟨hno,_⟩|⟨m,u,hm,rfl,o⟩
  ·cases hno
  cases hm
  exact⟨_,u,by rw[decide_eq_true hl],o,by rw[List.length_append,Wir.enc_length];omega,fun _=>rfl⟩
 ·rw[pI l (by omega)] at ht
  rcases ht with ⟨_,rfl⟩|⟨_,_,hno,_⟩
  ·exact⟨[],_,by rw[decide_eq_false hl],Own.nil _ _,by simp,fun h=>absurd h hl⟩
  ·cases hno
theorem oM (u v:Value) (x y:List Nat) (w:World) (hu:Rs w u x) (hv:Rs w v y) (hx:x.length≤1000000000) (hy:y.length≤1000000000):
 Calls Tryz.prog 84 #[u,v] w (eA (Req.bytes x y) w):=by
 obtain⟨ua,uc,rfl⟩:=hu.form;obtain⟨va,vc,rfl⟩:=hv.form;have HU:=aD hu;have HV:=aD hv;generalize hR:Req.bytes x y=R;have HR:=aD hR;clear hu hv hR;go_enter Tryz.func84,Tryz.ntmps84;go_wp2_with fail;refine(nU _ x w HU.out hx).mono ?_;rintro e w1 ⟨hb1,X,u1,rfl,o1,lX,eX⟩;obtain⟨a1,c1,rfl⟩:=o1.form;have HV1:=aD (HV.out.below hb1);have G1:=aC hb1 none;go_wp2_with fail;refine(nU _ y w1 HV1.out hy).mono ?_;rintro e w2 ⟨hb2,Y,u2,rfl,o2,lY,eY⟩;obtain⟨a2,c2,rfl⟩:=o2.form;have O1:=aD (o1.below hb2).bs.rs;have O2:=aD o2.bs.rs;have G2:=aF G1 (aC hb2 none);have HX:=aD (aQ lX eX);have HY:=aD (aQ lY eY);clear o1 o2 hb1 hb2 G1 HV1 HU HV lX eX lY eY;go_wp2_with fail;have A1:Below w2.heap.size w2 (w2.alloc (.cells #[.int .u8 65,.int .u8 80,.int .u8 1] 5)):=(Below.refl _ _).alloc (Nat.le_refl _) _;have r1:Rs (w2.alloc (.cells #[.int .u8 65,.int .u8 80,.int .u8 1] 5)) (.slice (some ⟨w2.heap.size,0,none⟩) 3 3) [65,80,1]:=(bL w2 0 [65,80,1] (fun i hi=>by simp at hi;omega) (Nat.zero_le _) (by decide)).bs.rs;have HB:=aA7 r1 (O1.out.below A1) (O2.out.below A1);have G3:=aG (aG G2 (.cells #[.int .u8 65,.int .u8 80,.int .u8 1] 5)) (.cells #[.slice (some ⟨w2.heap.size,0,none⟩) 3 3,.slice a1 X.length c1,.slice a2 Y.length c2] 39);rw[World.size_alloc] at HB;have hjl:(Wir.join [[65,80,1],X,Y]).length=3+X.length+Y.length:=by
  unfold Wir.join;simp only[List.flatten_cons,List.flatten_nil,List.length_append,List.length_cons,List.length_nil];omega
 refine(dT _ _ _ HB (by rw[hjl];have:=HX.out.1;have:=HY.out.1;omega)).mono ?_;rintro e w3 ⟨v3,rfl,o3,hb3⟩;obtain⟨a3,c3,rfl⟩:=o3.form;have G4:=aF G3 (aC hb3 none);have O3:=aD (o3.mono G3.size);clear o3 HB G3 hb3 A1 r1 G2
 by_cases h1:x.length<65536
 rotate_left
 ·have E1:=aD (show R=none by rw[←HR.out];unfold Req.bytes;rw[if_pos (by omega)])
  clear HR hjl;rw[decide_eq_false h1];go_wp2_with fail;go_ret2;exact⟨aB G4,.inl ⟨E1.out,rfl⟩⟩
 by_cases h2:y.length<65536
 rotate_left
 ·have E1:=aD (show R=none by rw[←HR.out];unfold Req.bytes;rw[if_pos (by omega)])
  clear HR hjl;rw[decide_eq_true h1,decide_eq_false h2];go_wp2_with fail;go_ret2;exact⟨aB G4,.inl ⟨E1.out,rfl⟩⟩
 obtain rfl:=HX.out.2 h1;obtain rfl:=HY.out.2 h2;have hj:Wir.join [[65,80,1],Wir.enc 2 x.length++x,Wir.enc 2 y.length++y]=65::80::1::(Wir.enc 2 x.length++(x++(Wir.enc 2 y.length++y))):=by
  unfold Wir.join;simp
 rw[List.length_append,List.length_append,Wir.enc_length,Wir.enc_length] at hjl;rw[hj] at hjl O3;rw[hj];clear hj HX HY O1 O2
 by_cases hbig:65536<7+x.length+y.length
 ·have E1:=aD (show R=none by rw[←HR.out];unfold Req.bytes;rw[if_pos hbig])
  clear HR;rw[decide_eq_true h1,decide_eq_true h2];generalize 65::80::1::(Wir.enc 2 x.length++(x++(Wir.enc 2 y.length++y)))=J at*;have hJ:65536<J.length:=by omega
  clear hjl;go_wp2_with fail
  all_goals first|omega|skip
  go_ret2;exact⟨aB G4,.inl ⟨E1.out,rfl⟩⟩
 ·have E1:=aD (show R=some (65::80::1::(Wir.enc 2 x.length++(x++(Wir.enc 2 y.length++y)))) by rw[←HR.out];unfold Req.bytes;rw[if_neg hbig])
  clear HR;rw[decide_eq_true h1,decide_eq_true h2];generalize 65::80::1::(Wir.enc 2 x.length++(x++(Wir.enc 2 y.length++y)))=J at*;have hJ:J.length≤65536:=by omega
  clear hjl;go_wp2_with fail
  all_goals first|omega|skip
  go_ret2;exact⟨aB G4,.inr ⟨_,_,E1.out,rfl,O3.out⟩⟩
namespace Req
end Req
end Go.Proofs.YtcoolgnlhheaiaaGreatDoor
namespace Go.Proofs.YtcoolgnlhheaiaaGreatDoor
open Go.RowKit Go.Deep Go.Maps Go.ChangeMaps Go.MapKept Go.WideShapes
set_option linter.all false
end Go.Proofs.YtcoolgnlhheaiaaGreatDoor
namespace Go.Proofs.YtcoolgnlhheaiaaGreatDoor
open Go.RowKit Go.Deep
set_option linter.all false
set_option maxRecDepth 100000
set_option maxHeartbeats 8000000
theorem Req.mk_valid {key nonce kt:Nat→Nat} {t:Tic.T} {a:Aut.A} (ht:Tic.valid t=true) (ha:Aut.valid a=true):Req.mk key nonce kt t a=Req.bytes (Sea.sld key 2 nonce (Tic.bytes t)) (Sea.sld kt 11 nonce (Aut.bytes a)):=if_pos ⟨ht,ha⟩
theorem pB (key nonce:Nat→Nat) (q:ByteArray) (u:Value) (ss:List ByteArray) (s e:Int) (kt:Nat→Nat) (r:ByteArray) (v:Value) (tt:List ByteArray) (t:Int) (m z:Nat) (w:World) (hk:Aes.B8 key) (hn:Aes.B8 nonce) (hq:q.size≤maxLen) (ht:Aes.B8 kt) (hu:Ss w u ss) (hr:r.size≤maxLen) (hm:m<4294967296) (hz:z<4294967296) (hv:Ss w v tt)
 (htv:Tic.valid (tic q ss s e kt)=true) (hav:Aut.valid (aut r tt t m z)=true):
 Calls Tryz.prog 49 #[.agg (aH .u8 16 key),.agg (aH .u8 8 nonce),.agg (tk q u s e kt),.agg (au r v t m z)] w (cG ((Req.mk key nonce kt (tic q ss s e kt) (aut r tt t m z)).getD []) w):=by
 obtain⟨W0,hW0,a0,n0,t0,z0,G0⟩:=xQ w key nonce (tk q u s e kt) (au r v t m z) 65 67;have T0:Tb W0 (w.heap.size+1+1) q u ss s e kt:=⟨t0,hu.only G0,hq,ht⟩;have Z0:Ab W0 (w.heap.size+1+1+1) r v tt t m z:=⟨z0,hv.only G0,hr,hm,hz⟩;have s1:=aA .u8 16 key;have s2:=aA .u8 8 nonce;have s3:=tk_size q u s e kt;have s4:=au_size r v t m z;have s5:=aA .u8 16 kt;obtain⟨ua,uc,rfl⟩:=hu.form;obtain⟨va,vc,rfl⟩:=hv.form;clear hu hv t0 z0;rw[Req.mk_valid htv hav];have htl:=Tic.bytes_len htv (Sea.nl_length _ _);have hal:=Aut.bytes_len hav;have hsl:=Sea.seal_length key 2 nonce (Tic.bytes (tic q ss s e kt));have hsl2:=Sea.seal_length kt 11 nonce (Aut.bytes (aut r tt t m z));have HTV:=aD htv;have HAV:=aD hav;clear htv hav;go_enter Tryz.func49,Tryz.ntmps49;go_upto_region 1 with fail;rw[←hW0];clear hW0;obtain⟨n3,hn3⟩:∃n,n=w.heap.size+1+1+1:=⟨_,rfl⟩;rw[←hn3] at Z0 ⊢;obtain⟨n2,hn2⟩:∃n,n=w.heap.size+1+1:=⟨_,rfl⟩;rw[←hn2] at T0 ⊢;obtain⟨n1,hn1⟩:∃n,n=w.heap.size+1:=⟨_,rfl⟩;rw[←hn1] at n0 ⊢;obtain⟨b0,hb0⟩:∃n,n=w.heap.size:=⟨_,rfl⟩;rw[←hb0] at a0 ⊢;clear hn3 hn2 hn1 hb0;have CK:=aD T0.ck;have hb0:=a0.lt;have hn1:=n0.lt;have hn2:=T0.1.lt;have hn3:=Z0.1.lt;have a1:isArr (W0.drewN 1) b0 22 .u8 16 key:=a0;have n1':isArr (W0.drewN 1) n1 127 .u8 8 nonce:=n0;have T1:Tb (W0.drewN 1) n2 q (.slice ua ss.length uc) ss s e kt:=T0.only (aM (aE W0 none) 1);have Z1:Ab (W0.drewN 1) n3 r (.slice va tt.length vc) tt t m z:=Z0.only (aM (aE W0 none) 1);have CK1:=aD (show ∀j v,(aH .u8 16 kt)[j]? =some v→(W0.drewN 1).cell? ((⟨n2,4,none⟩:Addr).add j)=some v from CK.out);have G1:=aM G0 1;refine bO Tryz.f49 1 6 (fun w'=>Below (W0.drewN 1).heap.size (W0.drewN 1) w') (by kernel_rfl) (by kernel_rfl) (by kernel_rfl) (Below.refl _ _) (fun K hK h0=>?_);refine aW (listed':=#[false,false,false,false,false,false]) (by kernel_rfl) rfl ?_;have HF:=aD hK;clear hK;clear a0 n0 T0 Z0 G0 CK;generalize W0.drewN 1=V at*;refine bG 0 13 (by kernel_rfl) 22 (.tmp 4) (by kernel_rfl) ⟨b0,0,none⟩ (by kernel_rfl) (aH .u8 16 key) _ (fun w' hw' j v hj=>by rw[Addr.add_lit,Nat.zero_add];exact Hb.cell (a1.below hw' a1.lt) hj) Tryz.underlying22 rfl (by kernel_rfl) h0 ?_;simp only[Act.put,aJ,aK,aI];refine bG 1 14 (by kernel_rfl) 127 (.tmp 5) (by kernel_rfl) ⟨n1,0,none⟩ (by kernel_rfl) (aH .u8 8 nonce) _ (fun w' hw' j v hj=>by rw[Addr.add_lit,Nat.zero_add];exact Hb.cell (n1'.below hw' n1'.lt) hj) Tryz.underlying127 rfl (by kernel_rfl) h0 ?_;simp only[Act.put,aJ,aK,aI];refine bG 2 15 (by kernel_rfl) 65 (.tmp 6) (by kernel_rfl) ⟨n2,0,none⟩ (by kernel_rfl) (tk q (.slice ua ss.length uc) s e kt) _ (fun w' hw' j v hj=>by rw[Addr.add_lit,Nat.zero_add];exact(T1.1.below hw' T1.1.lt).cell hj) Tryz.underlying65 rfl (by kernel_rfl) h0 ?_;simp only[Act.put,aJ,aK,aI];refine bE 3 16 83 #[.agg (tk q (.slice ua ss.length uc) s e kt)] (by kernel_rfl) (by kernel_rfl) ?_;refine(oI q _ ss s e kt V hq ht T1.2.1 HTV.out).mono ?_;rintro x w1 ⟨v1,rfl,o1,hb1⟩;refine⟨v1,rfl,hb1,?_⟩;obtain⟨x1,y1,rfl⟩:=o1.form;simp only[Act.put,aJ,aK,aI];refine bE 4 17 82 #[.agg (aH .u8 16 key),.int .u8 2,.agg (aH .u8 8 nonce),.slice x1 (Tic.bytes (tic q ss s e kt)).length y1] (by kernel_rfl) (by kernel_rfl) ?_;refine(mD key nonce 2 2 rfl _ _ w1 hk hn (by omega) o1.bs.rs (by omega)).mono ?_;rintro x w2 ⟨v2,rfl,o2,hb2⟩;have hb12:=oL hb1 hb2;refine⟨v2,rfl,hb12,?_⟩;obtain⟨x2,y2,rfl⟩:=o2.form;simp only[Act.put,aJ,aK,aI];refine aX 5 9 (.slice x2 (Sea.sld key 2 nonce (Tic.bytes (tic q ss s e kt))).length y2) (fun _ _=>by kernel_rfl) hb12 ?_;simp only[Act.put,aJ,aK,aI];refine aZ (by kernel_rfl) (HF.out _ _ ?_);have N2:=isArr.only n1' (aC hb12 none);have T2:=T1.only (aC hb12 none);have Z2:=Z1.only (aC hb12 none);have CK2:=aD T2.ck;have O2:=aD o2.bs.rs;have G2:=aF G1 (aC hb12 none);have hgs:=hb12.size;clear HF h0 hb1 hb2 hb12 o1 o2 a1 n1' T1 Z1 CK1 G1;generalize Sea.sld key 2 nonce (Tic.bytes (tic q ss s e kt))=S1 at*;have HL1:=aD (show S1.length≤1000 by omega);clear htl hsl;go_upto_region 2 with fail;have hn1:=N2.lt;have hn2:=T2.1.lt;have hn3:=Z2.1.lt;have N3:isArr (w2.drewN 1) n1 127 .u8 8 nonce:=N2
 have T3:Tb (w2.drewN 1) n2 q (.slice ua ss.length uc) ss s e kt:=T2.only (aM (aE w2 none) 1);have Z3:Ab (w2.drewN 1) n3 r (.slice va tt.length vc) tt t m z:=Z2.only (aM (aE w2 none) 1);have O3:=aD (O2.out.below (aB (aM (aE w2 none) 1)));have G3:=aM G2 1;refine bO Tryz.f49 2 7 (fun w'=>Below (w2.drewN 1).heap.size (w2.drewN 1) w') (by kernel_rfl) (by kernel_rfl) (by kernel_rfl) (Below.refl _ _) (fun K hK h0=>?_);refine aW (listed':=#[false,false,false,false,false,false,false]) (by kernel_rfl) rfl ?_;have HF:=aD hK;clear hK;clear N2 T2 Z2 G2 CK2 O2;generalize w2.drewN 1=V2 at*;refine aX 0 18 (.pointer (some ⟨n2,4,none⟩)) (fun _ _=>by kernel_rfl) h0 ?_;simp only[Act.put,aJ,aK,aI];refine bG 1 19 (by kernel_rfl) 22 (.tmp 18) (by kernel_rfl) ⟨n2,4,none⟩ (by kernel_rfl) (aH .u8 16 kt) _ (fun w' hw' j v hj=>(T3.below hw').ck j v hj) Tryz.underlying22 rfl (by kernel_rfl) h0 ?_;simp only[Act.put,aJ,aK,aI];refine bG 2 20 (by kernel_rfl) 127 (.tmp 5) (by kernel_rfl) ⟨n1,0,none⟩ (by kernel_rfl) (aH .u8 8 nonce) _ (fun w' hw' j v hj=>by rw[Addr.add_lit,Nat.zero_add];exact Hb.cell (N3.below hw' N3.lt) hj) Tryz.underlying127 rfl (by kernel_rfl) h0 ?_;simp only[Act.put,aJ,aK,aI];refine bG 3 21 (by kernel_rfl) 67 (.tmp 7) (by kernel_rfl) ⟨n3,0,none⟩ (by kernel_rfl) (au r (.slice va tt.length vc) t m z) _ (fun w' hw' j v hj=>by rw[Addr.add_lit,Nat.zero_add];exact(Z3.1.below hw' Z3.1.lt).cell hj) Tryz.underlying67 rfl (by kernel_rfl) h0 ?_;simp only[Act.put,aJ,aK,aI];refine bE 4 22 58 #[.agg (au r (.slice va tt.length vc) t m z)] (by kernel_rfl) (by kernel_rfl) ?_;refine(oP r _ tt t m z V2 hr hm hz Z3.2.1 HAV.out).mono ?_;rintro x w3 ⟨v3,rfl,o3,hb3⟩;refine⟨v3,rfl,hb3,?_⟩;obtain⟨x3,y3,rfl⟩:=o3.form;simp only[Act.put,aJ,aK,aI];refine bE 5 23 82 #[.agg (aH .u8 16 kt),.int .u8 11,.agg (aH .u8 8 nonce),.slice x3 (Aut.bytes (aut r tt t m z)).length y3] (by kernel_rfl) (by kernel_rfl) ?_;refine(mD kt nonce 11 11 rfl _ _ w3 ht hn (by omega) o3.bs.rs (by omega)).mono ?_;rintro x w4 ⟨v4,rfl,o4,hb4⟩;have hb34:=oL hb3 hb4;refine⟨v4,rfl,hb34,?_⟩;obtain⟨x4,y4,rfl⟩:=o4.form;simp only[Act.put,aJ,aK,aI];refine aX 6 10 (.slice x4 (Sea.sld kt 11 nonce (Aut.bytes (aut r tt t m z))).length y4) (fun _ _=>by kernel_rfl) hb34 ?_;simp only[Act.put,aJ,aK,aI];refine aZ (by kernel_rfl) (HF.out _ _ ?_);have O5:=aD (O3.out.below hb34);have O6:=aD o4.bs.rs;have G4:=aF G3 (aC hb34 none);clear HF h0 hb3 hb4 hb34 o3 o4 N3 T3 Z3 O3 G3;generalize Sea.sld kt 11 nonce (Aut.bytes (aut r tt t m z))=S2 at*;have HL2:=aD (show S2.length≤1000 by omega);clear hal hsl2;go_wp2_with fail;refine(oM _ _ S1 S2 w4 O5.out O6.out (Nat.le_trans HL1.out (by omega)) (Nat.le_trans HL2.out (by omega))).mono ?_;rintro x w5 ⟨hb5,hp⟩;have G5:=aF G4 (aC hb5 none);have hg4:=G4.size;rcases hp with ⟨hno,rfl⟩|⟨l,v5,hl,rfl,o5⟩
 ·go_wp2_with fail
  go_ret;exact⟨_,rfl,by rw[hno];exact Own.nil _ _,aB G5⟩
 ·obtain⟨x5,y5,rfl⟩:=o5.form
  go_wp2_with fail;go_ret;exact⟨_,rfl,by rw[hl];exact o5.mono hg4,aB G5⟩
set_option linter.all false
def gL (t:Tic.T):Nat→Nat:=fun i=>t.key.getD i 0
theorem aFI (q:ByteArray) (ss:List ByteArray) (s e:Int) (k:Nat→Nat):aH .u8 16 k=aH .u8 16 (gL (tic q ss s e k)):=
 dS _ _ _ _ fun i hi=>(Sea.nl_get 16 k i hi).symm
theorem aG4 {q:ByteArray} {ss:List ByteArray} {s e:Int} {k:Nat→Nat} (h:Aes.B8 k):Aes.B8 (gL (tic q ss s e k)):=fun i=>by
 unfold gL tic
 by_cases hi:i<16
 ·dsimp only
  rw[Sea.nl_get 16 k i hi];exact h i
 ·dsimp only
  rw[List.getD,List.getElem?_eq_none (by rw[Sea.nl_length];omega)];decide
def Req.opn (key:Nat→Nat) (b:List Nat):Tic.T×Aut.A×Int:=
 match Req.parse b with
 |none=>(iR,iL,1)
 |some p=>if (Tic.opn key p.1).2≠0 then (iR,iL,(Tic.opn key p.1).2) else
  if (Aut.opn (gL (Tic.opn key p.1).1) p.2).2≠0 then (iR,iL,(Aut.opn (gL (Tic.opn key p.1).1) p.2).2) else ((Tic.opn key p.1).1,(Aut.opn (gL (Tic.opn key p.1).1) p.2).1,0)
def aD0 (w:World) (o:Tic.T×Aut.A×Int) (e:Ending) (w':World):Prop:=
 Below w.heap.size w w'∧∃q u ss s x kt r v tt t m z,e= .returned (.tuple #[.agg (tk q u s x kt),.agg (au r v t m z),.int .i64 o.2.2])∧OwnS w' w.heap.size u ss∧OwnS w' w.heap.size v tt∧q.size≤maxLen∧Aes.B8 kt∧r.size≤maxLen∧m<4294967296∧z<4294967296∧tic q ss s x kt=o.1∧aut r tt t m z=o.2.1
theorem iU {w w':World} {e:Ending} {c:Int} (h:Below w.heap.size w w') (he:e= .returned (.tuple #[.agg (tk ⟨#[]⟩ (.slice none 0 0) 0 0 (fun _=>0)),.agg (au ⟨#[]⟩ (.slice none 0 0) 0 0 0),.int .i64 c])):aD0 w (iR,iL,c) e w':=
 ⟨h,⟨#[]⟩,.slice none 0 0,[],0,0,fun _=>0,⟨#[]⟩,.slice none 0 0,[],0,0,0,he,OwnS.nil _ _,OwnS.nil _ _,Nat.zero_le _,fun _=>(by decide:0<256),Nat.zero_le _,by omega,by omega,rfl,rfl⟩
theorem j0 (c:Int) (w:World):Calls Tryz.prog 111 #[.int .i64 c] w fun e w'=>e= .returned (.tuple #[.agg (tk ⟨#[]⟩ (.slice none 0 0) 0 0 (fun _=>0)),.agg (au ⟨#[]⟩ (.slice none 0 0) 0 0 0),.int .i64 c])∧w.grownBy w' none:=by
 have z0:=(Hb.new w (tk ⟨#[]⟩ (.slice none 0 0) 0 0 (fun _=>0)) 65).alloc (.cells (au ⟨#[]⟩ (.slice none 0 0) 0 0 0) 67);have y0:=Hb.new (w.alloc (.cells (tk ⟨#[]⟩ (.slice none 0 0) 0 0 (fun _=>0)) 65)) (au ⟨#[]⟩ (.slice none 0 0) 0 0 0) 67;simp only[World.size_alloc] at y0;have G0:=aG (aG (aE w none) (.cells (tk ⟨#[]⟩ (.slice none 0 0) 0 0 (fun _=>0)) 65)) (.cells (au ⟨#[]⟩ (.slice none 0 0) 0 0 0) 67);go_enter Tryz.func111,Tryz.ntmps111;go_upto_region 1 with fail;rw[tk0,au0];generalize (w.alloc (.cells (tk ⟨#[]⟩ (.slice none 0 0) 0 0 (fun _=>0)) 65)).alloc (.cells (au ⟨#[]⟩ (.slice none 0 0) 0 0 0) 67)=V at*;obtain⟨ba,hb⟩:∃n,n=w.heap.size+1:=⟨_,rfl⟩;rw[←hb] at y0 ⊢;have hne:ba≠w.heap.size:=by omega
 have hba:w.heap.size≤ba:=by omega
 clear hb;have y1:=y0.keep (z0.row (tk ⟨#[]⟩ (.slice none 0 0) 0 0 (fun _=>0))).2 (by simp;omega);go_wp2_with (first|refine wpList_buildTo rfl 65 _ rfl _ rfl (tk ⟨#[]⟩ (.slice none 0 0) 0 0 (fun _=>0)) (by kernel_rfl) ?_|refine wpList_buildTo rfl 67 _ rfl _ rfl (au ⟨#[]⟩ (.slice none 0 0) 0 0 0) (by kernel_rfl) ?_|refine wpList_store_rowTo rfl _ _ _ rfl rfl w.heap.size _ rfl rfl _ _ z0 (bI _ _ _ _ _) (by simp only[tk_size]) (cR _ _ _ _ _ rfl) ?_|refine wpList_store_rowTo rfl _ _ _ rfl rfl ba _ rfl rfl _ _ y1 (bJ _ _ _ _ _) (by simp only[au_size]) (cY _ _ _ _ _ rfl) ?_)
 try simp only[Exit.inBlock,Exit.then,Exit.noGoto_ret]
 refine bodyPost_ret (dA rfl _ _ w.heap.size ba _ _ _ _ (0,0) (0,0) _ _ rfl ((z0.row _).1.keep (y1.row _).2 (by simp;omega)) rfl rfl (bI _ _ _ _ _) rfl (y1.row _).1 rfl rfl (bJ _ _ _ _ _)) rfl ?_;exact⟨rfl,aO (aO G0 (z0.row _).2 (Nat.le_refl _)) (y1.row _).2 hba⟩
theorem tI {w:World} {b:Nat} {cs:Array Value} {t:TypeId} (h:Hb w b cs t):w.setRow b cs=w:=by
 have e:(w.setRow b cs).heap=w.heap:=Array.ext_getElem? fun k=>by
  by_cases e:k=b
  ·subst e;exact(setRow_heap _ _ _ _ _ _ h).trans h.symm
  ·simp[World.setRow,Array.getElem?_modify,Ne.symm e]
 unfold World.setRow at e ⊢;dsimp only at e;rw[e]
theorem i6 {ops:Array Oper} {S:World→Prop} {K:Act→World→Prop} {n:Nat} {listed:Array Bool} {a:Act} {w:World} (i:Nat) (hr:Region.ready .any ops listed=[i]) (h1:Nat.blt i ops.size=true) (hw:Region.wanted (opn ops i) (yielded ops a.tmps)=true) (ty:TypeId) (x y:Operand)
 (ho:(opn ops i).op= .store ty x y) (hd:(opn ops i).dst=none) (g:Nat) (cells:Array Value) (hx:a.eval x= .pointer (some ⟨g,0,none⟩)) (hy:a.eval y= .agg cells) (t:TypeId) (hg:Hb w g cells t) (hi:(Tryz.prog.info? ty).map (·.size)=some cells.size) (hone:cells.all (·.oneCell')=true) (hS:S w)
 (h:wpAnyH Tryz.prog .any ops (nq K) S n (listed.setIfInBounds i true) a w):wpAnyH Tryz.prog .any ops (nq K) S (n+1) listed a w:=
 aR i hr h1 (HStep.of_law #[] hw fun K' hK=>wpList_store_rowTo rfl ty x y ho hd g cells hx hy t cells hg hi rfl hone (bH (by rw[tI hg];exact hK _ _ hS h)))
theorem y8 (w:World) (f:Nat→Nat):∃W:World,W=((w.alloc (.cells (aH .u8 16 f) 22)).alloc (.cells (tk ⟨#[]⟩ (.slice none 0 0) 0 0 (fun _=>0)) 65)).alloc (.cells (au ⟨#[]⟩ (.slice none 0 0) 0 0 0) 67)∧
 isArr W w.heap.size 22 .u8 16 f∧Hb W (w.heap.size+1) (tk ⟨#[]⟩ (.slice none 0 0) 0 0 (fun _=>0)) 65∧Hb W (w.heap.size+1+1) (au ⟨#[]⟩ (.slice none 0 0) 0 0 0) 67∧w.grownBy W none:=by
 have a:=aN w 22 .u8 16 f;have b:=Hb.new (w.alloc (.cells (aH .u8 16 f) 22)) (tk ⟨#[]⟩ (.slice none 0 0) 0 0 (fun _=>0)) 65;have c:=Hb.new ((w.alloc (.cells (aH .u8 16 f) 22)).alloc (.cells (tk ⟨#[]⟩ (.slice none 0 0) 0 0 (fun _=>0)) 65)) (au ⟨#[]⟩ (.slice none 0 0) 0 0 0) 67;simp only[World.size_alloc] at b c;exact⟨_,rfl,(a.alloc _).alloc _,b.alloc _,c,aG (aG (aG (aE w none) _) _) _⟩
theorem nQ (key:Nat→Nat) (v:Value) (l:List Nat) (w:World) (hk:Aes.B8 key) (hv:Rs w v l) (hl:l.length≤1000000) (hK:Consts w Sha.tab):
 Calls Tryz.prog 77 #[.agg (aH .u8 16 key),v] w (aD0 w (Req.opn key l)):=by
 have HK:=aD hK;clear hK;obtain⟨a,cap,rfl⟩:=hv.form;have HV:=aD hv;clear hv;have s1:=aA .u8 16 key;obtain⟨V,hV,a0,t0,z0,G0⟩:=y8 w key;generalize hR:Req.opn key l=R;have HR:=aD hR;clear hR;go_enter Tryz.func77,Tryz.ntmps77;go_upto_region 1 with fail;rw[tk0,au0,←hV];clear hV;obtain⟨ba,hba0⟩:∃n,n=w.heap.size+1+1:=⟨_,rfl⟩;rw[←hba0] at z0 ⊢;obtain⟨bt,hbt0⟩:∃n,n=w.heap.size+1:=⟨_,rfl⟩;rw[←hbt0] at t0 ⊢;have hbt:w.heap.size≤bt:=by omega
 have hba:w.heap.size≤ba:=by omega
 have hlt:bt<ba:=by omega
 have hkb:w.heap.size<bt:=by omega
 have hza:=z0.lt;clear hba0 hbt0;go_wp2_with fail;refine(s6 _ l V (HV.out.below (aB G0)) (by omega)).mono ?_;rintro e w1 ⟨hb1,u1,v1,x,y,rfl,ox,oy,hxy⟩;obtain⟨ua,uc,rfl⟩:=ox.form;obtain⟨va,vc,rfl⟩:=oy.form;have F:=dL w1 #[.slice none 0 0,.slice none 0 0] #[.slice ua x.length uc,.slice va y.length vc] 216;have F1:=aF (aC hb1 none) F.2;have a2:=isArr.only a0 F1;have t2:=t0.only F1;have z2:=z0.only F1;have G2:=aF G0 F1;have Q2:=F.1;have ox2:=ox.below (aB F.2);have oy2:=oy.below (aB F.2);have hbq:=hb1.size;clear a0 t0 z0 G0 F1 hb1 ox oy;go_upto_region 3 with (refine wpList_store_rowTo rfl _ _ _ rfl rfl w1.heap.size _ rfl rfl _ _ (heap_alloc_new _ _) (dD _ _) (by rfl) (iN _ _ rfl rfl) ?_);generalize World.setRow _ w1.heap.size _=W2 at*;generalize w1.heap.size=bq at*;clear F;generalize V.heap.size=B at*
 cases hp:Req.parse l with
 |none=>
  have E1:=aD (show R=(iR,iL,1) by rw[←HR.out];unfold Req.opn;rw[hp]);clear HR hxy hp a2 Q2 ox2 oy2;go_wp2_with fail;refine(j0 1 _).mono ?_;rintro e wf ⟨rfl,gf⟩;have zf:=t2.only gf;have yf:=(z2.only gf).keep (zf.row (tk ⟨#[]⟩ (.slice none 0 0) 0 0 (fun _=>0))).2 (by simp;omega);have Gf:=aF G2 gf;go_wp2_with (first|refine wpList_store_rowTo rfl _ _ _ rfl rfl bt _ rfl rfl _ _ zf (bI _ _ _ _ _) (by simp only[tk_size]) (cR _ _ _ _ _ rfl) ?_|refine wpList_store_rowTo rfl _ _ _ rfl rfl ba _ rfl rfl _ _ yf (bJ _ _ _ _ _) (by simp only[au_size]) (cY _ _ _ _ _ rfl) ?_)
  try simp only[Exit.inBlock,Exit.then,Exit.noGoto_ret]
  refine bodyPost_ret (dA rfl _ _ bt ba _ _ _ _ (0,0) (0,0) _ _ rfl ((zf.row _).1.keep (yf.row _).2 (by simp;omega)) rfl rfl (bI _ _ _ _ _) rfl (yf.row _).1 rfl rfl (bJ _ _ _ _ _)) rfl ?_;rw[E1.out];exact iU (aB (aO (aO Gf (zf.row _).2 hbt) (yf.row _).2 hba)) rfl
 |some p=>
  have hps:=Req.bytes_some (Req.parse_some HV.out.1 (show Req.parse l=some (p.1,p.2) by rw[hp]));rw[hp] at hxy;obtain rfl:(x,y)=p:=hxy;dsimp only at hps;have HL:=aD (show x.length≤1000000∧y.length≤1000000 by omega)
  have HR2:=aD (show(if (Tic.opn key x).2≠0 then (iR,iL,(Tic.opn key x).2) else if (Aut.opn (gL (Tic.opn key x).1) y).2≠0 then (iR,iL,(Aut.opn (gL (Tic.opn key x).1) y).2) else ((Tic.opn key x).1,(Aut.opn (gL (Tic.opn key x).1) y).1,0))=R by
   rw[←HR.out];unfold Req.opn;rw[hp])
  clear HR hp hps;have c0:W2.cell? ⟨bq,0,none⟩=some (.slice ua x.length uc):=Q2.cell (i:=0) rfl;go_wp2_with (refine wpList_load_row rfl _ _ rfl w.heap.size rfl _ _ (0,0) _ a2 rfl rfl (dJ _) ?_);refine(zL key _ x W2 hk ox2.bs.rs HL.out.1 (HK.out.below (aB G2))).mono ?_;rintro e w3 ⟨hb3,q,u,ss,s,xx,kt,rfl,o3,hq,hkt,htt⟩;obtain⟨u3,c3,rfl⟩:=o3.ss.form;have g3:=aC hb3 none;have t3:=t2.only g3;have z3:=z2.only g3;have G3:=aF G2 g3;have hgs:(tk q (.slice u3 ss.length c3) s xx kt).size=20:=tk_size _ _ _ _ _;have hw2:=G2.size;have hta:=t2.lt;have hza2:=z2.lt;have T4:=t3.row (tk q (.slice u3 ss.length c3) s xx kt);have z4:=z3.keep T4.2 (by simp;omega);have G4:=aO G3 T4.2 hbt;have O4:=aD (o3.only T4.2 (.inr (fun e=>by have:=(o3.lt bt e).1;omega)));have HO4:=aD (show ∀g,(Value.slice u3 ss.length c3).ownBlock=some g→ba<g from fun g e=>by have:=(o3.lt g e).1;omega);have ox4:=(ox2.below hb3).only T4.2 (.inr (fun e=>by have:=(ox2.lt bt e).1;omega));have oy4:=(oy2.below hb3).only T4.2 (.inr (fun e=>by have:=(oy2.lt bt e).1;omega));have Q4:=(Q2.only g3).keep T4.2 (by simp;omega);clear a2 z2 G2 Q2 c0 hb3 o3 g3 z3 G3 ox2 oy2;generalize Tic.opn key x=C at*;obtain⟨tv,tc⟩:=C;dsimp only at htt HR2 ⊢;go_upto_region 6 with refine wpList_store_rowTo rfl _ _ _ rfl rfl bt _ rfl rfl _ _ t3 (bI _ _ _ _ _) (by simp only[tk_size]) (cR _ _ _ _ _ rfl) ?_
  generalize hW4:World.setRow _ bt _=W4 at*;clear hW4
  by_cases hc:tc=0
  rotate_left
  ·have E1:=aD (show R=(iR,iL,tc) by rw[←HR2.out,if_pos hc])
   have hne:(tc !=0)=true:=by rw[bne_iff_ne];exact hc
   have tz:=T4.1;clear HR2 htt Q4 O4 ox4 oy4 T4;go_wp2_with fail;refine(j0 tc _).mono ?_;rintro e wf ⟨rfl,gf⟩;have zf:=tz.only gf;have yf:=(z4.only gf).keep (zf.row (tk ⟨#[]⟩ (.slice none 0 0) 0 0 (fun _=>0))).2 (by simp;omega);have Gf:=aF G4 gf;go_wp2_with (first|refine wpList_store_rowTo rfl _ _ _ rfl rfl bt _ rfl rfl _ _ zf (bI _ _ _ _ _) (by simp only[tk_size]) (cR _ _ _ _ _ rfl) ?_|refine wpList_store_rowTo rfl _ _ _ rfl rfl ba _ rfl rfl _ _ yf (bJ _ _ _ _ _) (by simp only[au_size]) (cY _ _ _ _ _ rfl) ?_)
   try simp only[Exit.inBlock,Exit.then,Exit.noGoto_ret]
   refine bodyPost_ret (dA rfl _ _ bt ba _ _ _ _ (0,0) (0,0) _ _ rfl ((zf.row _).1.keep (yf.row _).2 (by simp;omega)) rfl rfl (bI _ _ _ _ _) rfl (yf.row _).1 rfl rfl (bJ _ _ _ _ _)) rfl ?_;rw[E1.out];exact iU (aB (aO (aO Gf (zf.row _).2 hbt) (yf.row _).2 hba)) rfl
  subst hc;have HR3:=aD (show(if (Aut.opn (gL tv) y).2≠0 then (iR,iL,(Aut.opn (gL tv) y).2) else (tv,(Aut.opn (gL tv) y).1,0))=R by rw[←HR2.out];exact(if_neg (fun h:(0:Int)≠0=>h rfl)).symm);have hkk:aH .u8 16 kt=aH .u8 16 (gL tv):=by rw[←htt];exact aFI _ _ _ _ _
  have hk8:Aes.B8 (gL tv):=by rw[←htt];exact aG4 hkt
  have ck:∀j v,(aH .u8 16 (gL tv))[j]? =some v→W4.cell? ((⟨bt,4,none⟩:Addr).add j)=some v:=fun j v hj=>by
   rw[←hkk] at hj;rw[Addr.add_lit];exact T4.1.cell ((aDV _ _ _ _ _ j).trans hj)
  have CK:=aD ck;have HTT:=aD htt;have s2:=aA .u8 16 (gL tv);have T5:=T4.1;clear HR2 hkk ck htt T4;generalize gL tv=kk at*;have c1:W4.cell? ⟨bq,1,none⟩=some (.slice va y.length vc):=Q4.cell (i:=1) rfl;go_wp2_with (refine lH (by kernel_rfl) _ _ rfl ⟨bt,4,none⟩ rfl _ _ CK.out rfl rfl (dJ _) ?_);refine(xC kk _ y W4 hk8 oy4.bs.rs HL.out.2 (HK.out.below (aB G4))).mono ?_;rintro e w5 ⟨hb5,r,v,tt,t,m,z,rfl,o5,hr,hm,hz,hat⟩;obtain⟨u5,c5,rfl⟩:=o5.ss.form;have g5:=aC hb5 none;have t5:=T5.only g5;have z5:=z4.only g5;have G5:=aF G4 g5;have hgs2:(au r (.slice u5 tt.length c5) t m z).size=5:=au_size _ _ _ _ _;have hw4:=G4.size;have hz4:=z4.lt;have Z6:=z5.row (au r (.slice u5 tt.length c5) t m z);have t6:=t5.keep Z6.2 (by simp;omega);have G6:=aO G5 Z6.2 hba;have P6:=o5.only Z6.2 (.inr (fun e=>by have:=(o5.lt ba e).1;omega));have HP6:=aD (show ∀g,(Value.slice u5 tt.length c5).ownBlock=some g→W4.heap.size≤g from fun g e=>(o5.lt g e).1);have O6:=(O4.out.below hb5).only Z6.2 (.inr (fun e=>by have:=HO4.out ba e;omega));clear c1 z4 G4 Q4 O4 ox4 oy4 hb5 o5 g5 G5 T5 t5 CK;generalize Aut.opn kk y=D at*;obtain⟨av,ac⟩:=D;dsimp only at hat HR3 ⊢;go_upto_region 9 with refine wpList_store_rowTo rfl _ _ _ rfl rfl ba _ rfl rfl _ _ z5 (bJ _ _ _ _ _) (by simp only[au_size]) (cY _ _ _ _ _ rfl) ?_
  generalize hW6:World.setRow _ ba _=W6 at*;clear hW6
  by_cases hc:ac=0
  rotate_left
  ·have E1:=aD (show R=(iR,iL,ac) by rw[←HR3.out,if_pos hc])
   have hne:(ac !=0)=true:=by rw[bne_iff_ne];exact hc
   have az:=Z6.1;clear HR3 hat O6 P6 HP6 Z6;go_wp2_with fail;refine(j0 ac _).mono ?_;rintro e wf ⟨rfl,gf⟩;have zf:=t6.only gf;have yf:=(az.only gf).keep (zf.row (tk ⟨#[]⟩ (.slice none 0 0) 0 0 (fun _=>0))).2 (by simp;omega);have Gf:=aF G6 gf;go_wp2_with (first|refine wpList_store_rowTo rfl _ _ _ rfl rfl bt _ rfl rfl _ _ zf (bI _ _ _ _ _) (by simp only[tk_size]) (cR _ _ _ _ _ rfl) ?_|refine wpList_store_rowTo rfl _ _ _ rfl rfl ba _ rfl rfl _ _ yf (bJ _ _ _ _ _) (by simp only[au_size]) (cY _ _ _ _ _ rfl) ?_)
   try simp only[Exit.inBlock,Exit.then,Exit.noGoto_ret]
   refine bodyPost_ret (dA rfl _ _ bt ba _ _ _ _ (0,0) (0,0) _ _ rfl ((zf.row _).1.keep (yf.row _).2 (by simp;omega)) rfl rfl (bI _ _ _ _ _) rfl (yf.row _).1 rfl rfl (bJ _ _ _ _ _)) rfl ?_;rw[E1.out];exact iU (aB (aO (aO Gf (zf.row _).2 hbt) (yf.row _).2 hba)) rfl
  subst hc;have E1:=aD (show R=(tv,av,0) by rw[←HR3.out];exact if_neg (fun h:(0:Int)≠0=>h rfl));have Z7:=Z6.1;clear HR3 Z6;go_upto_region 11 with fail;have t7:Hb (W6.drewN 1) bt (tk q (.slice u3 ss.length c3) s xx kt) 65:=t6;have z7:Hb (W6.drewN 1) ba (au r (.slice u5 tt.length c5) t m z) 67:=Z7;have G7:w.grownBy (W6.drewN 1) none:=aM G6 1;have O7:OwnS (W6.drewN 1) W2.heap.size (.slice u3 ss.length c3) ss:=O6;have P7:OwnS (W6.drewN 1) W4.heap.size (.slice u5 tt.length c5) tt:=P6;generalize hV7:W6.drewN 1=V7 at*;refine bO Tryz.f77 11 5 (fun w'=>w'=V7) (by kernel_rfl) (by kernel_rfl) (by kernel_rfl) hV7 (fun K hK h0=>?_);refine aW (listed':=#[false,false,false,false,false]) (by kernel_rfl) rfl ?_;have HF:=aD hK;clear hK;rw[hV7];have h0:V7=V7:=rfl;refine bG 0 53 (by kernel_rfl) 65 (.tmp 4) (by kernel_rfl) ⟨bt,0,none⟩ (by kernel_rfl) (tk q (.slice u3 ss.length c3) s xx kt) _ (fun w' hw' j v hj=>by subst hw';rw[Addr.add_lit,Nat.zero_add];exact t7.cell hj) Tryz.underlying65 rfl (by kernel_rfl) h0 ?_;simp only[Act.put,aJ,aK,aI];refine bG 1 54 (by kernel_rfl) 67 (.tmp 5) (by kernel_rfl) ⟨ba,0,none⟩ (by kernel_rfl) (au r (.slice u5 tt.length c5) t m z) _ (fun w' hw' j v hj=>by subst hw';rw[Addr.add_lit,Nat.zero_add];exact z7.cell hj) Tryz.underlying67 rfl (by kernel_rfl) h0 ?_;simp only[Act.put,aJ,aK,aI];refine i6 2 (by kernel_rfl) (by kernel_rfl) (by kernel_rfl) 65 (.tmp 4) (.tmp 53) (by kernel_rfl) (by kernel_rfl) bt _ (by kernel_rfl) (by kernel_rfl) _ t7 (bI _ _ _ _ _) (cR _ _ _ _ _ rfl) h0 ?_;refine i6 3 (by kernel_rfl) (by kernel_rfl) (by kernel_rfl) 67 (.tmp 5) (.tmp 54) (by kernel_rfl) (by kernel_rfl) ba _ (by kernel_rfl) (by kernel_rfl) _ z7 (bJ _ _ _ _ _) (cY _ _ _ _ _ rfl) h0 ?_;simp only[aJ,aK,aI];refine aX 4 6 (.int .i64 0) (fun _ _=>by kernel_rfl) h0 ?_;simp only[Act.put,aJ,aK,aI];refine aZ (by kernel_rfl) (HF.out _ _ ?_);go_wp2_with fail
  try simp only[Exit.inBlock,Exit.then,Exit.noGoto_ret]
  refine bodyPost_ret (dA rfl _ _ bt ba _ _ _ _ (0,0) (0,0) _ _ rfl t7 rfl rfl (bI _ _ _ _ _) rfl z7 rfl rfl (bJ _ _ _ _ _)) rfl ?_;rw[E1.out];exact⟨aB G7,q,_,ss,s,xx,kt,r,_,tt,t,m,z,rfl,O7.mono hw2,P7.mono hw4,hq,hkt,hr,hm,hz,HTT.out,hat⟩
set_option linter.all false
theorem Req.mk_facts {key nonce kt:Nat→Nat} {t:Tic.T} {a:Aut.A} (ht:Tic.valid t=true) (ha:Aut.valid a=true) (hk:gL t=kt) (hl:t.key.length=16) (hs:a.seq<4294967296):∃M:List Nat,Req.mk key nonce kt t a=some M∧M.length≤3000∧Req.opn key M=(t,a,0):=by
 have h1:=Tic.bytes_len ht hl;have h2:=Tic.parse_bytes ht hl;have h3:=Aut.bytes_len ha;have h4:=Aut.parse_bytes ha hs;rw[Req.mk_valid ht ha];clear ht ha;generalize Tic.bytes t=TB at*;generalize Aut.bytes a=AB at*;have h5:=Sea.seal_length key 2 nonce TB;have h6:=Sea.seal_length kt 11 nonce AB;have h7:=Tic.opn_yes (Sea.op_seal key 2 nonce TB) h2;have h8:=Aut.opn_yes (Sea.op_seal kt 11 nonce AB) h4;generalize Sea.sld key 2 nonce TB=S1 at*;generalize Sea.sld kt 11 nonce AB=S2 at*;obtain⟨M,hM⟩:∃M,Req.bytes S1 S2=some M:=by unfold Req.bytes;rw[if_neg (by omega)];exact⟨_,rfl⟩
 have hl:=(Req.bytes_some hM).2.2;refine⟨M,hM,by omega,?_⟩;unfold Req.opn;rw[Req.parse_bytes hM];dsimp only;rw[h7];dsimp only;rw[hk,h8];exact(if_neg (fun h:(0:Int)≠0=>h rfl)).trans (if_neg (fun h:(0:Int)≠0=>h rfl))
set_option linter.all false
end Go.Proofs.YtcoolgnlhheaiaaGreatDoor
namespace Go.Proofs.YtcoolgnlhheaiaaGreatDoor
open Go.RowKit Go.Deep Go.ChangeShapes Go.WideShapes
set_option linter.all false
section
variable {H:Type} {enc:TypeId×Value→H} {w:World}
end
end Go.Proofs.YtcoolgnlhheaiaaGreatDoor
namespace Go.Proofs.YtcoolgnlhheaiaaGreatDoor
open Go.ChangeShapes Go.WideShapes Go.ChangeAt Go.RowKit Go.Deep
set_option linter.all false
theorem aS {P:Program} {ops:Array Oper} {rest:List Oper} {o:Oper} {a:Act} {w:World} {Q:Exit→Act→World→Prop} (hw:Region.wanted o (yielded ops a.tmps)=true) (ty:TypeId) (x:Operand) (ho:o.op= .load ty x)
 (g:Nat) (hx:a.eval x= .pointer (some ⟨g,0,none⟩)) (t:TypeId) (cs:Array Value) (fr:Nat×Nat) (d:TypeDesc) (hg:w.heap[g]? =some (.cells cs t fr))
 (hu:P.underlying ty=some d) (hd:(match d with| .struct _| .array _ _=>true|_=>false)=true) (hi:(P.info? ty).map (·.size)=some cs.size)
 (h:wpList P ops Q rest (a.put o.dst (.agg cs)) w):wpList P ops Q (o::rest) a w:=by
 refine wpList_step fun K hK=>?_
 rw[if_pos hw];unfold Oper.wp execOp;simp only[ho,hx,Instr.loadAt,Instr.sureAddr,Sem.run_bind,Sem.run_pure,Result.andThen_ok,run_loadVar_row w g t ty cs fr d hg hu hd hi];exact hK _ _ h
end Go.Proofs.YtcoolgnlhheaiaaGreatDoor
