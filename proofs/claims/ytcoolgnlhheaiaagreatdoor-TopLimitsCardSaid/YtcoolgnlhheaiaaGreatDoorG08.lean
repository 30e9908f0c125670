import Derived.Test.YtcoolgnlhheaiaaGreatDoorG01
import Derived.Test.YtcoolgnlhheaiaaGreatDoorG05
namespace Go.Proofs.YtcoolgnlhheaiaaGreatDoor
open Go.RowKit Go.Deep
set_option linter.all false
set_option maxRecDepth 100000
set_option maxHeartbeats 8000000
theorem eR {o:Oper} {a:Act} {w:World} (x y:Operand) (p q:Nat) (ho:o.op= .binOp .xor 5 x y 5) (hx:a.eval x= .int .u8 (p:Int)) (hy:a.eval y= .int .u8 (q:Int)) (hp:p<256) (hq:q<256):
 (execOp a.eval o).run Tryz.prog w= .ok (.value (.int .u8 ((p ^^^ q:Nat):Int))) w:=by
 unfold execOp;simp only[ho,hx,hy];have h:=u8_xor_nat p q hp hq
 go_simp
theorem cA {o:Oper} {a:Act} {w:World} (x:Operand) (ad:Addr) (v:Int) (ho:o.op= .load 5 x) (hx:a.eval x= .pointer (some ad)) (hc:w.cell? ad=some (.int .u8 v)):
 (execOp a.eval o).run Tryz.prog w= .ok (.value (.int .u8 v)) w:=by
 unfold execOp;simp only[ho,hx];have hz:((Tryz.prog).info? 5).map (·.size)=some 1:=by obtain⟨i0,hi,_,hz1,_⟩:=info_parts dC;rw[hi];simp[hz1]
 go_simp
theorem isArr.setCells {b N:Nat} {t:TypeId}:∀(l:List Nat) (o:Nat) (f:Nat→Nat) (w:World),isArr w b t .u8 N f→isArr (w.setCells b o (l.map bv)) b t .u8 N (fun i=>if o≤i∧i<o+l.length then l.getD (i - o) 0 else f i)
 |[],o,f,w,h=>h.congr fun i _=>by rw[if_neg (fun h=>by have:=h.2;simp at this;omega)]
 |x::l,o,f,w,h=>by
  have h1:=h.set o x;have h2:=isArr.setCells l (o+1) _ _ h1;refine h2.congr fun i _=>?_
  simp only[List.length_cons]
  by_cases e1:i=o
  ·subst e1
   rw[if_neg (by omega),if_pos rfl,if_pos (by omega)];simp
  ·by_cases e2:o+1≤i∧i<o+1+l.length
   ·rw[if_pos e2,if_pos (by omega),show i - o=(i - (o+1))+1 by omega]
    rfl
   ·rw[if_neg e2,if_neg e1,if_neg (by omega)]
theorem i8 {B:Nat} {a:World} {b:Nat} (hb:B≤b):∀(l:List Value) (o:Nat) (w:World),Below B a w→Below B a (w.setCells b o l)
 |[],_,_,h=>h
 |v::l,o,_w,h=>i8 hb l (o+1) _ (h.setCell hb v)
theorem isArr.setCellsOther {b c n:Nat} {t:TypeId} {k:IntKind} {f:Nat→Nat} (hne:b≠c):∀(l:List Value) (o:Nat) (w:World),isArr w b t k n f→isArr (w.setCells c o l) b t k n f
 |[],_,_,h=>h
 |v::l,o,_,h=>isArr.setCellsOther hne l (o+1) _ (h.setOther hne o v)
theorem aE6 (n:Nat) (f:Nat→Nat):(aH .u8 n f).toList=((List.range n).map f).map bv:=by simp[aH,bv]
def Aes.flat (key:Nat→Nat) (t:Nat):Nat:=Aes.ks key (t / 16) (t % 16)
theorem Aes.flat_b8 {key:Nat→Nat} (h:Aes.B8 key):Aes.B8 (Aes.flat key):=fun _=>Aes.ks_b8 h _ _
def Aes.some_ (key:Nat→Nat) (m t:Nat):Nat:=if t<m then Aes.flat key t else 0
theorem Aes.some_next (key:Nat→Nat) (m t v:Nat) (hv:v=Aes.flat key m):(if t=m then v else Aes.some_ key m t)=Aes.some_ key (m+1) t:=by
 unfold Aes.some_
 by_cases e:t=m
 ·subst e;rw[if_pos rfl,if_pos (by omega),hv]
 ·rw[if_neg e]
  by_cases e2:t<m
  ·rw[if_pos e2,if_pos (by omega)]
  ·rw[if_neg e2,if_neg (by omega)]
def Aes.cv (b:Nat→Nat) (p j r:Nat):Nat:=if r<j then Aes.kc b p (r+4*((j - 1 - r) / 4)) else Aes.c0 b p r
theorem Aes.cv_step (b:Nat→Nat) (p j:Nat) (hj:j<16):Aes.cv b p j (j % 4) ^^^ b j=Aes.kc b p j:=by
 unfold Aes.cv
 by_cases h:j<4
 ·rw[if_neg (by omega),Aes.kc_low b p j h,show j % 4=j by omega]
 ·rw[if_pos (by omega),Aes.kc_high b p j (by omega) hj,show j % 4+4*((j - 1 - j % 4) / 4)=j - 4 by omega]
theorem Aes.cv_next (b:Nat→Nat) (p j r:Nat) (hr:r<4):(if r=j % 4 then Aes.kc b p j else Aes.cv b p j r)=Aes.cv b p (j+1) r:=by
 unfold Aes.cv
 by_cases e:r=j % 4
 ·rw[if_pos e,if_pos (by omega),show r+4*((j+1 - 1 - r) / 4)=j by omega]
 ·rw[if_neg e]
  by_cases e2:r<j
  ·rw[if_pos e2,if_pos (by omega),show(j+1 - 1 - r) / 4=(j - 1 - r) / 4 by omega]
  ·rw[if_neg e2,if_neg (by omega)]
theorem Aes.cv_lt {b:Nat→Nat} (hb:Aes.B8 b) {p:Nat} (hp:p<256) (j r:Nat):Aes.cv b p j r<256:=by
 unfold Aes.cv;split
 ·exact Aes.kc_b8 hb hp _
 ·exact Aes.c0_lt hb hp _
theorem aIE (p:Nat) (wr:World) (hp:p<256):Calls Tryz.prog 319 #[.int .u8 (p:Int),.slice (some ⟨wr.heap.size,0,none⟩) 1 1] (wr.alloc (.cells #[.int .u8 2] 5)) fun e w'=>e= .returned (.int .u8 ((Fld.gm p 2:Nat):Int))∧Below wr.heap.size wr w':=by
 have h:=aID (p:Int) [2] wr.heap.size 0 1 (wr.alloc (.cells #[.int .u8 2] 5)) (by omega) (fun i hi=>by
  obtain rfl:i=0:=by simpa using hi
  exact d7 _ _ _ 0 _ rfl) (fun i=>by
  match i with
  |0=>decide
  |_+1=>simp[List.getD]) (by simp)
 refine h.mono ?_;rintro e w' ⟨rfl,rfl⟩;rw[Int.toNat_natCast];exact⟨by unfold Fld.gml;rfl,(Below.refl _ _).alloc (Nat.le_refl _) _⟩
def KI (key:Nat→Nat) (m:Nat) (w wr:World):Prop:=
 Below w.heap.size w wr∧isArr wr (w.heap.size+1) 413 .u8 176 (fun _=>0)∧isArr wr (w.heap.size+2) 413 .u8 176 (Aes.some_ key m)
theorem KI.below {key:Nat→Nat} {m:Nat} {w wr w':World} (h:KI key m w wr) (e:Below wr.heap.size wr w'):KI key m w w':=⟨h.1.trans (e.mono h.1.size),h.2.1.below e h.2.1.lt,h.2.2.below e h.2.2.lt⟩
theorem KI.other {key:Nat→Nat} {m:Nat} {w wr:World} (h:KI key m w wr) {g:Nat} (hg:w.heap.size+2<g) (i:Nat) (v:Value):KI key m w (wr.setCell ⟨g,i,none⟩ v):=
 ⟨bM h.1 (by omega) _ _,h.2.1.setOther (by omega) _ _,h.2.2.setOther (by omega) _ _⟩
theorem KI.set {key:Nat→Nat} {m:Nat} {w wr:World} (h:KI key m w wr) (v:Nat) (hv:v=Aes.flat key m):KI key (m+1) w (wr.setCell ⟨w.heap.size+2,m,none⟩ (.int .u8 (v:Int))):=
 ⟨bM h.1 (by omega) _ _,h.2.1.setOther (by omega) _ _,(h.2.2.set m v).congr fun t _=>Aes.some_next _ _ _ _ hv⟩
theorem KI.drewN {key:Nat→Nat} {m:Nat} {w wr:World} (h:KI key m w wr) (n:Nat):KI key m w (wr.drewN n):=⟨aU h.1 n,h.2.1,h.2.2⟩
theorem fN (f:Nat→Nat):((Tryz.prog).info? 413).map (·.size)=some (aH .u8 176 f).size:=by rw[aA];rfl
theorem gD {w:World} (t:TypeId) (cs:Array Value) (n:Nat) (hs:cs.size=n) (h:(cs.toList.all fun v=>match v with| .int .u8 0=>true|_=>false)=true):isArr (w.alloc (.cells cs t)) w.heap.size t .u8 n (fun _=>0):=
 uY _ _ _ hs fun i hi=>by
  have hi':i<cs.toList.length:=by simpa [hs] using hi
  have:=List.all_eq_true.1 h cs.toList[i] (List.getElem_mem hi');have e:cs[i]? =some cs.toList[i]:=by
   rw[←Array.getElem?_toList,List.getElem?_eq_getElem hi']
  rw[e];split at this
  ·rename_i e2;rw[e2]
  ·cases this
theorem sQ (key:Nat→Nat) (w:World) (hkey:Aes.B8 key):Calls Tryz.prog 315 #[.agg (aH .u8 16 key)] w fun e w'=>e= .returned (.agg (aH .u8 176 (Aes.flat key)))∧Below w.heap.size w w':=by
 have hsz:=aA .u8 16 key;have HK:=aD hkey;clear hkey;have hz32:∀w,(zeroValue 413).run Tryz.prog w= .ok (.agg (Array.replicate 176 (.int .u8 0))) w:=fun _=>by kernel_rfl
 go_enter Tryz.func315,Tryz.ntmps315;go_upto_region 2 with fail;generalize hW:((World.alloc _ _).alloc _:World)=W;have INV:KI key 0 w W∧isArr W w.heap.size 22 .u8 16 key:=by
  rw[←hW];have z1:w.heap.size+1=(w.alloc (Obj.cells (aH IntKind.u8 16 key) 22)).heap.size:=by simp
  have z2:∀o:Obj,w.heap.size+2=((w.alloc (Obj.cells (aH IntKind.u8 16 key) 22)).alloc o).heap.size:=fun _=>by simp
  refine⟨⟨(((Below.refl _ _).alloc (Nat.le_refl _) _).alloc (by simp) _).alloc (by simp;omega) _,?_,?_⟩,?_⟩
  ·rw[z1];exact(gD _ _ _ (by first|rfl|simp) (by first|rfl|decide+kernel)).alloc _
  ·rw[z2];exact(gD _ _ _ (by first|rfl|simp) (by first|rfl|decide+kernel)).congr fun t _=>by unfold Aes.some_;rw[if_neg (by omega)]
  ·exact((aN w _ _ _ _).alloc _).alloc _
 have k1:=INV.2;have I0:=aD INV.1;have ht:W.there (w.heap.size+2) 0 (aH .u8 16 key).size:=fun j hj=>by
  rw[aA] at hj;rw[Nat.zero_add,INV.1.2.2.cell (by omega)];exact⟨rfl,INV.1.2.2.frozen _⟩
 have HT:=aD ht;clear hW INV ht;go_upto_region 3 with (first|refine wpList_load_row rfl _ _ rfl w.heap.size rfl _ _ (0,0) _ k1 rfl rfl (a8 _) ?_|refine wpList_store_mid rfl _ _ _ rfl (w.heap.size+2) 0 _ rfl rfl HT.out (a8 _) (aL _ _ _) ?_);have hI:KI key 16 w (W.setCells (w.heap.size+2) 0 (aH .u8 16 key).toList):=by
  rw[aE6];refine⟨i8 (by omega) _ _ _ I0.out.1,isArr.setCellsOther (by omega) _ _ _ I0.out.2.1,(isArr.setCells _ _ _ _ I0.out.2.2).congr fun t _=>?_⟩;simp only[List.length_map,List.length_range,Nat.zero_add,Nat.zero_le,true_and,Nat.sub_zero];unfold Aes.some_ Aes.flat
  by_cases e:t<16
  ·rw[if_pos e,if_pos e,show t / 16=0 by omega,show t % 16=t by omega]
   simp[List.getD,e,Aes.ks]
  ·rw[if_neg e,if_neg e,if_neg (by omega)]
 have I1:=aD hI;clear hI I0 HT k1;generalize W.setCells (w.heap.size+2) 0 (aH .u8 16 key).toList=W1 at I1 ⊢;go_wp2_with fail
 go_loopw [4,5,6,7,8,34] (fun p i _ _ _ _ wr=>∃m:Nat,m≤10∧i= .int .i64 ((m+1:Nat):Int)∧p= .int .u8 (Aes.pwr m:Nat)∧KI key (16*(m+1)) w wr) (fun _ i _ _ _ _ _=>11 - (intOf i).toNat)
 case atStart=>exact⟨0,by omega,rfl,rfl,I1.out⟩
 case round=>
  clear I1;obtain⟨m,hm,rfl,rfl,hki⟩:=hrel;have KK:=aD hki;clear hki;obtain⟨p,hp⟩:∃p,p=Aes.pwr m:=⟨_,rfl⟩;rw[←hp];have hp8:p<256:=by rw[hp];exact Aes.pwr_lt _
  obtain⟨b,hb⟩:∃b,b=Aes.ks key m:=⟨_,rfl⟩;have hb8:Aes.B8 b:=by rw[hb];exact Aes.ks_b8 HK.out _
  obtain⟨i,hi⟩:∃i,i=m+1:=⟨_,rfl⟩;rw[←hi]
  by_cases hlt:m<10
  ·have hd:decide ((i:Int)<11)=true:=by simp;omega
   have li:(i:Int)<11:=by omega
   have ni:1≤(i:Int):=by omega
   have hks:∀j,j<16→Aes.flat key (i*16+j)=Aes.kc b p j:=fun j hj=>by
    unfold Aes.flat;rw[show(i*16+j) / 16=m+1 by omega,show(i*16+j) % 16=j by omega,hb,hp];rfl
   have hpn:Fld.gm p 2=Aes.pwr i:=by rw[hi,hp];rfl
   have hcb:∀j v,(aH .u8 16 b)[j]? =some v→wr.cell? ((⟨w.heap.size+2,(i - 1)*16,none⟩:Addr).add j)=some v:=fun j v hj=>by
    have hj16:j<16:=by
     rcases Nat.lt_or_ge j 16 with h|h
     ·exact h
     ·rw[Array.getElem?_eq_none (by rw[aA];exact h)] at hj;cases hj
    rw[cJ _ _ _ _ hj16] at hj;rw[Addr.add_lit,KK.out.2.2.cell (by omega),←hj];unfold Aes.some_ Aes.flat;rw[if_pos (by omega),show((i - 1)*16+j) / 16=m by omega,show((i - 1)*16+j) % 16=j by omega,hb]
   have HCB:=aD hcb;have HKS:=aD (aQ hks hpn);have HI:=aD (aQ hi (aQ hp hb));have HB8:=aD hb8;have Z:=KK.out.2.2.lt;have KK2:=aD (show KI key (i*16) w wr by rw[hi,Nat.mul_comm];exact KK.out);clear hcb hks hpn hi hp hb hb8 KK hlt hm;go_upto_region 8 with (first|refine cF rfl _ _ rfl ⟨w.heap.size+2,(i - 1)*16,none⟩ rfl _ _ HCB.out rfl rfl (a8 _) ?_|(refine wpList_store_rowTo rfl _ _ _ rfl rfl wr.heap.size _ rfl rfl _ _ (heap_alloc_new _ _) (a8 _) (by rw[aA];rfl) (aL _ _ _) ?_;generalize hV:World.setRow _ wr.heap.size _=V));have hbV:Below wr.heap.size wr V:=by rw[←hV];exact below_setRow ((Below.refl _ _).alloc (Nat.le_refl _) _) (Nat.le_refl _) _
   have hA:isArr V wr.heap.size 22 .u8 16 b:=by rw[←hV];exact setRow_heap _ _ _ _ _ _ (heap_alloc_new _ _)
   have KV:=aD (KK2.out.below hbV);have VA:=aD hA;clear hV hbV hA KK2 HCB;generalize wr.heap.size=gb at VA Z ⊢;have LC:∀j,j<16→∀w',Below V.heap.size V w'→w'.cell? ⟨gb,j,none⟩=some (.int .u8 ((b j:Nat):Int)):=fun j hj w' h=>(VA.out.below h VA.out.lt).cell hj
   have L12:=LC 12 (by omega);have L13:=LC 13 (by omega);have L14:=LC 14 (by omega);have L15:=LC 15 (by omega);have QS:∀j w',Calls Tryz.prog 318 #[.int .u8 ((b j:Nat):Int)] w' fun e w''=>e= .returned (.int .u8 ((Fld.sb (b j):Nat):Int))∧w'=w'':=fun j w'=>by
    have:=aAP ((b j:Nat):Int) w' (by have:=HB8.out j;omega)
    rwa [Int.toNat_natCast] at this
   have hx8:=Fld.sb_lt _ (HB8.out 13);refine bO Tryz.f315 8 17 (fun w'=>Below V.heap.size V w') (by kernel_rfl) (by kernel_rfl) (by kernel_rfl) (aU (Below.refl _ _) 1) (fun K hK h0=>?_);refine aW (listed':=#[false,false,false,false,false,false,false,false,false,false,false,false,false,false,false,false,false]) (by kernel_rfl) rfl ?_;have HF:=aD hK;clear hK;refine aX 0 19 (.pointer (some ⟨gb,13,none⟩)) (fun _ _=>by kernel_rfl) h0 ?_;simp only[Act.put,aJ,aK,aI];refine aX 1 20 (.int .u8 ((b 13:Nat):Int)) (fun w' k=>cA (.tmp 19) ⟨gb,13,none⟩ _ (by kernel_rfl) (by kernel_rfl) (L13 w' k)) h0 ?_;simp only[Act.put,aJ,aK,aI];refine aX 3 22 (.int .u8 ((p:Nat):Int)) (fun _ _=>by kernel_rfl) h0 ?_;simp only[Act.put,aJ,aK,aI];refine aX 5 24 (.pointer (some ⟨gb,14,none⟩)) (fun _ _=>by kernel_rfl) h0 ?_;simp only[Act.put,aJ,aK,aI];refine aX 6 25 (.int .u8 ((b 14:Nat):Int)) (fun w' k=>cA (.tmp 24) ⟨gb,14,none⟩ _ (by kernel_rfl) (by kernel_rfl) (L14 w' k)) h0 ?_;simp only[Act.put,aJ,aK,aI];refine aX 8 27 (.pointer (some ⟨gb,15,none⟩)) (fun _ _=>by kernel_rfl) h0 ?_;simp only[Act.put,aJ,aK,aI];refine aX 9 28 (.int .u8 ((b 15:Nat):Int)) (fun w' k=>cA (.tmp 27) ⟨gb,15,none⟩ _ (by kernel_rfl) (by kernel_rfl) (L15 w' k)) h0 ?_;simp only[Act.put,aJ,aK,aI];refine aX 11 30 (.pointer (some ⟨gb,12,none⟩)) (fun _ _=>by kernel_rfl) h0 ?_;simp only[Act.put,aJ,aK,aI];refine aX 12 31 (.int .u8 ((b 12:Nat):Int)) (fun w' k=>cA (.tmp 30) ⟨gb,12,none⟩ _ (by kernel_rfl) (by kernel_rfl) (L12 w' k)) h0 ?_;simp only[Act.put,aJ,aK,aI];refine fA (α:=Nat) 1 #[true,true,true,true,true,true,true,true,true,true,true,true,true,true,true,true,false] (fun a x=>(Act.put (Act.put (Act.put (Act.put (Act.put (Act.put (Act.put a (some 21) (.int .u8 ((Fld.sb (b 13):Nat):Int))) (some 23) (.int .u8 ((Fld.sb (b 13) ^^^ p:Nat):Int))) (some 26) (.int .u8 ((Fld.sb (b 14):Nat):Int))) (some 29) (.int .u8 ((Fld.sb (b 15):Nat):Int))) (some 32) (.int .u8 ((Fld.sb (b 12):Nat):Int))) (some 33) (.agg #[.int .u8 ((Fld.sb (b 13) ^^^ p:Nat):Int),.int .u8 ((Fld.sb (b 14):Nat):Int),.int .u8 ((Fld.sb (b 15):Nat):Int),.int .u8 ((Fld.sb (b 12):Nat):Int)])) (some 7) (.pointer (some ⟨x,0,none⟩)))) (fun x w'=>V.heap.size≤x∧Below V.heap.size V w'∧w'.heap[x]? =some (Obj.cells #[.int .u8 0,.int .u8 0,.int .u8 0,.int .u8 0] 428 (0,0))) ?_ (fun cut=>?_)
   ·rintro gc wc ⟨hgc,h0,hraw⟩
    simp only[Act.put,aJ,aK,aI];have e4:(#[.int .u8 ((Fld.sb (b 13) ^^^ p:Nat):Int),.int .u8 ((Fld.sb (b 14):Nat):Int),.int .u8 ((Fld.sb (b 15):Nat):Int),.int .u8 ((Fld.sb (b 12):Nat):Int)]:Array Value)=aH .u8 4 (Aes.c0 b p):=by rw[aEC];rfl
    rw[e4];refine aR 16 (by kernel_rfl) (by kernel_rfl) (pZ 428 (.tmp 7) (.tmp 33) gc (aH .u8 4 (Aes.c0 b p)) 428 _ (by kernel_rfl) (by kernel_rfl) (by kernel_rfl) (by kernel_rfl) hraw (mI _) (by rw[aA];rfl) (aL _ _ _) hgc h0 ?_);intro h0 hraw;refine aZ (by kernel_rfl) (HF.out _ _ ?_);clear HF;generalize wc.setRow gc _=W2 at h0 hraw ⊢;have hA7:isArr W2 gc 428 .u8 4 (Aes.cv b p 0):=by
     refine isArr.congr (show isArr W2 gc 428 .u8 4 (Aes.c0 b p) from hraw) fun t _=>?_
     unfold Aes.cv;rw[if_neg (by omega)]
    have hJ:KI key (i*16+0) w W2∧isArr W2 gb 22 .u8 16 b∧isArr W2 gc 428 .u8 4 (Aes.cv b p 0)∧w.heap.size+2<gc∧gb≠gc:=by
     have:=VA.out.lt;have:=KV.out.2.2.lt;exact⟨KV.out.below h0,VA.out.below h0 VA.out.lt,hA7,by omega,by omega⟩
    have J0:=aD hJ;clear hA7 hJ hraw h0 KV VA LC L12 L13 L14 L15 QS hx8 e4;go_wp2_with fail
    go_loopw [8,34] (fun _ j wr=>∃k:Nat,k≤16∧j= .int .i64 k∧KI key (i*16+k) w wr∧isArr wr gb 22 .u8 16 b∧isArr wr gc 428 .u8 4 (Aes.cv b p k)∧w.heap.size+2<gc∧gb≠gc) (fun _ j _=>16 - (intOf j).toNat)
    case atStart=>exact⟨0,by omega,rfl,J0.out⟩
    case round=>
     clear J0;obtain⟨k,hk,rfl,hki,hab,hac,hg1,hg2⟩:=hrel
     by_cases hlk:k<16
     ·have hdk:decide ((k:Int)<16)=true:=by simp;omega
      obtain⟨r,hr⟩:∃r,r=k % 4:=⟨_,rfl⟩;have cb:=hab.cell (i:=k) hlk;have cc:=hac.cell (i:=r) (by omega);have fc:=hac.frozen r;have x1:=Aes.cv_lt HB8.out hp8 k r;have x2:=HB8.out k;have hkc:Aes.cv b p k r ^^^ b k=Aes.kc b p k:=by rw[hr];exact Aes.cv_step b p k hlk
      have hvf:Aes.kc b p k=Aes.flat key (i*16+k):=(HKS.out.1 k hlk).symm;have hcn:∀t,t<4→(if t=r then Aes.kc b p k else Aes.cv b p k t)=Aes.cv b p (k+1) t:=fun t ht=>by rw[hr];exact Aes.cv_next b p k t ht
      have hr4:r<4:=by omega
      have tm:(k:Int).tmod 4=(r:Int):=by rw[Int.tmod_eq_emod_of_nonneg (by omega)];omega
      clear hr;have lr:(r:Int)<4:=by omega
      have nr:0≤(r:Int):=by omega
      have hx:=u8_xor_nat _ _ x1 x2;rw[hkc] at hx;have lk:(k:Int)<16:=by omega
      have nk:0≤(k:Int):=by omega
      have S1:=aD (aQ hki (aQ hab (aQ hac (aQ hvf hcn))));clear hki hab hac hkc hvf hcn;generalize Aes.cv b p k r=y at cc hx x1;generalize Aes.kc b p k=v at hx S1;generalize b k=z at cb hx x2;have HX:=aD hx;clear hx;have GG:=aD (aQ hg1 hg2);clear hg1 hg2;go_wp2_with fail;go_still_tail 9,(by kernel_rfl);change wpList _ _ _ _ _ (wr.drewN 1);have cc2:(wr.drewN 1).cell? ⟨gc,r,none⟩=some (.int .u8 (y:Int)):=cc;have fc2:(wr.drewN 1).frozen? ⟨gc,r,none⟩=false:=fc;have S2:Hid (KI key (i*16+k) w ((wr.drewN 1).setCell ⟨gc,r,none⟩ (.int .u8 (v:Int)))∧isArr ((wr.drewN 1).setCell ⟨gc,r,none⟩ (.int .u8 (v:Int))) gb 22 .u8 16 b∧isArr ((wr.drewN 1).setCell ⟨gc,r,none⟩ (.int .u8 (v:Int))) gc 428 .u8 4 (Aes.cv b p (k+1))∧Aes.cv b p (k+1) r=v):=aD ⟨(S1.out.1.drewN 1).other GG.out.1 _ _,(S1.out.2.1.drewN 1).setOther GG.out.2 _ _,((S1.out.2.2.1.drewN 1).set r v).congr S1.out.2.2.2.2,by have:=S1.out.2.2.2.2 r hr4;rw[if_pos rfl] at this;exact this.symm⟩;have HV:=aD S1.out.2.2.2.1;clear cc fc cb S1;generalize wr.drewN 1=wd at cc2 fc2 S2 ⊢;rw[HX.out];go_upto_region 13 with fail;clear cc2 fc2;generalize wd.setCell ⟨gc,r,none⟩ (.int .u8 (v:Int))=we at S2 ⊢;have c1:=S2.out.2.2.1.cell (i:=r) hr4;rw[S2.out.2.2.2] at c1;have cf:=S2.out.1.2.2.cell (i:=i*16+k) (by omega);have ff:we.frozen? ⟨w.heap.size+1+1,i*16+k,none⟩=false:=S2.out.1.2.2.frozen (i*16+k);obtain⟨old,hold⟩:∃old,we.cell? ⟨w.heap.size+1+1,i*16+k,none⟩=some old:=⟨_,cf⟩;clear cf;go_wp2_with fail;go_still_tail 8,(by kernel_rfl);change wpList _ _ _ _ _ (we.drewN 1);have S3:Hid (KI key (i*16+(k+1)) w ((we.drewN 1).setCell ⟨w.heap.size+1+1,i*16+k,none⟩ (.int .u8 (v:Int)))∧isArr ((we.drewN 1).setCell ⟨w.heap.size+1+1,i*16+k,none⟩ (.int .u8 (v:Int))) gb 22 .u8 16 b∧isArr ((we.drewN 1).setCell ⟨w.heap.size+1+1,i*16+k,none⟩ (.int .u8 (v:Int))) gc 428 .u8 4 (Aes.cv b p (k+1))):=aD ⟨(S2.out.1.drewN 1).set v HV.out,(S2.out.2.1.drewN 1).setOther (by omega) _ _,(S2.out.2.2.1.drewN 1).setOther (by have:=GG.out.1;omega) _ _⟩;have f3:(we.drewN 1).frozen? ⟨w.heap.size+1+1,i*16+k,none⟩=false:=ff;have c3:(we.drewN 1).cell? ⟨w.heap.size+1+1,i*16+k,none⟩=some old:=hold;clear c1 ff hold S2;generalize we.drewN 1=wf at S3 f3 c3 ⊢;go_wp2_with fail;go_roundw
      case rel=>exact⟨k+1,by omega,by go_num,S3.out.1,S3.out.2.1,S3.out.2.2,GG.out.1,GG.out.2⟩
      case measure=>simp[intOf];omega
     ·obtain rfl:k=16:=by omega
      have hd16:decide (((16:Nat):Int)<16)=false:=by decide
      have K9:=aD (show KI key (16*(i+1)) w wr by rw[show 16*(i+1)=i*16+16 by omega];exact hki);clear hki hab hac hg1 hg2 hlk;go_wp2_with fail;refine(aIE p wr hp8).mono ?_;rintro e w9 ⟨rfl,hb9⟩;have KZ:=aD (K9.out.below hb9);clear hb9 K9;rw[HKS.out.2];go_wp2_with fail;go_roundw
      case rel=>exact⟨i,by omega,by go_num,rfl,KZ.out⟩
      case measure=>simp[intOf];omega
   refine cU 2 15 (by kernel_rfl) (by kernel_rfl) (dI 21 318 #[.int .u8 ((b 13:Nat):Int)] (.int .u8 ((Fld.sb (b 13):Nat):Int)) (by kernel_rfl) (by kernel_rfl) (QS 13 _) h0 ?_) (dP 7 (fun g=>.pointer (some ⟨g,0,none⟩)) #[.int .u8 0,.int .u8 0,.int .u8 0,.int .u8 0] 428 (by kernel_rfl) h0 (Nat.le_refl _) (by kernel_rfl) ?_)
   ·simp only[Act.put,aJ,aK,aI]
    refine aX 4 23 (.int .u8 ((Fld.sb (b 13) ^^^ p:Nat):Int)) (fun w' _=>eR (.tmp 21) (.tmp 22) _ _ (by kernel_rfl) (by kernel_rfl) (by kernel_rfl) hx8 hp8) h0 ?_;simp only[Act.put,aJ,aK,aI];refine cU 7 15 (by kernel_rfl) (by kernel_rfl) (dI 26 318 #[.int .u8 ((b 14:Nat):Int)] (.int .u8 ((Fld.sb (b 14):Nat):Int)) (by kernel_rfl) (by kernel_rfl) (QS 14 _) h0 ?_) (dP 7 (fun g=>.pointer (some ⟨g,0,none⟩)) #[.int .u8 0,.int .u8 0,.int .u8 0,.int .u8 0] 428 (by kernel_rfl) h0 (Nat.le_refl _) (by kernel_rfl) ?_)
    ·simp only[Act.put,aJ,aK,aI]
     refine cU 10 15 (by kernel_rfl) (by kernel_rfl) (dI 29 318 #[.int .u8 ((b 15:Nat):Int)] (.int .u8 ((Fld.sb (b 15):Nat):Int)) (by kernel_rfl) (by kernel_rfl) (QS 15 _) h0 ?_) (dP 7 (fun g=>.pointer (some ⟨g,0,none⟩)) #[.int .u8 0,.int .u8 0,.int .u8 0,.int .u8 0] 428 (by kernel_rfl) h0 (Nat.le_refl _) (by kernel_rfl) ?_)
     ·simp only[Act.put,aJ,aK,aI]
      refine cU 13 15 (by kernel_rfl) (by kernel_rfl) (dI 32 318 #[.int .u8 ((b 12:Nat):Int)] (.int .u8 ((Fld.sb (b 12):Nat):Int)) (by kernel_rfl) (by kernel_rfl) (QS 12 _) h0 ?_) (dP 7 (fun g=>.pointer (some ⟨g,0,none⟩)) #[.int .u8 0,.int .u8 0,.int .u8 0,.int .u8 0] 428 (by kernel_rfl) h0 (Nat.le_refl _) (by kernel_rfl) ?_)
      ·simp only[Act.put,aJ,aK,aI]
       refine aX 14 33 (.agg #[.int .u8 ((Fld.sb (b 13) ^^^ p:Nat):Int),.int .u8 ((Fld.sb (b 14):Nat):Int),.int .u8 ((Fld.sb (b 15):Nat):Int),.int .u8 ((Fld.sb (b 12):Nat):Int)]) (fun _ _=>by kernel_rfl) h0 ?_;simp only[Act.put,aJ,aK,aI];refine aR 15 (by kernel_rfl) (by kernel_rfl) (dP 7 (fun g=>.pointer (some ⟨g,0,none⟩)) #[.int .u8 0,.int .u8 0,.int .u8 0,.int .u8 0] 428 (by kernel_rfl) h0 (Nat.le_refl _) (by kernel_rfl) ?_);intro wr5 gr5 hBgr5 hg hz kq gr h0 hr;have hr15:=hr;simp only[Act.put,aJ,aK,aI];exact aW (by kernel_rfl) (by kernel_rfl) (cut gr5 _ ⟨hBgr5,h0,hr15⟩)
      ·intro wr6 gr6 hBgr6 hg hz kq gr h0 hr
       have hr15:=hr;simp only[Act.put,aJ,aK,aI];refine aR 13 (by kernel_rfl) (by kernel_rfl) (dI 32 318 #[.int .u8 ((b 12:Nat):Int)] (.int .u8 ((Fld.sb (b 12):Nat):Int)) (by kernel_rfl) (by kernel_rfl) (QS 12 _) h0 ?_);simp only[Act.put,aJ,aK,aI];refine aX 14 33 (.agg #[.int .u8 ((Fld.sb (b 13) ^^^ p:Nat):Int),.int .u8 ((Fld.sb (b 14):Nat):Int),.int .u8 ((Fld.sb (b 15):Nat):Int),.int .u8 ((Fld.sb (b 12):Nat):Int)]) (fun _ _=>by kernel_rfl) h0 ?_;simp only[Act.put,aJ,aK,aI];exact aW (by kernel_rfl) (by kernel_rfl) (cut gr6 _ ⟨hBgr6,h0,hr15⟩)
     ·intro wr8 gr8 hBgr8 hg hz kq gr h0 hr
      have hr15:=hr;simp only[Act.put,aJ,aK,aI];refine aR 10 (by kernel_rfl) (by kernel_rfl) (dI 29 318 #[.int .u8 ((b 15:Nat):Int)] (.int .u8 ((Fld.sb (b 15):Nat):Int)) (by kernel_rfl) (by kernel_rfl) (QS 15 _) h0 ?_);simp only[Act.put,aJ,aK,aI];refine aR 13 (by kernel_rfl) (by kernel_rfl) (dI 32 318 #[.int .u8 ((b 12:Nat):Int)] (.int .u8 ((Fld.sb (b 12):Nat):Int)) (by kernel_rfl) (by kernel_rfl) (QS 12 _) h0 ?_);simp only[Act.put,aJ,aK,aI];refine aX 14 33 (.agg #[.int .u8 ((Fld.sb (b 13) ^^^ p:Nat):Int),.int .u8 ((Fld.sb (b 14):Nat):Int),.int .u8 ((Fld.sb (b 15):Nat):Int),.int .u8 ((Fld.sb (b 12):Nat):Int)]) (fun _ _=>by kernel_rfl) h0 ?_;simp only[Act.put,aJ,aK,aI];exact aW (by kernel_rfl) (by kernel_rfl) (cut gr8 _ ⟨hBgr8,h0,hr15⟩)
    ·intro wr11 gr11 hBgr11 hg hz kq gr h0 hr
     have hr15:=hr;simp only[Act.put,aJ,aK,aI];refine aR 7 (by kernel_rfl) (by kernel_rfl) (dI 26 318 #[.int .u8 ((b 14:Nat):Int)] (.int .u8 ((Fld.sb (b 14):Nat):Int)) (by kernel_rfl) (by kernel_rfl) (QS 14 _) h0 ?_);simp only[Act.put,aJ,aK,aI];refine aR 10 (by kernel_rfl) (by kernel_rfl) (dI 29 318 #[.int .u8 ((b 15:Nat):Int)] (.int .u8 ((Fld.sb (b 15):Nat):Int)) (by kernel_rfl) (by kernel_rfl) (QS 15 _) h0 ?_);simp only[Act.put,aJ,aK,aI];refine aR 13 (by kernel_rfl) (by kernel_rfl) (dI 32 318 #[.int .u8 ((b 12:Nat):Int)] (.int .u8 ((Fld.sb (b 12):Nat):Int)) (by kernel_rfl) (by kernel_rfl) (QS 12 _) h0 ?_);simp only[Act.put,aJ,aK,aI];refine aX 14 33 (.agg #[.int .u8 ((Fld.sb (b 13) ^^^ p:Nat):Int),.int .u8 ((Fld.sb (b 14):Nat):Int),.int .u8 ((Fld.sb (b 15):Nat):Int),.int .u8 ((Fld.sb (b 12):Nat):Int)]) (fun _ _=>by kernel_rfl) h0 ?_;simp only[Act.put,aJ,aK,aI];exact aW (by kernel_rfl) (by kernel_rfl) (cut gr11 _ ⟨hBgr11,h0,hr15⟩)
   ·intro wr15 gr15 hBgr15 hg hz kq gr h0 hr
    have hr15:=hr;simp only[Act.put,aJ,aK,aI];refine aR 2 (by kernel_rfl) (by kernel_rfl) (dI 21 318 #[.int .u8 ((b 13:Nat):Int)] (.int .u8 ((Fld.sb (b 13):Nat):Int)) (by kernel_rfl) (by kernel_rfl) (QS 13 _) h0 ?_);simp only[Act.put,aJ,aK,aI];refine aX 4 23 (.int .u8 ((Fld.sb (b 13) ^^^ p:Nat):Int)) (fun w' _=>eR (.tmp 21) (.tmp 22) _ _ (by kernel_rfl) (by kernel_rfl) (by kernel_rfl) hx8 hp8) h0 ?_;simp only[Act.put,aJ,aK,aI];refine aR 7 (by kernel_rfl) (by kernel_rfl) (dI 26 318 #[.int .u8 ((b 14:Nat):Int)] (.int .u8 ((Fld.sb (b 14):Nat):Int)) (by kernel_rfl) (by kernel_rfl) (QS 14 _) h0 ?_);simp only[Act.put,aJ,aK,aI];refine aR 10 (by kernel_rfl) (by kernel_rfl) (dI 29 318 #[.int .u8 ((b 15:Nat):Int)] (.int .u8 ((Fld.sb (b 15):Nat):Int)) (by kernel_rfl) (by kernel_rfl) (QS 15 _) h0 ?_);simp only[Act.put,aJ,aK,aI];refine aR 13 (by kernel_rfl) (by kernel_rfl) (dI 32 318 #[.int .u8 ((b 12:Nat):Int)] (.int .u8 ((Fld.sb (b 12):Nat):Int)) (by kernel_rfl) (by kernel_rfl) (QS 12 _) h0 ?_);simp only[Act.put,aJ,aK,aI];refine aX 14 33 (.agg #[.int .u8 ((Fld.sb (b 13) ^^^ p:Nat):Int),.int .u8 ((Fld.sb (b 14):Nat):Int),.int .u8 ((Fld.sb (b 15):Nat):Int),.int .u8 ((Fld.sb (b 12):Nat):Int)]) (fun _ _=>by kernel_rfl) h0 ?_;simp only[Act.put,aJ,aK,aI];exact aW (by kernel_rfl) (by kernel_rfl) (cut gr15 _ ⟨hBgr15,h0,hr15⟩)
  ·obtain rfl:m=10:=by omega
   subst hi;have hd:decide (((11:Nat):Int)<11)=false:=by decide
   have hA:isArr wr (w.heap.size+2) 413 .u8 176 (Aes.flat key):=KK.out.2.2.congr fun t ht=>by unfold Aes.some_;rw[if_pos (by omega)]
   have k7:=KK.out.2.1;clear hlt hm hp hp8 hb hb8;go_wp2_with (first|refine wpList_load_row rfl _ _ rfl (w.heap.size+2) rfl _ _ (0,0) _ hA rfl rfl (fN _) ?_|(refine wpList_store_row rfl _ _ _ rfl (w.heap.size+1) _ rfl rfl _ _ k7 (fN _) ((aA _ _ _).trans (aA _ _ _).symm) (aL _ _ _) ?_));exact bodyPost_ret (results_cell_row rfl _ _ (w.heap.size+1) _ _ (0,0) _ rfl (setRow_heap _ (w.heap.size+1) _ _ _ (0,0) k7) rfl rfl (fN _)) rfl ⟨rfl,below_setRow KK.out.1 (by omega) _⟩
end Go.Proofs.YtcoolgnlhheaiaaGreatDoor
namespace Go.Proofs.YtcoolgnlhheaiaaGreatDoor
open Go.RowKit Go.Deep
set_option linter.all false
set_option maxRecDepth 100000
set_option maxHeartbeats 8000000
theorem oG {w:World} {g:Nat} {key:Nat→Nat} (h:isArr w g 413 .u8 176 (Aes.flat key)) (i:Nat) (hi:i<11):∀j v,(aH .u8 16 (Aes.ks key i))[j]? =some v→w.cell? ((⟨g,i*16,none⟩:Addr).add j)=some v:=fun j v hj=>by
 have hj16:j<16:=by
  rcases Nat.lt_or_ge j 16 with h'|h'
  ·exact h'
  ·rw[Array.getElem?_eq_none (by rw[aA];exact h')] at hj;cases hj
 rw[cJ _ _ _ _ hj16] at hj;rw[Addr.add_lit,h.cell (by omega),←hj];unfold Aes.flat;rw[show(i*16+j) / 16=i by omega,show(i*16+j) % 16=j by omega]
theorem setRow_other {w:World} {b c n:Nat} {t:TypeId} {k:IntKind} {f:Nat→Nat} (h:isArr w b t k n f) (hne:b≠c) (cs:Array Value):isArr (w.setRow c cs) b t k n f:=h.of_block (by
 unfold World.setRow
 simp[Array.getElem?_modify,Ne.symm hne])
def EI (key x:Nat→Nat) (g:Nat) (w wr:World):Prop:=
 Below w.heap.size w wr∧isArr wr (w.heap.size+1) 22 .u8 16 x∧isArr wr (w.heap.size+2) 22 .u8 16 (fun _=>0)∧isArr wr g 413 .u8 176 (Aes.flat key)∧w.heap.size+2<g
theorem EI.below {key x:Nat→Nat} {g:Nat} {w wr w':World} (h:EI key x g w wr) (e:Below wr.heap.size wr w'):EI key x g w w':=⟨h.1.trans (e.mono h.1.size),h.2.1.below e h.2.1.lt,h.2.2.1.below e h.2.2.1.lt,h.2.2.2.1.below e h.2.2.2.1.lt,h.2.2.2.2⟩
theorem EI.row {key x y:Nat→Nat} {g:Nat} {w wr:World} (h:EI key x g w wr):EI key y g w (wr.setRow (w.heap.size+1) (aH .u8 16 y)):=by
 have hg:=h.2.2.2.2;exact⟨below_setRow h.1 (by omega) _,setRow_heap _ _ _ _ _ (0,0) h.2.1,setRow_other h.2.2.1 (by omega) _,setRow_other h.2.2.2.1 (by omega) _,hg⟩
theorem EI.drewN {key x:Nat→Nat} {g:Nat} {w wr:World} (h:EI key x g w wr) (n:Nat):EI key x g w (wr.drewN n):=⟨aU h.1 n,h.2.1,h.2.2.1,h.2.2.2.1,h.2.2.2.2⟩
theorem n8 (key b:Nat→Nat) (w:World) (hk:Aes.B8 key) (hb:Aes.B8 b):Calls Tryz.prog 313 #[.agg (aH .u8 16 key),.agg (aH .u8 16 b)] w fun e w'=>e= .returned (.agg (aH .u8 16 (Aes.enc key b)))∧Below w.heap.size w w':=by
 have hsz:=aA .u8 16 key;have hsz2:=aA .u8 16 b;have HK:=aD hk;clear hk;have HB:=aD hb;clear hb;have hz32:∀w,(zeroValue 413).run Tryz.prog w= .ok (.agg (Array.replicate 176 (.int .u8 0))) w:=fun _=>by kernel_rfl
 go_enter Tryz.func313,Tryz.ntmps313;go_upto_region 1 with fail;generalize hW:((World.alloc _ _).alloc _:World)=W;have INV:Below w.heap.size w W∧isArr W w.heap.size 22 .u8 16 key∧isArr W (w.heap.size+1) 22 .u8 16 b∧isArr W (w.heap.size+2) 22 .u8 16 (fun _=>0):=by
  rw[←hW];have z1:w.heap.size+1=(w.alloc (Obj.cells (aH IntKind.u8 16 key) 22)).heap.size:=by simp
  have z2:w.heap.size+2=((w.alloc (Obj.cells (aH IntKind.u8 16 key) 22)).alloc (Obj.cells (aH IntKind.u8 16 b) 22)).heap.size:=by simp
  refine⟨(((Below.refl _ _).alloc (Nat.le_refl _) _).alloc (by simp) _).alloc (by simp;omega) _,?_,?_,?_⟩
  ·exact((aN w _ _ _ _).alloc _).alloc _
  ·rw[z1];exact(aN _ _ _ _ _).alloc _
  ·rw[z2];first|exact dY|exact zero16r
 have k1:=INV.2.1;have I0:=aD INV;clear hW INV;go_upto_region 2 with (first|refine wpList_load_row rfl _ _ rfl w.heap.size rfl _ _ (0,0) _ k1 rfl rfl (a8 _) ?_|(go_at_call 315;refine(sQ _ _ HK.out).mono ?_;rintro e w2 ⟨rfl,hb2⟩)|(refine wpList_store_rowTo rfl _ _ _ rfl rfl w2.heap.size _ rfl rfl _ _ (heap_alloc_new _ _) (fN _) (by rw[aA];first|rfl|simp) (aL _ _ _) ?_;generalize hV:World.setRow _ w2.heap.size _=V));have hE:EI key b w2.heap.size w V:=by
  have hz:=I0.out.2.2.2.lt;have hz2:=hb2.size;have h2:Below W.heap.size W V:=by
   rw[←hV];exact below_setRow (hb2.alloc hb2.size _) hb2.size _
  refine⟨I0.out.1.trans (h2.mono I0.out.1.size),I0.out.2.2.1.below h2 I0.out.2.2.1.lt,I0.out.2.2.2.below h2 I0.out.2.2.2.lt,?_,by omega⟩;rw[←hV];exact setRow_heap _ _ _ _ _ _ (heap_alloc_new _ _)
 have E0:=aD hE;clear hE hV hb2 k1 I0;generalize w2.heap.size=g at E0 ⊢;have k1:=E0.out.2.1;have hks:=Aes.ks_b8 HK.out;have HS:=aD (Aes.st_b8 HK.out HB.out);have HKS:=aD hks;clear hks;go_upto_region 3 with (first|refine wpList_load_row rfl _ _ rfl (w.heap.size+1) rfl _ _ (0,0) _ k1 rfl rfl (a8 _) ?_|refine cF rfl _ _ rfl ⟨g,0*16,none⟩ rfl _ _ (oG E0.out.2.2.2.1 0 (by omega)) rfl rfl (a8 _) ?_|(go_at_call 316;refine(j9 _ _ _ HB.out (HKS.out 0)).mono ?_;rintro e w3 ⟨rfl,hb3⟩;have E1:=aD (E0.out.below hb3);have k2:=E1.out.2.1;clear hb3)|(refine wpList_store_row rfl _ _ _ rfl (w.heap.size+1) _ rfl rfl _ _ k2 (a8 _) ((aA _ _ _).trans (aA _ _ _).symm) (aL _ _ _) ?_;have E2:=aD (E1.out.row (y:=Aes.xor b (Aes.ks key 0)));clear k1 k2 E1;generalize World.setRow _ (w.heap.size+1) _=V2 at E2 ⊢));clear E0;go_wp2_with fail
 go_loopw [6] (fun i wr=>∃m:Nat,m≤10∧i= .int .i64 ((m+1:Nat):Int)∧EI key (Aes.st key b m) g w wr) (fun i _=>11 - (intOf i).toNat)
 case atStart=>exact⟨0,by omega,rfl,E2.out⟩
 case round=>
  clear E2;obtain⟨m,hm,rfl,hE⟩:=hrel;have EE:=aD hE;obtain⟨i,hi⟩:∃i,i=m+1:=⟨_,rfl⟩;rw[←hi]
  by_cases hlt:m<10
  ·have hd:decide ((i:Int)≤10)=true:=by simp;omega
   have li:(i:Int)<11:=by omega
   have ni:1≤(i:Int):=by omega
   have c1:=hE.2.1.cells;have c2:=oG hE.2.2.2.1 i (by omega);have hst:Aes.round (Aes.st key b m) (Aes.ks key i) ((i:Int)==10)=Aes.st key b i:=by
    rw[hi];show Aes.round (Aes.st key b m) (Aes.ks key (m+1)) _=Aes.round (Aes.st key b m) (Aes.ks key (m+1)) (m+1==10);congr 1;rw[Bool.eq_iff_iff,beq_iff_eq,beq_iff_eq];omega
   have ST:=aD hst;have C1:=aD c1;have C2:=aD c2;have HI:=aD hi;clear hE hst c1 c2 hi hlt hm;generalize hlb:((i:Int)==10)=lb at ST;go_wp2_with fail;go_still_tail 6,(by kernel_rfl)
   repeat (first|(refine aY rfl _ _ rfl ⟨w.heap.size+1,0,none⟩ rfl _ _ C1.out rfl rfl (a8 _) ?_)|(refine aY rfl _ _ rfl ⟨g,i*16,none⟩ rfl _ _ C2.out rfl rfl (a8 _) ?_)|still_step)
   try refine wpStill_nil ?_
   change wpList _ _ _ _ _ (wr.drewN 1);have E3:=aD (EE.out.drewN 1);clear EE C1 C2;generalize wr.drewN 1=wd at E3 ⊢;go_wp2_with (first|(go_at_call 317;refine(rB _ _ _ _ (HS.out _) (HKS.out _)).mono ?_;rintro e w6 ⟨rfl,hb6⟩;have E4:=aD (E3.out.below hb6);have k4:=E4.out.2.1;clear hb6 E3)|(refine wpList_store_row rfl _ _ _ rfl (w.heap.size+1) _ rfl rfl _ _ k4 (a8 _) ((aA _ _ _).trans (aA _ _ _).symm) (aL _ _ _) ?_));have E5:=aD (E4.out.row (y:=Aes.round (Aes.st key b m) (Aes.ks key i) lb));rw[ST.out] at E5;go_roundw
   case rel=>exact⟨i,by have:=HI.out;omega,by go_num,by first|exact E5.out|(rw[ST.out];exact E5.out)⟩
   case measure=>simp[intOf];omega
  ·obtain rfl:m=10:=by omega
   subst hi;have hd:decide (((11:Nat):Int)≤10)=false:=by decide
   have k1:=hE.2.1;have k7:=hE.2.2.1;clear hlt hm hE;go_wp2_with (first|refine wpList_load_row rfl _ _ rfl (w.heap.size+1) rfl _ _ (0,0) _ k1 rfl rfl (a8 _) ?_|(refine wpList_store_row rfl _ _ _ rfl (w.heap.size+2) _ rfl rfl _ _ k7 (a8 _) ((aA _ _ _).trans (aA _ _ _).symm) (aL _ _ _) ?_));exact bodyPost_ret (results_cell_row rfl _ _ (w.heap.size+2) _ _ (0,0) _ rfl (setRow_heap _ (w.heap.size+2) _ _ _ (0,0) k7) rfl rfl (a8 _)) rfl ⟨rfl,below_setRow EE.out.1 (by omega) _⟩
end Go.Proofs.YtcoolgnlhheaiaaGreatDoor
namespace Go.Proofs.YtcoolgnlhheaiaaGreatDoor
open Go.RowKit Go.Deep
set_option linter.all false
set_option maxRecDepth 100000
set_option maxHeartbeats 8000000
theorem jK (x:Nat) (w:World) (hx:x<256):Calls Tryz.prog 304 #[.int .u8 (x:Int)] w fun e w'=>e= .returned (.int .u8 ((Fld.xt x:Nat):Int))∧w=w':=by
 by_cases h:x<128
 ·have d:decide ((255:Int)<2*(x:Int))=false:=by simp;omega
  have e:Fld.xt x=2*x:=by unfold Fld.xt;rw[show x / 128=0 by omega];simp
  rw[e];have E:=aD e;clear e;go_enter Tryz.func304,Tryz.ntmps304;go_wp2_with fail;go_ret;exact⟨gQ (by omega),rfl⟩
 ·have d:decide ((255:Int)<2*(x:Int))=true:=by simp;omega
  have e:Fld.xt x=(2*x) ^^^ 283:=by unfold Fld.xt;rw[show x / 128=1 by omega]
  have hl:=Fld.xt_lt x hx;rw[e] at hl ⊢;have E:=aD e;clear e;have hb:bits .xor .i64 (2*(x:Int)) 283=(((2*x) ^^^ 283:Nat):Int):=by
   have:=i5 (2*x) 283 (by omega) (by omega);rw[←this];congr 1
  generalize (2*x) ^^^ 283=v at hl hb ⊢;go_enter Tryz.func304,Tryz.ntmps304;go_wp2_with fail;go_ret;exact⟨gQ (by omega),rfl⟩
namespace Aes
def p3:Nat→Nat
 |0=>1
 |i+1=>Fld.gm (p3 i) 3
theorem p3_lt (i:Nat):p3 i<256:=by
 induction i with
 |zero=>decide
 |succ i ih=>exact Fld.gm_lt _ _ ih
theorem p3_back:((List.range 256).all fun i=>Fld.aff (p3 (255 - i))==Fld.sb (p3 i))=true:=by decide+kernel
theorem p3_onto:((List.range 256).all fun t=>t==0||(List.range 256).any fun i=>p3 i==t)=true:=by decide+kernel
end Aes
end Go.Proofs.YtcoolgnlhheaiaaGreatDoor
namespace Go.Proofs.YtcoolgnlhheaiaaGreatDoor
open Go.RowKit Go.Deep
set_option linter.all false
set_option maxRecDepth 100000
set_option maxHeartbeats 8000000
theorem eB (f:Nat→Nat):((Tryz.prog).info? 356).map (·.size)=some (aH .u8 256 f).size:=by rw[aA];rfl
theorem kQ {w:World}:isArr (w.alloc (.cells (Array.replicate 256 (.int .u8 0)) 356)) w.heap.size 356 .u8 256 (fun _=>0):=
 cM _ _ _ _ _ (Array.replicate 256 (.int .u8 0)) (by simp) (fun i hi=>lR _ _ _ hi)
theorem Aes.back_of (i:Nat) (hi:i<256):Fld.aff (Aes.p3 (255 - i))=Fld.sb (Aes.p3 i):=by
 simpa using List.all_eq_true.1 Aes.p3_back i (by simpa using hi)
theorem Aes.onto (t:Nat) (ht:t<256) (h0:t≠0):∃i,i<256∧Aes.p3 i=t:=by
 have:=List.all_eq_true.1 Aes.p3_onto t (by simpa using ht);simp only[Bool.or_eq_true,beq_iff_eq,List.any_eq_true,List.mem_range] at this;rcases this with h|⟨i,hi,e⟩
 ·exact absurd h h0
 ·exact⟨i,hi,e⟩
def BP (j:Nat) (w wr:World):Prop:=
 Below w.heap.size w wr∧isArr wr w.heap.size 356 .u8 256 (fun _=>0)∧isArr wr (w.heap.size+1) 356 .u8 256 (fun t=>if t<j then Aes.p3 t else 0)
def Done (j:Nat) (f:Nat→Nat):Prop:=f 0=Fld.sb 0∧∀i,i<j→f (Aes.p3 i)=Fld.sb (Aes.p3 i)
theorem Done.next {j:Nat} {f:Nat→Nat} (h:Done j f) (v:Nat) (hv:v=Fld.sb (Aes.p3 j)):Done (j+1) (fun t=>if t=Aes.p3 j then v else f t):=by
 refine⟨?_,fun i hi=>?_⟩<;>dsimp only
 ·by_cases e:0=Aes.p3 j
  ·rw[if_pos e,hv,←e]
  ·rw[if_neg e];exact h.1
 ·by_cases e:Aes.p3 i=Aes.p3 j
  ·rw[if_pos e,hv,e]
  ·rw[if_neg e]
   refine h.2 i ?_;rcases Nat.lt_or_ge i j with h'|h'
   ·exact h'
   ·obtain rfl:i=j:=by omega
    exact absurd rfl e
theorem Done.all {f:Nat→Nat} (h:Done 256 f) (t:Nat) (ht:t<256):f t=Fld.sb t:=by
 by_cases h0:t=0
 ·subst h0;exact h.1
 ·obtain⟨i,hi,rfl⟩:=Aes.onto t ht h0
  exact h.2 i hi
theorem aF6 (w:World):Calls Tryz.prog 271 #[] w fun e w'=>e= .returned (.agg (aH .u8 256 Fld.sb))∧Below w.heap.size w w':=by
 have hz:∀w,(zeroValue 356).run Tryz.prog w= .ok (.agg (Array.replicate 256 (.int .u8 0))) w:=fun _=>by kernel_rfl
 have hrep:(Array.replicate 256 (Value.int .u8 0)).size=256:=by simp
 go_enter Tryz.func271,Tryz.ntmps271;go_upto_region 2 with fail;generalize hW:(World.alloc _ _:World)=W;have INV:BP 0 w W:=by
  rw[←hW];have z1:w.heap.size+1=(w.alloc (Obj.cells (Array.replicate 256 (.int .u8 0)) 356)).heap.size:=by simp
  refine⟨((Below.refl _ _).alloc (Nat.le_refl _) _).alloc (by simp) _,kQ.alloc _,?_⟩;rw[z1];exact kQ.congr fun t _=>(if_neg (Nat.not_lt_zero _)).symm
 have I0:=aD INV;clear hW INV;go_wp2_with fail
 go_loopw [2,3] (fun x i wr=>∃j:Nat,j≤256∧i= .int .i64 j∧x= .int .u8 (Aes.p3 j:Nat)∧BP j w wr) (fun _ i _=>256 - (intOf i).toNat)
 case atStart=>exact⟨0,by omega,rfl,rfl,I0.out⟩
 case round=>
  clear I0;obtain⟨j,hj,rfl,rfl,hb⟩:=hrel;have BB:=aD hb
  by_cases hlt:j<256
  ·have hd:decide ((j:Int)<256)=true:=by simp;omega
   have lj:(j:Int)<256:=by omega
   have nj:0≤(j:Int):=by omega
   have c1:=hb.2.2.cell (i:=j) hlt;have f1:=hb.2.2.frozen j;have hx:=Aes.p3_lt j
   have B2:=aD (show BP (j+1) w (wr.setCell ⟨w.heap.size+1,j,none⟩ (.int .u8 ((Aes.p3 j:Nat):Int))) from ⟨bM hb.1 (by omega) _ _,hb.2.1.setOther (by omega) _ _,(hb.2.2.set j _).congr fun t _=>by
    by_cases e:t=j
    ·subst e;rw[if_pos rfl,if_pos (by omega)]
    ·rw[if_neg e]
     by_cases e2:t<j
     ·rw[if_pos e2,if_pos (by omega)]
     ·rw[if_neg e2,if_neg (by omega)]⟩)
   have hn:Fld.rm (Aes.p3 j) 3=Aes.p3 (j+1):=Fld.rm_eq _ _ hx (by omega);have HN:=aD hn;clear hb BB hn;generalize Aes.p3 j=x at c1 hx B2 HN ⊢;go_wp2_with (go_at_call 288;refine(wX _ _ _ (by omega) (by omega)).mono ?_;rintro e w' ⟨rfl,rfl⟩;rw[Int.toNat_natCast]);go_roundw
   case rel=>exact⟨j+1,by omega,by go_num,by rw[←HN.out],B2.out⟩
   case measure=>simp[intOf];omega
  ·obtain rfl:j=256:=by omega
   have hd:decide (((256:Nat):Int)<256)=false:=by decide
   have hP:isArr wr (w.heap.size+1) 356 .u8 256 Aes.p3:=hb.2.2.congr fun t ht=>if_pos ht
   clear hlt hb;obtain⟨O,hO⟩:∃O:World,O=wr:=⟨_,rfl⟩;go_upto_region 9 with fail;have hD:∀o:Obj,isArr (wr.alloc o) (w.heap.size+1) 356 .u8 256 Aes.p3∧isArr (wr.alloc o) w.heap.size 356 .u8 256 (fun _=>0)∧Below w.heap.size w (wr.alloc o):=fun o=>⟨hP.alloc _,BB.out.2.1.alloc _,BB.out.1.alloc BB.out.1.size _⟩
   generalize hW:World.alloc wr _=W2;have hA:isArr W2 wr.heap.size 356 .u8 256 (fun _=>0)∧isArr W2 (w.heap.size+1) 356 .u8 256 Aes.p3∧isArr W2 w.heap.size 356 .u8 256 (fun _=>0)∧Below w.heap.size w W2∧w.heap.size+1<wr.heap.size:=by
    have:=hP.lt;rw[←hW];exact⟨kQ,(hD _).1,(hD _).2.1,(hD _).2.2,by omega⟩
   have A2:=aD hA;clear hW hA hD hP BB hO;generalize wr.heap.size=g at A2 ⊢;have c0:=A2.out.1.cell (i:=0) (by omega);have f0:=A2.out.1.frozen 0;go_upto_region 10 with (go_at_call 289;refine(oQ _ _ (by omega)).mono ?_;rintro e w' ⟨rfl,rfl⟩);have e0:Fld.aff 0=Fld.sb 0:=by decide+kernel
   have hB:∃f:Nat→Nat,Done 0 f∧isArr (W2.setCell ⟨g,0,none⟩ (.int .u8 ((Fld.aff 0:Nat):Int))) g 356 .u8 256 f∧isArr (W2.setCell ⟨g,0,none⟩ (.int .u8 ((Fld.aff 0:Nat):Int))) (w.heap.size+1) 356 .u8 256 Aes.p3∧isArr (W2.setCell ⟨g,0,none⟩ (.int .u8 ((Fld.aff 0:Nat):Int))) w.heap.size 356 .u8 256 (fun _=>0)∧Below w.heap.size w (W2.setCell ⟨g,0,none⟩ (.int .u8 ((Fld.aff 0:Nat):Int)))∧w.heap.size+1<g:=by
    have hg:=A2.out.2.2.2.2;refine⟨_,⟨?_,fun i hi=>absurd hi (Nat.not_lt_zero _)⟩,A2.out.1.set 0 _,A2.out.2.1.setOther (by omega) _ _,A2.out.2.2.1.setOther (by omega) _ _,bM A2.out.2.2.2.1 (by omega) _ _,hg⟩;rw[if_pos rfl];exact e0
   have B0:=aD hB;clear hB e0 c0 f0 A2
   first
    |generalize W2.setCell _ _=W3 at B0 ⊢
    |skip
   go_wp2_with fail
   go_loopw [5] (fun i wr=>∃j:Nat,j≤256∧i= .int .i64 j∧∃f:Nat→Nat,Done j f∧isArr wr g 356 .u8 256 f∧isArr wr (w.heap.size+1) 356 .u8 256 Aes.p3∧isArr wr w.heap.size 356 .u8 256 (fun _=>0)∧Below w.heap.size w wr∧w.heap.size+1<g) (fun i _=>256 - (intOf i).toNat)
   case atStart=>exact⟨0,by omega,rfl,B0.out⟩
   case round=>
    clear B0;obtain⟨j,hj,rfl,f,hdn,h1,h2,h3,h4,h5⟩:=hrel
    by_cases hlt:j<256
    ·have hd:decide ((j:Int)≤255)=true:=by simp;omega
     have lj:(j:Int)<256:=by omega
     have nj:0≤(j:Int):=by omega
     obtain⟨q,hq⟩:∃q:Nat,q=255 - j:=⟨_,rfl⟩;have eq1:IntKind.i64.wrap ((255:Int) - (j:Int))=(q:Int):=(IntWalk.i64_in _ (by omega)).trans (by omega);have nq0:0≤(q:Int):=by omega
     have lq:(q:Int)<256:=by omega
     have cj:=h2.cell (i:=j) hlt;have cq:=h2.cell (i:=q) (by omega);have hv:Fld.aff (Aes.p3 q)=Fld.sb (Aes.p3 j):=by rw[hq];exact Aes.back_of j hlt
     have hp8:=Aes.p3_lt j;have hq8:=Aes.p3_lt q;have co:=h1.cell (i:=Aes.p3 j) hp8;have fo:=h1.frozen (Aes.p3 j);have R:=aD (aQ h1 (aQ h2 (aQ h3 (aQ h4 h5))));have DN:=aD (hdn.next _ hv);clear h1 h2 h3 h4 h5 hdn hv hq;generalize Aes.p3 q=y at cq hq8 DN;obtain⟨x,hx⟩:∃x,x=Aes.p3 j:=⟨_,rfl⟩;rw[←hx] at cj hp8 co fo DN;clear hx;have nx:0≤(x:Int):=by omega
     have lx:(x:Int)<256:=by omega
     have wy:IntKind.i64.wrap (y:Int)=(y:Int):=IntWalk.i64_in _ (by omega);have hcall:∀wx,Calls Tryz.prog 289 #[.int .i64 (y:Int)] wx fun e w'=>e= .returned (.int .u8 ((Fld.aff y:Nat):Int))∧w'=wx:=fun wx=>by
      have h:=oQ (y:Int) wx (by omega);rw[Int.toNat_natCast] at h;exact uF h
     go_wp2_with fail;go_still_tail 9,(by kernel_rfl)
     repeat (first|still_step|still_call (hcall _))
     try refine wpStill_nil ?_
     change wpList _ _ _ _ _ (wr.drewN 1)
     have R2:=aD (show isArr ((wr.drewN 1).setCell ⟨g,x,none⟩ (.int .u8 ((Fld.aff y:Nat):Int))) g 356 .u8 256 (fun t=>if t=x then Fld.aff y else f t)∧isArr ((wr.drewN 1).setCell ⟨g,x,none⟩ (.int .u8 ((Fld.aff y:Nat):Int))) (w.heap.size+1) 356 .u8 256 Aes.p3∧isArr ((wr.drewN 1).setCell ⟨g,x,none⟩ (.int .u8 ((Fld.aff y:Nat):Int))) w.heap.size 356 .u8 256 (fun _=>0)∧Below w.heap.size w ((wr.drewN 1).setCell ⟨g,x,none⟩ (.int .u8 ((Fld.aff y:Nat):Int)))∧w.heap.size+1<g from
      have hg:=R.out.2.2.2.2
      ⟨(R.out.1.drewN 1).set x _,(R.out.2.1.drewN 1).setOther (by omega) _ _,(R.out.2.2.1.drewN 1).setOther (by omega) _ _,bM (aU R.out.2.2.2.1 1) (by omega) _ _,hg⟩)
     have co2:(wr.drewN 1).cell? ⟨g,x,none⟩=some (.int .u8 ((f x:Nat):Int)):=co;have fo2:(wr.drewN 1).frozen? ⟨g,x,none⟩=false:=fo;clear co fo R hcall eq1 wy cj cq;generalize wr.drewN 1=wd at co2 fo2 R2 ⊢;go_wp2_with fail;go_roundw
     case rel=>exact⟨j+1,by omega,by go_num,_,DN.out,R2.out⟩
     case measure=>simp[intOf];omega
    ·obtain rfl:j=256:=by omega
     have hd:decide (((256:Nat):Int)≤255)=false:=by decide
     have k1:isArr wr g 356 .u8 256 Fld.sb:=h1.congr fun t ht=>hdn.all t ht
     clear hlt h1 h2 hdn;go_wp2_with (first|refine wpList_load_row rfl _ _ rfl g rfl _ _ (0,0) _ k1 rfl rfl (eB _) ?_|(refine wpList_store_row rfl _ _ _ rfl w.heap.size _ rfl rfl _ _ h3 (eB _) ((aA _ _ _).trans (aA _ _ _).symm) (aL _ _ _) ?_));exact bodyPost_ret (results_cell_row rfl _ _ w.heap.size _ _ (0,0) _ rfl (setRow_heap _ w.heap.size _ _ _ (0,0) h3) rfl rfl (eB _)) rfl ⟨rfl,below_setRow h4 (Nat.le_refl _) _⟩
end Go.Proofs.YtcoolgnlhheaiaaGreatDoor
namespace Go.Proofs.YtcoolgnlhheaiaaGreatDoor
open Go.RowKit Go.Deep
set_option linter.all false
set_option maxRecDepth 100000
set_option maxHeartbeats 8000000
theorem Aes.mx_form (s:Nat→Nat) (hs:Aes.B8 s) (r c:Nat) (hr:r<4):Aes.mx Aes.mixN s (r+4*c)=(((Fld.xt (s (r+4*c)) ^^^ Fld.xt (s ((r+1) % 4+4*c))) ^^^ s ((r+1) % 4+4*c)) ^^^ s ((r+2) % 4+4*c)) ^^^ s ((r+3) % 4+4*c):=by
 unfold Aes.mx;rw[show(r+4*c) % 4=r by omega,show(r+4*c) / 4=c by omega];simp only[uL,Nat.zero_xor,Aes.mixN,Aes.n4,Nat.add_zero];rw[show r % 4=r by omega,Aes.gm_2 _ (hs _),Aes.gm_3 _ (hs _),Fld.gm_one _ (hs _),Fld.gm_one _ (hs _)]
 ac_rfl
def QF (b k:Nat→Nat) (w wr:World):Prop:=
 Below w.heap.size w wr∧isArr wr w.heap.size 22 .u8 16 b∧isArr wr (w.heap.size+1) 22 .u8 16 k∧isArr wr (w.heap.size+2) 356 .u8 256 Fld.sb∧isArr wr (w.heap.size+3) 22 .u8 16 (fun _=>0)
theorem QF.below {b k:Nat→Nat} {w wr w':World} (h:QF b k w wr) (e:Below wr.heap.size wr w'):QF b k w w':=⟨h.1.trans (e.mono h.1.size),h.2.1.below e h.2.1.lt,h.2.2.1.below e h.2.2.1.lt,h.2.2.2.1.below e h.2.2.2.1.lt,h.2.2.2.2.below e h.2.2.2.2.lt⟩
theorem QF.set {b k:Nat→Nat} {w wr:World} (h:QF b k w wr) {g:Nat} (hg:w.heap.size+3<g) (i:Nat) (v:Value):QF b k w (wr.setCell ⟨g,i,none⟩ v):=
 ⟨bM h.1 (by omega) _ _,h.2.1.setOther (by omega) _ _,h.2.2.1.setOther (by omega) _ _,h.2.2.2.1.setOther (by omega) _ _,h.2.2.2.2.setOther (by omega) _ _⟩
theorem QF.drewN {b k:Nat→Nat} {w wr:World} (h:QF b k w wr) (n:Nat):QF b k w (wr.drewN n):=⟨aU h.1 n,h.2.1,h.2.2.1,h.2.2.2.1,h.2.2.2.2⟩
def fst (x:Nat→Nat) (m t:Nat):Nat:=if t<m then x t else 0
theorem m6 (x:Nat→Nat) (m v t:Nat) (hv:v=x m):(if t=m then v else fst x m t)=fst x (m+1) t:=by
 unfold fst
 by_cases e:t=m
 ·subst e;rw[if_pos rfl,if_pos (by omega),hv]
 ·rw[if_neg e]
  by_cases e2:t<m
  ·rw[if_pos e2,if_pos (by omega)]
  ·rw[if_neg e2,if_neg (by omega)]
theorem rM (b k:Nat→Nat) (last:Bool) (w:World) (hb:Aes.B8 b) (hk:Aes.B8 k):Calls Tryz.prog 291 #[.agg (aH .u8 16 b),.agg (aH .u8 16 k),.bool last,.agg (aH .u8 256 Fld.sb)] w fun e w'=>e= .returned (.agg (aH .u8 16 (Aes.round b k last)))∧Below w.heap.size w w':=by
 have hsz:=aA .u8 16 b;have hsz2:=aA .u8 16 k;have hsz3:=aA .u8 256 Fld.sb;have HB:=aD hb;clear hb;have HK:=aD hk;clear hk;have RD:∀t,Aes.round b k last t=(if last then Aes.sr b t else Aes.mx Aes.mixN (Aes.sr b) t) ^^^ k t:=fun t=>by unfold Aes.round;cases last<;>rfl
 have HRD:=aD RD;obtain⟨R,hR⟩:∃R,R=Aes.round b k last:=⟨_,rfl⟩;rw[←hR] at HRD ⊢;clear RD hR;go_enter Tryz.func291,Tryz.ntmps291;go_upto_region 2 with fail;generalize hW:((((World.alloc _ _).alloc _).alloc _).alloc _:World)=W;have INV:QF b k w W∧isArr W (w.heap.size+4) 22 .u8 16 (fst (Aes.sr b) (4*0)):=by
  rw[←hW];have z1:w.heap.size+1=(w.alloc (Obj.cells (aH IntKind.u8 16 b) 22)).heap.size:=by simp
  have z2:w.heap.size+2=((w.alloc (Obj.cells (aH IntKind.u8 16 b) 22)).alloc (Obj.cells (aH IntKind.u8 16 k) 22)).heap.size:=by simp
  have z3:w.heap.size+3=(((w.alloc (Obj.cells (aH IntKind.u8 16 b) 22)).alloc (Obj.cells (aH IntKind.u8 16 k) 22)).alloc (Obj.cells (aH IntKind.u8 256 Fld.sb) 356)).heap.size:=by simp
  have z4:∀o,w.heap.size+4=((((w.alloc (Obj.cells (aH IntKind.u8 16 b) 22)).alloc (Obj.cells (aH IntKind.u8 16 k) 22)).alloc (Obj.cells (aH IntKind.u8 256 Fld.sb) 356)).alloc o).heap.size:=fun _=>by simp
  refine⟨⟨(((((Below.refl _ _).alloc (Nat.le_refl _) _).alloc (by simp) _).alloc (by simp;omega) _).alloc (by simp;omega) _).alloc (by simp;omega) _,?_,?_,?_,?_⟩,?_⟩
  ·exact((((aN w _ _ _ _).alloc _).alloc _).alloc _).alloc _
  ·rw[z1];exact(((aN _ _ _ _ _).alloc _).alloc _).alloc _
  ·rw[z2];exact((aN _ _ _ _ _).alloc _).alloc _
  ·rw[z3];first|exact dY.alloc _|exact zero16r.alloc _
  ·rw[z4];first|exact dY.congr fun t _=>(if_neg (by omega)).symm|exact zero16r.congr fun t _=>(if_neg (by omega)).symm
 have I0:=aD INV;clear hW INV;go_wp2_with fail
 go_loopw [10,11] (fun i _ wr=>∃c:Nat,c≤4∧i= .int .i64 c∧QF b k w wr∧isArr wr (w.heap.size+4) 22 .u8 16 (fst (Aes.sr b) (4*c))) (fun i _ _=>4 - (intOf i).toNat)
 case atStart=>exact⟨0,by omega,rfl,I0.out⟩
 case round=>
  clear I0;obtain⟨c,hc,rfl,hm⟩:=hrel;have HM:=aD hm;clear hm
  by_cases hlt:c<4
  ·have hd:decide ((c:Int)<4)=true:=by simp;omega
   have lc:(c:Int)<4:=by omega
   have nc:0≤(c:Int):=by omega
   go_wp2_with fail
   go_loopw [11] (fun i wr=>∃r:Nat,r≤4∧i= .int .i64 r∧QF b k w wr∧isArr wr (w.heap.size+4) 22 .u8 16 (fst (Aes.sr b) (r+4*c))) (fun i _=>4 - (intOf i).toNat)
   case atStart=>exact⟨0,by omega,rfl,by rw[Nat.zero_add];exact HM.out⟩
   case round=>
    clear HM;obtain⟨r,hr,rfl,hq,hs⟩:=hrel
    by_cases hlr:r<4
    ·have hdr:decide ((r:Int)<4)=true:=by simp;omega
     have lr:(r:Int)<4:=by omega
     have nr:0≤(r:Int):=by omega
     have cb:=hq.2.1.cell (i:=r+4*((c+r) % 4)) (by omega);have hy:=HB.out (r+4*((c+r) % 4));have cx:=hq.2.2.2.1.cell (i:=b (r+4*((c+r) % 4))) hy;have cm:=hs.cell (i:=r+4*c) (by omega);have fm:=hs.frozen (r+4*c);have hv:Fld.sb (b (r+4*((c+r) % 4)))=Aes.sr b (r+4*c):=by
      unfold Aes.sr;rw[show(r+4*c) % 4=r by omega,show(r+4*c) / 4=c by omega]
     have J:=aD (show QF b k w (wr.setCell ⟨w.heap.size+4,r+4*c,none⟩ (.int .u8 ((Fld.sb (b (r+4*((c+r) % 4))):Nat):Int)))∧isArr (wr.setCell ⟨w.heap.size+4,r+4*c,none⟩ (.int .u8 ((Fld.sb (b (r+4*((c+r) % 4))):Nat):Int))) (w.heap.size+4) 22 .u8 16 (fst (Aes.sr b) (r+1+4*c)) from ⟨hq.set (by omega) _ _,(hs.set (r+4*c) _).congr fun t _=>by rw[show r+1+4*c=r+4*c+1 by omega];exact m6 _ _ _ _ hv⟩);clear hq hs hv;generalize b (r+4*((c+r) % 4))=y at cb cx J hy;have ny:0≤(y:Int):=by omega
     have ly:(y:Int)<256:=by omega
     go_wp2_with fail;go_roundw
     case rel=>exact⟨r+1,by omega,by go_num,J.out⟩
     case measure=>simp[intOf];omega
    ·obtain rfl:r=4:=by omega
     have hd4:decide (((4:Nat):Int)<4)=false:=by decide
     have HM:=aD (show QF b k w wr∧isArr wr (w.heap.size+4) 22 .u8 16 (fst (Aes.sr b) (4*(c+1))) from ⟨hq,by rw[show 4*(c+1)=4+4*c by omega];exact hs⟩);clear hq hs hlr;go_wp2_with fail;go_roundw
     case rel=>exact⟨c+1,by omega,by go_num,HM.out⟩
     case measure=>simp[intOf];omega
  ·obtain rfl:c=4:=by omega
   have hd:decide (((4:Nat):Int)<4)=false:=by decide
   have hs:isArr wr (w.heap.size+4) 22 .u8 16 (Aes.sr b):=HM.out.2.congr fun t ht=>if_pos (by omega)
   have hS8:=Aes.sr_b8 HB.out;have HQ:=aD (aQ HM.out.1 hs);have hlt5:=hs.lt;have HS8:=aD hS8;clear HM hlt hs hS8;generalize Aes.sr b=s at HQ HRD HS8
   cases last
   ·go_upto_region 10 with fail
    have hD:∀o:Obj,QF b k w (wr.alloc o)∧isArr (wr.alloc o) (w.heap.size+4) 22 .u8 16 s:=fun o=>⟨HQ.out.1.below ((Below.refl _ _).alloc (Nat.le_refl _) _),HQ.out.2.alloc _⟩
    generalize hW:World.alloc wr _=W2;have hA:QF b k w W2∧isArr W2 (w.heap.size+4) 22 .u8 16 s∧isArr W2 wr.heap.size 22 .u8 16 (fst R (4*0)):=by
     rw[←hW];refine⟨(hD _).1,(hD _).2,?_⟩
     first|exact dY.congr fun t _=>(if_neg (by omega)).symm|exact zero16r.congr fun t _=>(if_neg (by omega)).symm
    have A2:=aD hA;clear hW hA hD HQ;generalize wr.heap.size=g at A2 hlt5 ⊢;go_wp2_with fail
    go_loopw [13,14,15,16] (fun i _ _ _ wr=>∃c:Nat,c≤4∧i= .int .i64 c∧QF b k w wr∧isArr wr (w.heap.size+4) 22 .u8 16 s∧isArr wr g 22 .u8 16 (fst R (4*c))) (fun i _ _ _ _=>4 - (intOf i).toNat)
    case atStart=>exact⟨0,by omega,rfl,A2.out⟩
    case round=>
     clear A2;obtain⟨c,hc,rfl,hm⟩:=hrel;have HM:=aD hm;clear hm
     by_cases hlt:c<4
     ·have hd:decide ((c:Int)<4)=true:=by simp;omega
      have lc:(c:Int)<4:=by omega
      have nc:0≤(c:Int):=by omega
      go_wp2_with fail
      go_loopw [14,15,16] (fun i _ _ wr=>∃r:Nat,r≤4∧i= .int .i64 r∧QF b k w wr∧isArr wr (w.heap.size+4) 22 .u8 16 s∧isArr wr g 22 .u8 16 (fst R (r+4*c))) (fun i _ _ _=>4 - (intOf i).toNat)
      case atStart=>exact⟨0,by omega,rfl,by rw[Nat.zero_add];exact HM.out⟩
      case round=>
       clear HM;obtain⟨r,hr,rfl,hq,hs,ho⟩:=hrel
       by_cases hlr:r<4
       ·have hdr:decide ((r:Int)<4)=true:=by simp;omega
        have lr:(r:Int)<4:=by omega
        have nr:0≤(r:Int):=by omega
        have ck:=hq.2.2.1.cell (i:=r+4*c) (by omega);have cx:=hs.cell (i:=r+4*c) (by omega);have co:=ho.cell (i:=r+4*c) (by omega);have fo:=ho.frozen (r+4*c);have hk8:=HK.out (r+4*c);have hx8:=HS8.out (r+4*c);have cy:=hs.cell (i:=(r+1) % 4+4*c) (by omega);have c2:=hs.cell (i:=(r+2) % 4+4*c) (by omega);have c3:=hs.cell (i:=(r+3) % 4+4*c) (by omega);have hy8:=HS8.out ((r+1) % 4+4*c);have h28:=HS8.out ((r+2) % 4+4*c);have h38:=HS8.out ((r+3) % 4+4*c);obtain⟨v,hvd⟩:∃v,v=(((Fld.xt (s (r+4*c)) ^^^ Fld.xt (s ((r+1) % 4+4*c))) ^^^ s ((r+1) % 4+4*c)) ^^^ s ((r+2) % 4+4*c)) ^^^ s ((r+3) % 4+4*c):=⟨_,rfl⟩;have hv:v ^^^ k (r+4*c)=R (r+4*c):=by
         rw[HRD.out (r+4*c),if_neg (by decide),Aes.mx_form s HS8.out r c hlr,←hvd]
        have J:=aD (fun(wq:World) (h1:QF b k w wq) (h2:isArr wq (w.heap.size+4) 22 .u8 16 s) (h3:isArr wq g 22 .u8 16 (fst R (r+4*c)))=>show QF b k w (wq.setCell ⟨g,r+4*c,none⟩ (.int .u8 ((v ^^^ k (r+4*c):Nat):Int)))∧isArr (wq.setCell ⟨g,r+4*c,none⟩ (.int .u8 ((v ^^^ k (r+4*c):Nat):Int))) (w.heap.size+4) 22 .u8 16 s∧isArr (wq.setCell ⟨g,r+4*c,none⟩ (.int .u8 ((v ^^^ k (r+4*c):Nat):Int))) g 22 .u8 16 (fst R (r+1+4*c)) from ⟨h1.set (by omega) _ _,h2.setOther (by omega) _ _,(h3.set (r+4*c) _).congr fun t _=>by rw[show r+1+4*c=r+4*c+1 by omega];exact m6 _ _ _ _ hv⟩);have Q3:=aD (aQ hq (aQ hs ho));clear hq hs ho hv;generalize s (r+4*c)=x at cx hx8 hvd;generalize s ((r+1) % 4+4*c)=y at cy hy8 hvd;generalize s ((r+2) % 4+4*c)=z2 at c2 h28 hvd;generalize s ((r+3) % 4+4*c)=z3 at c3 h38 hvd;generalize k (r+4*c)=z at ck hk8 J;have hx2:=Fld.xt_lt x hx8;have hy2:=Fld.xt_lt y hy8;have hx1:bits .xor .u8 (bits .xor .u8 (bits .xor .u8 (bits .xor .u8 ((Fld.xt x:Nat):Int) ((Fld.xt y:Nat):Int)) (y:Int)) (z2:Int)) (z3:Int)=(v:Int):=by
         rw[u8_xor_nat _ _ hx2 hy2,u8_xor_nat _ _ (Fld.xor_lt _ _ hx2 hy2) hy8,u8_xor_nat _ _ (Fld.xor_lt _ _ (Fld.xor_lt _ _ hx2 hy2) hy8) h28,u8_xor_nat _ _ (Fld.xor_lt _ _ (Fld.xor_lt _ _ (Fld.xor_lt _ _ hx2 hy2) hy8) h28) h38,hvd]
        have hv8:v<256:=by rw[hvd];exact Fld.xor_lt _ _ (Fld.xor_lt _ _ (Fld.xor_lt _ _ (Fld.xor_lt _ _ hx2 hy2) hy8) h28) h38
        have hxk:=u8_xor_nat _ _ hv8 hk8;have HX1:=aD hx1;have HXK:=aD hxk;have HVD:=aD hvd;clear hx1 hxk hvd hx2 hy2;have tx:∀wq,Calls Tryz.prog 304 #[.int .u8 (x:Int)] wq fun e w'=>e= .returned (.int .u8 ((Fld.xt x:Nat):Int))∧wq=w':=fun wq=>jK x wq hx8
        have ty:∀wq,Calls Tryz.prog 304 #[.int .u8 (y:Int)] wq fun e w'=>e= .returned (.int .u8 ((Fld.xt y:Nat):Int))∧wq=w':=fun wq=>jK y wq hy8
        obtain⟨q2,hq2⟩:∃q,q=(r+2) % 4:=⟨_,rfl⟩;obtain⟨q3,hq3⟩:∃q,q=(r+3) % 4:=⟨_,rfl⟩;rw[←hq2] at c2;rw[←hq3] at c3;have lq2:q2<4:=by omega
        have lq3:q3<4:=by omega
        have t2:((r:Int)+2).tmod 4=(q2:Int):=by rw[Int.tmod_eq_emod_of_nonneg (by omega)];omega
        have t3:((r:Int)+3).tmod 4=(q3:Int):=by rw[Int.tmod_eq_emod_of_nonneg (by omega)];omega
        have n2:0≤(q2:Int)+4*(c:Int):=by omega
        have n3:0≤(q3:Int)+4*(c:Int):=by omega
        have m2:(q2:Int)+4*(c:Int)<16:=by omega
        have m3:(q3:Int)+4*(c:Int)<16:=by omega
        have v2:((q2:Int)+4*(c:Int)).toNat=q2+4*c:=by omega
        have v3:((q3:Int)+4*(c:Int)).toNat=q3+4*c:=by omega
        clear hq2 hq3;go_wp2_with fail;have w2:IntKind.i64.wrap ((r:Int)+2)=(r:Int)+2:=IntWalk.i64_in _ (by omega);have w3:IntKind.i64.wrap ((r:Int)+3)=(r:Int)+3:=IntWalk.i64_in _ (by omega);have w4:IntKind.i64.wrap (4*(c:Int))=4*(c:Int):=IntWalk.i64_in _ (by omega);have w5:IntKind.i64.wrap ((q2:Int)+4*(c:Int))=(q2:Int)+4*(c:Int):=IntWalk.i64_in _ (by omega);have w6:IntKind.i64.wrap ((q3:Int)+4*(c:Int))=(q3:Int)+4*(c:Int):=IntWalk.i64_in _ (by omega);go_quiet ((go_at_call 304;exact eH (jK _ _ (by first|exact hx8|exact hy8))));rw[HX1.out];clear w2 w3 w4 w5 w6 t2 t3 n2 n3 m2 m3 v2 v3 tx ty;have ck2:(wr.drewN nq).cell? ⟨w.heap.size+1,r+4*c,none⟩=some (.int .u8 (z:Int)):=ck;have co2:(wr.drewN nq).cell? ⟨g,r+4*c,none⟩=some (.int .u8 ((fst R (r+4*c) (r+4*c):Nat):Int)):=co;have fo2:(wr.drewN nq).frozen? ⟨g,r+4*c,none⟩=false:=fo;have JJ:=aD (J.out (wr.drewN nq) (Q3.out.1.drewN nq) (Q3.out.2.1.drewN nq) (Q3.out.2.2.drewN nq));have hxk:=HXK.out;clear ck co fo cx cy c2 c3 J Q3;generalize wr.drewN nq=wd at ck2 co2 fo2 JJ ⊢;go_wp2_with fail;go_roundw
        case rel=>exact⟨r+1,by omega,by go_num,JJ.out⟩
        case measure=>simp[intOf];omega
       ·obtain rfl:r=4:=by omega
        have hd4:decide (((4:Nat):Int)<4)=false:=by decide
        have HM:=aD (show QF b k w wr∧isArr wr (w.heap.size+4) 22 .u8 16 s∧isArr wr g 22 .u8 16 (fst R (4*(c+1))) from ⟨hq,hs,by rw[show 4*(c+1)=4+4*c by omega];exact ho⟩);clear hq hs ho hlr;go_wp2_with fail;go_roundw
        case rel=>exact⟨c+1,by omega,by go_num,HM.out⟩
        case measure=>simp[intOf];omega
     ·obtain rfl:c=4:=by omega
      have hd:decide (((4:Nat):Int)<4)=false:=by decide
      have k1:isArr wr g 22 .u8 16 R:=HM.out.2.2.congr fun t ht=>if_pos (by omega)
      have k7:=HM.out.1.2.2.2.2;clear hlt;go_wp2_with (first|refine wpList_load_row rfl _ _ rfl g rfl _ _ (0,0) _ k1 rfl rfl (a8 _) ?_|(refine wpList_store_row rfl _ _ _ rfl (w.heap.size+3) _ rfl rfl _ _ k7 (a8 _) ((aA _ _ _).trans (aA _ _ _).symm) (aL _ _ _) ?_));exact bodyPost_ret (results_cell_row rfl _ _ (w.heap.size+3) _ _ (0,0) _ rfl (setRow_heap _ (w.heap.size+3) _ _ _ (0,0) k7) rfl rfl (a8 _)) rfl ⟨rfl,below_setRow HM.out.1.1 (by omega) _⟩
   ·go_upto_region 10 with fail
    have hD:∀o:Obj,QF b k w (wr.alloc o)∧isArr (wr.alloc o) (w.heap.size+4) 22 .u8 16 s:=fun o=>⟨HQ.out.1.below ((Below.refl _ _).alloc (Nat.le_refl _) _),HQ.out.2.alloc _⟩
    generalize hW:World.alloc wr _=W2;have hA:QF b k w W2∧isArr W2 (w.heap.size+4) 22 .u8 16 s∧isArr W2 wr.heap.size 22 .u8 16 (fst R (4*0)):=by
     rw[←hW];refine⟨(hD _).1,(hD _).2,?_⟩
     first|exact dY.congr fun t _=>(if_neg (by omega)).symm|exact zero16r.congr fun t _=>(if_neg (by omega)).symm
    have A2:=aD hA;clear hW hA hD HQ;generalize wr.heap.size=g at A2 hlt5 ⊢;go_wp2_with fail
    go_loopw [13,14,15,16] (fun i _ _ _ wr=>∃c:Nat,c≤4∧i= .int .i64 c∧QF b k w wr∧isArr wr (w.heap.size+4) 22 .u8 16 s∧isArr wr g 22 .u8 16 (fst R (4*c))) (fun i _ _ _ _=>4 - (intOf i).toNat)
    case atStart=>exact⟨0,by omega,rfl,A2.out⟩
    case round=>
     clear A2;obtain⟨c,hc,rfl,hm⟩:=hrel;have HM:=aD hm;clear hm
     by_cases hlt:c<4
     ·have hd:decide ((c:Int)<4)=true:=by simp;omega
      have lc:(c:Int)<4:=by omega
      have nc:0≤(c:Int):=by omega
      go_wp2_with fail
      go_loopw [14,15,16] (fun i _ _ wr=>∃r:Nat,r≤4∧i= .int .i64 r∧QF b k w wr∧isArr wr (w.heap.size+4) 22 .u8 16 s∧isArr wr g 22 .u8 16 (fst R (r+4*c))) (fun i _ _ _=>4 - (intOf i).toNat)
      case atStart=>exact⟨0,by omega,rfl,by rw[Nat.zero_add];exact HM.out⟩
      case round=>
       clear HM;obtain⟨r,hr,rfl,hq,hs,ho⟩:=hrel
       by_cases hlr:r<4
       ·have hdr:decide ((r:Int)<4)=true:=by simp;omega
        have lr:(r:Int)<4:=by omega
        have nr:0≤(r:Int):=by omega
        have ck:=hq.2.2.1.cell (i:=r+4*c) (by omega);have cx:=hs.cell (i:=r+4*c) (by omega);have co:=ho.cell (i:=r+4*c) (by omega);have fo:=ho.frozen (r+4*c);have hk8:=HK.out (r+4*c);have hx8:=HS8.out (r+4*c);have hv:s (r+4*c) ^^^ k (r+4*c)=R (r+4*c):=(HRD.out (r+4*c)).symm;have J:=aD (fun(wq:World) (h1:QF b k w wq) (h2:isArr wq (w.heap.size+4) 22 .u8 16 s) (h3:isArr wq g 22 .u8 16 (fst R (r+4*c)))=>show QF b k w (wq.setCell ⟨g,r+4*c,none⟩ (.int .u8 ((s (r+4*c) ^^^ k (r+4*c):Nat):Int)))∧isArr (wq.setCell ⟨g,r+4*c,none⟩ (.int .u8 ((s (r+4*c) ^^^ k (r+4*c):Nat):Int))) (w.heap.size+4) 22 .u8 16 s∧isArr (wq.setCell ⟨g,r+4*c,none⟩ (.int .u8 ((s (r+4*c) ^^^ k (r+4*c):Nat):Int))) g 22 .u8 16 (fst R (r+1+4*c)) from ⟨h1.set (by omega) _ _,h2.setOther (by omega) _ _,(h3.set (r+4*c) _).congr fun t _=>by rw[show r+1+4*c=r+4*c+1 by omega];exact m6 _ _ _ _ hv⟩);have hxk:=u8_xor_nat _ _ hx8 hk8;have JJ:=aD (J.out wr hq hs ho);clear hq hs ho hv J;generalize s (r+4*c)=x at cx hx8 JJ hxk;generalize k (r+4*c)=z at ck hk8 JJ hxk;go_wp2_with fail;go_roundw
        case rel=>exact⟨r+1,by omega,by go_num,JJ.out⟩
        case measure=>simp[intOf];omega
       ·obtain rfl:r=4:=by omega
        have hd4:decide (((4:Nat):Int)<4)=false:=by decide
        have HM:=aD (show QF b k w wr∧isArr wr (w.heap.size+4) 22 .u8 16 s∧isArr wr g 22 .u8 16 (fst R (4*(c+1))) from ⟨hq,hs,by rw[show 4*(c+1)=4+4*c by omega];exact ho⟩);clear hq hs ho hlr;go_wp2_with fail;go_roundw
        case rel=>exact⟨c+1,by omega,by go_num,HM.out⟩
        case measure=>simp[intOf];omega
     ·obtain rfl:c=4:=by omega
      have hd:decide (((4:Nat):Int)<4)=false:=by decide
      have k1:isArr wr g 22 .u8 16 R:=HM.out.2.2.congr fun t ht=>if_pos (by omega)
      have k7:=HM.out.1.2.2.2.2;clear hlt;go_wp2_with (first|refine wpList_load_row rfl _ _ rfl g rfl _ _ (0,0) _ k1 rfl rfl (a8 _) ?_|(refine wpList_store_row rfl _ _ _ rfl (w.heap.size+3) _ rfl rfl _ _ k7 (a8 _) ((aA _ _ _).trans (aA _ _ _).symm) (aL _ _ _) ?_));exact bodyPost_ret (results_cell_row rfl _ _ (w.heap.size+3) _ _ (0,0) _ rfl (setRow_heap _ (w.heap.size+3) _ _ _ (0,0) k7) rfl rfl (a8 _)) rfl ⟨rfl,below_setRow HM.out.1.1 (by omega) _⟩
end Go.Proofs.YtcoolgnlhheaiaaGreatDoor
