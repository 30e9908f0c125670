import Derived.Test.YtcoolgnlhheaiaaGreatDoorG07
import Derived.Test.YtcoolgnlhheaiaaGreatDoorG10
namespace Go.Proofs.YtcoolgnlhheaiaaGreatDoor
set_option linter.all false
set_option maxRecDepth 100000
set_option maxHeartbeats 2000000
theorem Mac.dv_all (key lab:List Nat):∀j,AllB (Mac.dv key lab j)
 |0=>AllB.nil
 |j+1=>by
  rw[Mac.dv];refine(Mac.dv_all key lab j).append fun x hx=>?_
  obtain⟨i,_,rfl⟩:=List.mem_map.1 hx;exact Mac.hm_lt _ _ _
theorem Mac.dn_all (key lab:List Nat) (n:Nat):AllB (Mac.dn key lab n):=fun x hx=>Mac.dv_all key lab _ x (List.mem_of_mem_take hx)
namespace Sea
theorem sameB_eq {l m:List Nat}:fS l m=true↔l=m:=by unfold fS;simp
def encS:ByteArray:=⟨#[101,110,99,114,121,112,116]⟩
def proS:ByteArray:=⟨#[112,114,111,116,101,99,116]⟩
def nl (n:Nat) (f:Nat→Nat):List Nat:=(List.range n).map f
theorem nl_length (n:Nat) (f:Nat→Nat):(nl n f).length=n:=by simp[nl]
theorem nl_all {n:Nat} {f:Nat→Nat} (h:∀i,f i<256):∀x,x∈nl n f→x<256:=fun x hx=>by
 obtain⟨i,_,rfl⟩:=List.mem_map.1 hx;exact h i
theorem nl_get (n:Nat) (f:Nat→Nat) (i:Nat) (h:i<n):(nl n f).getD i 0=f i:=Ctr.getD_range n f i h
def ek (key:Nat→Nat):Nat→Nat:=Mac.k16 (nl 16 key) (lb encS)
def mk (key:Nat→Nat):List Nat:=Mac.dn (nl 16 key) (lb proS) 32
theorem mk_length (key:Nat→Nat):(mk key).length=32:=Mac.dn_length _ _ _
def mf (key:Nat→Nat) (i:Nat):Nat:=(mk key).getD i 0
theorem nl_mf (key:Nat→Nat):nl 32 (mf key)=mk key:=by
 apply List.ext_getElem
 ·rw[nl_length,mk_length]
 ·intro i h1 h2
  simp[nl,mf,List.getD,h2]
theorem mk_all (key:Nat→Nat):AllB (mk key):=Mac.dn_all _ _ _
theorem mf_b8 (key:Nat→Nat) (i:Nat):mf key i<256:=(mk_all key).get i
theorem ek_b8 (key:Nat→Nat):Aes.B8 (ek key):=fun i=>(Mac.dn_all _ _ _:AllB (Mac.dn (nl 16 key) (lb encS) 16)).get i
def front (key nonce:Nat→Nat) (l:List Nat):List Nat:=nl 8 nonce++Ctr.crypt (ek key) nonce 0 l
theorem front_length (key nonce:Nat→Nat) (l:List Nat):(front key nonce l).length=8+l.length:=by unfold front;rw[List.length_append,nl_length,Ctr.crypt_length]
def code (key:Nat→Nat) (u:Nat) (f:List Nat):List Nat:=nl 16 (Mac.hm (mk key) (u::f))
def sld (key:Nat→Nat) (u:Nat) (nonce:Nat→Nat) (l:List Nat):List Nat:=front key nonce l++code key u (front key nonce l)
theorem seal_length (key:Nat→Nat) (u:Nat) (nonce:Nat→Nat) (l:List Nat):(sld key u nonce l).length=l.length+24:=by
 unfold sld code;rw[List.length_append,front_length,nl_length];omega
def non (s:List Nat) (i:Nat):Nat:=s.getD i 0
def fr (s:List Nat):List Nat:=s.take (s.length - 16)
def op (key:Nat→Nat) (u:Nat) (s:List Nat):Option (List Nat):=
 if s.length<24 then none
 else if Mac.ok (mk key) (s.drop (s.length - 16)) (u::fr s)=true then some (Ctr.crypt (ek key) (non s) 0 ((fr s).drop 8)) else none
def refOp (key:Nat→Nat) (u:Nat) (s:List Nat):Option (List Nat):=
 if s.length<24 then none
 else if sld key u (non s) (Ctr.crypt (ek key) (non s) 0 ((fr s).drop 8))=s then some (Ctr.crypt (ek key) (non s) 0 ((fr s).drop 8)) else none
theorem crypt_nonce (key a b:Nat→Nat) (h:∀i,i<8→a i=b i) (n:Nat) (l:List Nat):Ctr.crypt key a n l=Ctr.crypt key b n l:=by
 unfold Ctr.crypt;refine List.map_congr_left fun i _=>?_
 have:∀j,Ctr.blk a j=Ctr.blk b j:=fun j=>by
  funext k;unfold Ctr.blk;split
  ·rename_i hk;exact h k hk
  ·rfl
 unfold Ctr.byte Ctr.bk;rw[this]
theorem fr_split {s:List Nat} (h:24≤s.length):fr s=nl 8 (non s)++(fr s).drop 8:=by
 have hl:(fr s).length=s.length - 16:=by unfold fr;rw[List.length_take];omega
 have e:(fr s).take 8=nl 8 (non s):=by
  apply List.ext_getElem
  ·rw[List.length_take,nl_length];omega
  ·intro i h1 h2
   have hi:i<8:=by rw[nl_length] at h2;exact h2
   simp only[nl,List.getElem_map,List.getElem_range,non,fr,List.getElem_take,List.getD];rw[List.getElem?_eq_getElem (by omega)];rfl
 rw[←e,List.take_append_drop]
theorem ok_seal (key:Nat→Nat) (u:Nat) (s:List Nat) (h:24≤s.length):
 Mac.ok (mk key) (s.drop (s.length - 16)) (u::fr s)=true↔sld key u (non s) (Ctr.crypt (ek key) (non s) 0 ((fr s).drop 8))=s:=by
 have hf:front key (non s) (Ctr.crypt (ek key) (non s) 0 ((fr s).drop 8))=fr s:=by
  unfold front;rw[Ctr.crypt_crypt,←fr_split h]
 have hc:(s.drop (s.length - 16)).length=16:=by rw[List.length_drop];omega
 unfold sld code;rw[hf];have hs:s=fr s++s.drop (s.length - 16):=by unfold fr;rw[List.take_append_drop]
 unfold Mac.ok;rw[hc];simp only[Nat.le_refl,Bool.and_eq_true,decide_eq_true_eq];constructor
 ·rintro⟨_,h2⟩
  have:=sameB_eq.1 h2
  conv=>rhs;rw[hs,this]
  rfl
 ·intro h2
  refine⟨⟨trivial,by omega⟩,sameB_eq.2 ?_⟩;have:fr s++nl 16 (Mac.hm (mk key) (u::fr s))=fr s++s.drop (s.length - 16):=h2.trans hs;exact(List.append_cancel_left this).symm
theorem op_ref (key:Nat→Nat) (u:Nat) (s:List Nat):op key u s=refOp key u s:=by
 unfold op refOp
 by_cases h:s.length<24
 ·rw[if_pos h,if_pos h]
 ·rw[if_neg h,if_neg h]
  have:=ok_seal key u s (by omega)
  by_cases h2:Mac.ok (mk key) (s.drop (s.length - 16)) (u::fr s)=true
  ·rw[if_pos h2,if_pos (this.1 h2)]
  ·rw[if_neg h2,if_neg (fun e=>h2 (this.2 e))]
theorem fr_seal (key:Nat→Nat) (u:Nat) (nonce:Nat→Nat) (l:List Nat):fr (sld key u nonce l)=front key nonce l:=by
 unfold fr;rw[seal_length];have e:l.length+24 - 16=(front key nonce l).length:=by rw[front_length];omega
 rw[e];unfold sld;rw[List.take_append_of_le_length (Nat.le_refl _),List.take_length]
theorem non_seal (key:Nat→Nat) (u:Nat) (nonce:Nat→Nat) (l:List Nat) (i:Nat) (h:i<8):non (sld key u nonce l) i=nonce i:=by
 unfold non sld front;rw[List.append_assoc];simp only[List.getD];rw[List.getElem?_append_left (by rw[nl_length];exact h)];have:=nl_get 8 nonce i h
 simpa [List.getD] using this
theorem nl_congr {n:Nat} {f g:Nat→Nat} (h:∀i,i<n→f i=g i):nl n f=nl n g:=by
 unfold nl;exact List.map_congr_left fun i hi=>h i (List.mem_range.1 hi)
theorem op_seal (key:Nat→Nat) (u:Nat) (nonce:Nat→Nat) (l:List Nat):op key u (sld key u nonce l)=some l:=by
 have hn:nl 8 (non (sld key u nonce l))=nl 8 nonce:=nl_congr fun i hi=>non_seal key u nonce l i hi
 have hcr:∀m,Ctr.crypt (ek key) (non (sld key u nonce l)) 0 m=Ctr.crypt (ek key) nonce 0 m:=fun m=>crypt_nonce _ _ _ (fun i hi=>non_seal key u nonce l i hi) 0 m
 have hd:(fr (sld key u nonce l)).drop 8=Ctr.crypt (ek key) nonce 0 l:=by
  rw[fr_seal];unfold front;rw[List.drop_append_of_le_length (by rw[nl_length];omega),List.drop_eq_nil_of_le (by rw[nl_length];omega)];rfl
 rw[op_ref];unfold refOp;rw[if_neg (by rw[seal_length];omega),hd,hcr,Ctr.crypt_crypt];have:sld key u (non (sld key u nonce l)) l=sld key u nonce l:=by
  have hf:front key (non (sld key u nonce l)) l=front key nonce l:=by unfold front;rw[hn,hcr]
  show front key (non (sld key u nonce l)) l++code key u (front key (non (sld key u nonce l)) l)=front key nonce l++code key u (front key nonce l);rw[hf]
 rw[if_pos this]
theorem seal_of_op {key:Nat→Nat} {u:Nat} {s l:List Nat} (h:op key u s=some l):sld key u (non s) l=s∧24≤s.length∧l.length=s.length - 24:=by
 rw[op_ref] at h;unfold refOp at h;split at h
 ·cases h
 ·rename_i h24
  split at h
  ·rename_i h2
   cases h
   refine⟨h2,by omega,?_⟩;rw[Ctr.crypt_length,List.length_drop];unfold fr;rw[List.length_take];omega
  ·cases h
end Sea
end Go.Proofs.YtcoolgnlhheaiaaGreatDoor
namespace Go.Proofs.YtcoolgnlhheaiaaGreatDoor
open Go.RowKit Go.Deep
set_option linter.all false
set_option maxRecDepth 100000
set_option maxHeartbeats 2000000
theorem aAO:(#[.int .u8 0,.int .u8 0,.int .u8 0,.int .u8 0,.int .u8 0,.int .u8 0,.int .u8 0,.int .u8 0,.int .u8 0,.int .u8 0,.int .u8 0,.int .u8 0,.int .u8 0,.int .u8 0,.int .u8 0,.int .u8 0,.int .u8 0,.int .u8 0,.int .u8 0,.int .u8 0,.int .u8 0,.int .u8 0,.int .u8 0,.int .u8 0,.int .u8 0,.int .u8 0,.int .u8 0,.int .u8 0,.int .u8 0,.int .u8 0,.int .u8 0,.int .u8 0]:Array Value)=aH .u8 32 (fun _=>0):=bY .u8 32 _ (Array.replicate 32 (.int .u8 0)) (by simp) (fun i hi=>dG _ _ _ hi)
theorem aAK:(#[.int .u8 0,.int .u8 0,.int .u8 0,.int .u8 0,.int .u8 0,.int .u8 0,.int .u8 0,.int .u8 0,.int .u8 0,.int .u8 0,.int .u8 0,.int .u8 0,.int .u8 0,.int .u8 0,.int .u8 0,.int .u8 0]:Array Value)=aH .u8 16 (fun _=>0):=bY .u8 16 _ (Array.replicate 16 (.int .u8 0)) (by simp) (fun i hi=>dG _ _ _ hi)
theorem aIY:(#[.int .u8 0,.int .u8 0,.int .u8 0,.int .u8 0,.int .u8 0,.int .u8 0,.int .u8 0,.int .u8 0]:Array Value)=aH .u8 8 (fun _=>0):=bY .u8 8 _ (Array.replicate 8 (.int .u8 0)) (by simp) (fun i hi=>dG _ _ _ hi)
theorem kW (f:Nat→Nat):((Tryz.prog).info? 35).map (·.size)=some (aH .u8 32 f).size:=by rw[aA];rfl
theorem dJ (f:Nat→Nat):((Tryz.prog).info? 22).map (·.size)=some (aH .u8 16 f).size:=by rw[aA];rfl
theorem fX (f:Nat→Nat):((Tryz.prog).info? 127).map (·.size)=some (aH .u8 8 f).size:=by rw[aA];rfl
theorem aIJ {ops:Array Oper} {listed:Array Bool} {a:Act} {w:World} {n:Nat} {K:Act→World→Prop} {S:World→Prop} {i:Nat} (ty:TypeId) (x y:Operand) (g:Nat) (cells:Array Value) (t:TypeId) (old:Array Value) (hst:tJ ops a i=true) (ho:(opn ops i).op= .store ty x y) (hx:a.eval x= .pointer (some ⟨g,0,none⟩)) (hy:a.eval y= .agg cells) (hg:w.heap[g]? =some (.cells old t (0,0)))
 (hi:((Tryz.prog).info? ty).map (·.size)=some cells.size) (hold:old.size=cells.size) (h1:cells.all (·.oneCell')=true) (hS:S (w.setRow g cells))
 (h:(w.setRow g cells).heap[g]? =some (.cells cells t (0,0))→wpAnyH Tryz.prog .any ops (nq K) S n (listed.setIfInBounds i true) a (w.setRow g cells)):HStep Tryz.prog .any ops (nq K) S n listed a w i (opn ops i):=by
 unfold tJ at hst;simp only[Bool.and_eq_true] at hst;have hd:=vH hst.1;refine HStep.of_law #[] hst.2 fun K' hK'=>?_
 refine wpList_store_rowTo rfl ty x y ho hd g cells hx hy t old hg hi hold h1 ?_;exact hK' _ _ hS (h (setRow_heap _ _ _ _ _ _ hg))
theorem gH {P:Program} {fn:Func} {p q:Tmp} {ty tz:TypeId} (h:fn.results=#[.cell p ty,.cell q tz]) (tmps:Array Value) (w:World) (g k:Nat) (t t':TypeId) (cs ds:Array Value) (fr fs:Nat×Nat) (d d':TypeDesc)
 (hp:tmps.getD p undef= .pointer (some ⟨g,0,none⟩)) (hg:w.heap[g]? =some (.cells cs t fr))
 (hu:P.underlying ty=some d) (hd:(match d with| .struct _| .array _ _=>true|_=>false)=true) (hi:(P.info? ty).map (·.size)=some cs.size)
 (hq:tmps.getD q undef= .pointer (some ⟨k,0,none⟩)) (hk:w.heap[k]? =some (.cells ds t' fs))
 (hu':P.underlying tz=some d') (hd':(match d' with| .struct _| .array _ _=>true|_=>false)=true) (hi':(P.info? tz).map (·.size)=some ds.size):
 (results fn tmps).run P w= .ok (.tuple #[.agg cs,.agg ds]) w:=by
 have hp':tmps[p]?.getD undef= .pointer (some ⟨g,0,none⟩):=by simpa using hp
 have hq':tmps[q]?.getD undef= .pointer (some ⟨k,0,none⟩):=by simpa using hq
 simp[results,h,hp',hq',asAddr,run_loadVar_row w g t ty cs fr d hg hu hd hi,run_loadVar_row w k t' tz ds fs d' hk hu' hd' hi']
attribute [local irreducible] wpAnyH in
theorem aFT (key:Nat→Nat) (w:World) (hk:Aes.B8 key) (hK:Consts w Sha.tab):
 Calls Tryz.prog 227 #[.agg (aH .u8 16 key)] w fun e w'=>e= .returned (.tuple #[.agg (aH .u8 16 (Sea.ek key)),.agg (aH .u8 32 (Sea.mf key))])∧Below w.heap.size w w':=by
 have HK:=aD hK;clear hK;have HB:=aD hk;clear hk;have hsz:=aA .u8 16 key;go_enter Tryz.func227,Tryz.ntmps227;go_upto_region 2 with fail;generalize hW:(World.alloc _ _:World)=V;have INV:Below w.heap.size w V∧isArr V w.heap.size 22 .u8 16 key∧isArr V (w.heap.size+1) 22 .u8 16 (fun _=>0)∧isArr V (w.heap.size+1+1) 35 .u8 32 (fun _=>0)∧isArr V (w.heap.size+1+1+1) 35 .u8 32 (fun _=>0):=by
  rw[←hW,aAK,aAO];have a0:=aN w 22 .u8 16 key;have a1:=aN (w.alloc (.cells (aH .u8 16 key) 22)) 22 .u8 16 (fun _=>0);have a2:=aN ((w.alloc (.cells (aH .u8 16 key) 22)).alloc (.cells (aH .u8 16 (fun _=>0)) 22)) 35 .u8 32 (fun _=>0);have a3:=aN (((w.alloc (.cells (aH .u8 16 key) 22)).alloc (.cells (aH .u8 16 (fun _=>0)) 22)).alloc (.cells (aH .u8 32 (fun _=>0)) 35)) 35 .u8 32 (fun _=>0);simp only[World.size_alloc] at a1 a2 a3;exact⟨aB (aG (aG (aG (aG (aE w none) _) _) _) _),((a0.alloc _).alloc _).alloc _,(a1.alloc _).alloc _,a2.alloc _,a3⟩
 obtain⟨hB0,A0,A1,A2,A3⟩:=INV;clear hW;have hKs:=(Bs.rs (A0.bs HB.out (by omega)));obtain⟨g1,hg1⟩:∃g,g=w.heap.size+1:=⟨_,rfl⟩;obtain⟨g2,hg2⟩:∃g,g=w.heap.size+1+1:=⟨_,rfl⟩;obtain⟨g3,hg3⟩:∃g,g=w.heap.size+1+1+1:=⟨_,rfl⟩;rw[←hg3] at A3 ⊢;rw[←hg2] at A2 ⊢;rw[←hg1] at A1 ⊢;have l1:w.heap.size<g1:=by omega
 have l2:g1<g2:=by omega
 have l3:g2<g3:=by omega
 clear hg1 hg2 hg3;refine bO Tryz.f227 2 4 (fun w'=>Below w.heap.size w w') (by kernel_rfl) (by kernel_rfl) (by kernel_rfl) (aU hB0 1) (fun K hK h0=>?_);refine aW (listed':=#[false,false,false,false]) (by kernel_rfl) rfl ?_;have HF:=aD hK;clear hK;refine aX 0 5 (.slice (some ⟨g3,0,none⟩) 32 32) (fun _ _=>by kernel_rfl) h0 ?_;simp only[Act.put,aJ,aK,aI];refine aX 1 6 (.slice (some ⟨w.heap.size,0,none⟩) 16 16) (fun _ _=>by kernel_rfl) h0 ?_;simp only[Act.put,aJ,aK,aI];refine bE 2 7 262 #[.slice (some ⟨w.heap.size,0,none⟩) 16 16,.string Sea.proS,.int .i64 32] (by kernel_rfl) (by kernel_rfl) ?_;refine(pO (Sea.nl 16 key) _ Sea.proS 32 (V.drewN 1) (by omega) (hKs.below (aU (Below.refl _ _) 1)) (by rw[Sea.nl_length];omega) (by decide) (HK.out.below h0)).mono ?_;rintro e w6 ⟨v6,rfl,ho6,hb6⟩;have h1:Below w.heap.size w w6:=h0.trans (hb6.mono h0.size);have B0:=(A0.drewN 1).below hb6 A0.lt;have B1:=(A1.drewN 1).below hb6 A1.lt;have B2:=(A2.drewN 1).below hb6 A2.lt;have B3:=(A3.drewN 1).below hb6 A3.lt;have hln:=Sea.mk_length key;refine⟨_,rfl,h1,?_⟩;simp only[Act.put,aJ,aK,aI];refine aR 3 (by kernel_rfl) (by kernel_rfl) (HStep.of_law #[] (by kernel_rfl) fun K' hK'=>?_);refine dK rfl (.tmp 5) (.tmp 7) (by kernel_rfl) g3 32 _ _ (by kernel_rfl) B3 v6 _ (by kernel_rfl) ho6.bs.rs ?_;intro w7 hA7 hg7;have h7:Below w.heap.size w w7:=aP h1 (Nat.le_refl _) hg7 (fun q hq=>by cases hq;omega);have C0:=B0.of_block (hg7.block _ B0.lt (by simp;omega));have C1:=B1.of_block (hg7.block _ B1.lt (by simp;omega));have C2:=B2.of_block (hg7.block _ B2.lt (by simp;omega));have C3:isArr w7 g3 35 .u8 32 (Sea.mf key):=hA7.congr fun i hi=>by
  have:i<(Mac.dn (Sea.nl 16 key) (lb Sea.proS) 32).length:=by rw[Mac.dn_length];exact hi
  rw[if_pos this];rfl
 refine hK' _ _ h7 ?_;have hd:(opn (iJ Tryz.f227 2) 3).dst=some 8:=by kernel_rfl
 rw[show({ opn (iJ Tryz.f227 2) 3 with guard:=none}:Oper).dst=some 8 from hd];refine aZ (by kernel_rfl) (HF.out _ _ ?_);simp only[Act.put,aJ,aK,aI];have hKs7:=Bs.rs (C0.bs HB.out (by omega));clear HF h0 h1 B0 B1 B2 B3 hA7 hg7 A0 A1 A2 A3 ho6 hb6 hKs hB0 hK' K' K;go_upto_region 3 with fail;have C0':=C0;have C1':=C1;refine bO Tryz.f227 3 5 (fun w'=>Below w.heap.size w w'∧isArr w' g3 35 .u8 32 (Sea.mf key)) (by kernel_rfl) (by kernel_rfl) (by kernel_rfl) ⟨aU h7 1,C3.drewN 1⟩ (fun K hK h0=>?_);refine aW (listed':=#[false,false,false,false,false]) (by kernel_rfl) rfl ?_;have HF:=aD hK;clear hK;refine aX 0 9 (.slice (some ⟨w.heap.size,0,none⟩) 16 16) (fun _ _=>by kernel_rfl) h0 ?_;simp only[Act.put,aJ,aK,aI];refine bG 2 11 (by kernel_rfl) _ (.tmp 4) (by kernel_rfl) ⟨g3,0,none⟩ (by kernel_rfl) (aH .u8 32 (Sea.mf key)) _ (fun w' hw'=>hw'.2.cells) rfl rfl (kW _) h0 ?_;simp only[Act.put,aJ,aK,aI];refine bE 1 10 263 #[.slice (some ⟨w.heap.size,0,none⟩) 16 16,.string Sea.encS] (by kernel_rfl) (by kernel_rfl) ?_;refine(yH (Sea.nl 16 key) _ Sea.encS (w7.drewN 1) (hKs7.below (aU (Below.refl _ _) 1)) (by rw[Sea.nl_length];omega) (by decide) (HK.out.below h0.1)).mono ?_;rintro e w8 ⟨rfl,hb8⟩;have h8:Below w.heap.size w w8:=h0.1.trans (hb8.mono h0.1.size);have D1:=(C1.drewN 1).below hb8 C1.lt;have D2:=(C2.drewN 1).below hb8 C2.lt;have D3:=(C3.drewN 1).below hb8 C3.lt;refine⟨_,rfl,⟨h8,D3⟩,?_⟩;simp only[Act.put,aJ,aK,aI];have h9:Below w.heap.size w (w8.setRow g1 (aH .u8 16 (Sea.ek key))):=below_setRow h8 (by omega) _;have E3:isArr (w8.setRow g1 (aH .u8 16 (Sea.ek key))) g3 35 .u8 32 (Sea.mf key):=setRow_other D3 (by omega) _;have E2:isArr (w8.setRow g1 (aH .u8 16 (Sea.ek key))) g2 35 .u8 32 (fun _=>0):=setRow_other D2 (by omega) _;refine aR 3 (by kernel_rfl) (by kernel_rfl) (aIJ _ (.tmp 2) (.tmp 10) g1 (aH .u8 16 (Sea.ek key)) _ _ (by kernel_rfl) (by kernel_rfl) (by kernel_rfl) (by kernel_rfl) D1 (dJ _) ((aA _ _ _).trans (aA _ _ _).symm) (aL _ _ _) ⟨h9,E3⟩ (fun F1=>?_));have h10:Below w.heap.size w ((w8.setRow g1 (aH .u8 16 (Sea.ek key))).setRow g2 (aH .u8 32 (Sea.mf key))):=below_setRow h9 (by omega) _;have G3:=setRow_other E3 (show g3≠g2 by omega) (aH .u8 32 (Sea.mf key));have G1:isArr ((w8.setRow g1 (aH .u8 16 (Sea.ek key))).setRow g2 (aH .u8 32 (Sea.mf key))) g1 22 .u8 16 (Sea.ek key):=setRow_other (w:=w8.setRow g1 (aH .u8 16 (Sea.ek key))) (f:=Sea.ek key) F1 (by omega) _;refine aR 4 (by kernel_rfl) (by kernel_rfl) (aIJ _ (.tmp 3) (.tmp 11) g2 (aH .u8 32 (Sea.mf key)) _ _ (by kernel_rfl) (by kernel_rfl) (by kernel_rfl) (by kernel_rfl) E2 (kW _) ((aA _ _ _).trans (aA _ _ _).symm) (aL _ _ _) ⟨h10,G3⟩ (fun F2=>?_));refine aZ (by kernel_rfl) (HF.out _ _ ?_);go_wp2_with fail;refine bodyPost_ret (gH rfl _ _ g1 g2 _ _ _ _ (0,0) (0,0) _ _ rfl G1 rfl rfl (dJ _) rfl F2 rfl rfl (kW _)) rfl ?_;exact⟨rfl,h10⟩
end Go.Proofs.YtcoolgnlhheaiaaGreatDoor
namespace Go.Proofs.YtcoolgnlhheaiaaGreatDoor
open Go.RowKit Go.Deep
set_option linter.all false
set_option maxRecDepth 100000
set_option maxHeartbeats 2000000
theorem aV {P:Program} {fn:Func} {p u:Tmp} {ty:TypeId} (h:fn.results=#[.cell p ty,.tmp u]) (tmps:Array Value) (w:World) (g:Nat) (t:TypeId) (cs:Array Value) (fr:Nat×Nat) (d:TypeDesc)
 (hp:tmps.getD p undef= .pointer (some ⟨g,0,none⟩)) (hg:w.heap[g]? =some (.cells cs t fr))
 (hu:P.underlying ty=some d) (hd:(match d with| .struct _| .array _ _=>true|_=>false)=true) (hi:(P.info? ty).map (·.size)=some cs.size):
 (results fn tmps).run P w= .ok (.tuple #[.agg cs,tmps.getD u undef]) w:=by
 have hp':tmps[p]?.getD undef= .pointer (some ⟨g,0,none⟩):=by simpa using hp
 simp[results,h,hp',asAddr,run_loadVar_row w g t ty cs fr d hg hu hd hi]
def Sea.nonI (s:List Nat) (i:Nat):Nat:=if s.length<24 then 0 else Sea.non s i
theorem qX (v:Value) (s:List Nat) (w:World) (h:Rs w v s):
 Calls Tryz.prog 226 #[v] w fun e w'=>e= .returned (.tuple #[.agg (aH .u8 8 (Sea.nonI s)),.bool (decide (24≤s.length))])∧Below w.heap.size w w':=by
 obtain⟨a,cap,rfl⟩:=h.form;have H:=aD h;clear h;go_enter Tryz.func226,Tryz.ntmps226;go_upto_region 2 with fail;generalize hW:(World.alloc _ _:World)=V;have INV:Below w.heap.size w V∧isArr V w.heap.size 127 .u8 8 (fun _=>0)∧isArr V (w.heap.size+1) 127 .u8 8 (fun _=>0):=by
  rw[←hW,aIY];have a0:=aN w 127 .u8 8 (fun _=>0);have a1:=aN (w.alloc (.cells (aH .u8 8 (fun _=>0)) 127)) 127 .u8 8 (fun _=>0);simp only[World.size_alloc] at a1;exact⟨aB (aG (aG (aE w none) _) _),a0.alloc _,a1⟩
 obtain⟨hB0,A0,A1⟩:=INV;clear hW;obtain⟨g1,hg1⟩:∃g,g=w.heap.size+1:=⟨_,rfl⟩;rw[←hg1] at A1 ⊢;have l1:w.heap.size<g1:=by omega
 clear hg1
 by_cases hs:s.length<24
 ·have hf:aH .u8 8 (Sea.nonI s)=aH .u8 8 (fun _=>0):=by
   have:Sea.nonI s=fun _=>0:=by funext i;unfold Sea.nonI;rw[if_pos hs]
   rw[this]
  have hd:false=decide (24≤s.length):=(decide_eq_false (by omega:¬24≤s.length)).symm;have HD:=aD hd;clear hd;have HF:=aD hf;clear hf;go_wp2_with (first|refine wpList_load_row rfl _ _ rfl g1 rfl _ _ (0,0) _ A1 rfl rfl (fX _) ?_|(refine wpList_store_row rfl _ _ _ rfl w.heap.size _ rfl rfl _ _ A0 (fX _) ((aA _ _ _).trans (aA _ _ _).symm) (aL _ _ _) ?_))
  all_goals first|omega|skip
  refine bodyPost_ret (aV rfl _ _ w.heap.size _ _ (0,0) _ rfl (setRow_heap _ w.heap.size _ _ _ (0,0) A0) rfl rfl (fX _)) rfl ?_;rw[HF.out,←HD.out];exact⟨rfl,below_setRow hB0 (Nat.le_refl _) _⟩
 ·have hd:true=decide (24≤s.length):=(decide_eq_true (by omega:24≤s.length)).symm
  have HD:=aD hd;clear hd;have HV:=H.out.below hB0;go_wp2_with (first|(refine dK rfl _ _ rfl g1 8 _ _ rfl A1 _ s rfl HV ?_;intro w7 hA7 hg7;have h7:Below w.heap.size w w7:=aP hB0 (Nat.le_refl _) hg7 (fun q hq=>by cases hq;omega);have C0:=A0.of_block (hg7.block _ A0.lt (by simp;omega));have C1:isArr w7 g1 127 .u8 8 (Sea.nonI s):=hA7.congr fun i hi=>by(rw[if_pos (by omega)];unfold Sea.nonI;rw[if_neg hs];rfl))|refine wpList_load_row rfl _ _ rfl g1 rfl _ _ (0,0) _ C1 rfl rfl (fX _) ?_|(refine wpList_store_row rfl _ _ _ rfl w.heap.size _ rfl rfl _ _ C0 (fX _) ((aA _ _ _).trans (aA _ _ _).symm) (aL _ _ _) ?_))
  all_goals first|omega|skip
  refine bodyPost_ret (aV rfl _ _ w.heap.size _ _ (0,0) _ rfl (setRow_heap _ w.heap.size _ _ _ (0,0) C0) rfl rfl (fX _)) rfl ?_;rw[←HD.out];exact⟨rfl,below_setRow h7 (Nat.le_refl _) _⟩
end Go.Proofs.YtcoolgnlhheaiaaGreatDoor
namespace Go.Proofs.YtcoolgnlhheaiaaGreatDoor
open Go.RowKit Go.Deep
set_option linter.all false
set_option maxRecDepth 100000
set_option maxHeartbeats 2000000
theorem qJ (w:World) (C1 C2:Array Value) (t1 t2:TypeId):((w.alloc (.cells C1 t1)).alloc (.cells C2 t2)).heap[w.heap.size]? =some (.cells C1 t1 (0,0)):=
 (Below.heap_alloc (w.alloc (.cells C1 t1)) _ _ (by simp)).trans (heap_alloc_new w _)
theorem qR (w:World) (C1 C2 X:Array Value) (t1 t2:TypeId):(((w.alloc (.cells C1 t1)).alloc (.cells C2 t2)).setRow w.heap.size X).heap[w.heap.size+1]? =some (.cells C2 t2 (0,0)):=by
 have h:=heap_alloc_new (w.alloc (.cells C1 t1)) (.cells C2 t2);rw[World.size_alloc] at h;have e:(((w.alloc (.cells C1 t1)).alloc (.cells C2 t2)).setRow w.heap.size X).heap[w.heap.size+1]? =((w.alloc (.cells C1 t1)).alloc (.cells C2 t2)).heap[w.heap.size+1]? :=by
  unfold World.setRow;rw[Array.getElem?_modify,if_neg (by omega)]
 rw[e,h]
theorem Rs.pre {w:World} {a:Option Addr} {n cap:Nat} {l:List Nat} (h:Rs w (.slice a n cap) l) {m:Nat} (hm:m≤l.length):Rs w (.slice a m cap) (l.take m):=by
 have hl:(l.take m).length=m:=by rw[List.length_take];omega
 refine⟨fun x hx=>h.1 x (List.mem_of_mem_take hx),by have:=h.2.1;omega,?_⟩;rcases h.2.2 with ⟨hv,rfl⟩|⟨x,c,hv,hc,hcell⟩
 ·simp only[Value.slice.injEq] at hv
  obtain⟨rfl,rfl,rfl⟩:=hv;have:m=0:=by simpa using hm
  subst this;exact .inl ⟨rfl,by simp⟩
 ·simp only[Value.slice.injEq] at hv
  obtain⟨rfl,rfl,rfl⟩:=hv;refine .inr ⟨x,cap,by rw[hl],by omega,fun i hi=>?_⟩;rw[hl] at hi;rw[hcell i (by omega)];simp[hi]
theorem aGG (w:World) (C1 C2:Array Value) (t1 t2:TypeId) (n m:Nat) (f g:Nat→Nat):
 isArr ((((w.alloc (.cells C1 t1)).alloc (.cells C2 t2)).setRow w.heap.size (aH .u8 n f)).setRow (w.heap.size+1) (aH .u8 m g)) w.heap.size t1 .u8 n f∧
 isArr ((((w.alloc (.cells C1 t1)).alloc (.cells C2 t2)).setRow w.heap.size (aH .u8 n f)).setRow (w.heap.size+1) (aH .u8 m g)) (w.heap.size+1) t2 .u8 m g∧
 Below w.heap.size w ((((w.alloc (.cells C1 t1)).alloc (.cells C2 t2)).setRow w.heap.size (aH .u8 n f)).setRow (w.heap.size+1) (aH .u8 m g)):=by
 refine⟨setRow_other (setRow_heap _ _ _ _ _ _ (qJ w C1 C2 t1 t2)) (by omega) _,setRow_heap _ _ _ _ _ _ (qR w C1 C2 _ t1 t2),?_⟩;exact below_setRow (below_setRow (((Below.refl _ w).alloc (Nat.le_refl _) _).alloc (by simp) _) (Nat.le_refl _) _) (by omega) _
end Go.Proofs.YtcoolgnlhheaiaaGreatDoor
namespace Go.Proofs.YtcoolgnlhheaiaaGreatDoor
open Go.RowKit Go.Deep
set_option linter.all false
set_option maxRecDepth 100000
set_option maxHeartbeats 2000000
theorem Rs.caps {w:World} {x:Addr} {n cap:Nat} {l:List Nat} (h:Rs w (.slice (some x) n cap) l):l.length≤cap∧cap≤9223372036854775807:=by
 rcases h.2.2 with ⟨h',_⟩|⟨y,c,h',hc,_⟩
 ·simp at h'
 ·simp only[Value.slice.injEq] at h'
  obtain⟨_,_,rfl⟩:=h';exact hc
theorem Rs.sub {w:World} {b off n cap:Nat} {l:List Nat} (h:Rs w (.slice (some ⟨b,off,none⟩) n cap) l) (i j c m:Nat) (hij:i≤j) (hj:j≤l.length) (hm:m=j - i) (hc:m≤c) (hc2:c≤9223372036854775807):Rs w (.slice (some ⟨b,off+i,none⟩) m c) ((l.take j).drop i):=by
 subst hm;have hl:((l.take j).drop i).length=j - i:=by rw[List.length_drop,List.length_take];omega
 refine⟨fun x hx=>h.1 x (List.mem_of_mem_take (List.mem_of_mem_drop hx)),by have:=h.2.1;omega,.inr ⟨_,c,by rw[hl],by rw[hl];omega,fun k hk=>?_⟩⟩;rw[hl] at hk;obtain⟨b',off',e,hcell⟩:=h.at (k:=i+k) (by omega);simp only[Option.some.injEq,Addr.mk.injEq,and_true] at e;obtain⟨rfl,rfl⟩:=e;rw[Addr.add_lit,Nat.add_assoc,hcell (i+k) (by omega)];congr 2;simp only[List.getD,List.getElem?_drop];rw[List.getElem?_take_of_lt (by omega)]
theorem aHE:Tryz.prog.underlying 39=some (.slice (Tryz.prog.elem 39)):=by kernel_rfl
def mB (b off i m:Nat):Option Addr:=if m=i then some ⟨b,off,none⟩ else some ⟨b,off+i,none⟩
theorem aGE (w:World) (b off len cap i j m:Nat) (hij:i≤j) (hjm:j≤m) (hm:m≤cap):(Instr.slice 39 (.slice (some ⟨b,off,none⟩) len cap) (some (.int .i64 i)) (some (.int .i64 j)) (some (.int .i64 m))).run Tryz.prog w= .ok (.slice (mB b off i m) (j - i) (m - i)) w:=by
 have h1:(0:Int)≤(i:Int)∧(i:Int)≤(j:Int):=by omega
 have h2:(0:Int)≤(j:Int)∧(j:Int)≤(m:Int):=by omega
 have h3:(0:Int)≤(m:Int)∧(m:Int)≤(cap:Int):=by omega
 unfold mB;simp[Instr.slice,Instr.sliceBounds,Instr.sliceBound,run_underlying Tryz.underlying39,go_sem];rw[if_pos hm,if_pos hjm,if_pos hij]
theorem aB4 {o:Oper} {a:Act} {w:World} {x y z t:Operand} {b off len cap i j m:Nat} (ho:o.op= .slice 39 x (some y) (some z) (some t)) (hx:a.eval x= .slice (some ⟨b,off,none⟩) len cap) (hy:a.eval y= .int .i64 i) (hz:a.eval z= .int .i64 j) (ht:a.eval t= .int .i64 m) (hij:i≤j) (hjm:j≤m) (hm:m≤cap):
 (execOp a.eval o).run Tryz.prog w= .ok (.value (.slice (mB b off i m) (j - i) (m - i))) w:=by
 unfold execOp;simp only[ho,hx,hy,hz,ht,Option.map_some,Sem.run_bind,Sem.run_pure,run_sliceAt_slice _ 39 _ _ _ _ aHE,Result.andThen_ok,aGE w b off len cap i j m hij hjm hm]
theorem Rs.part {w:World} {b off n cap:Nat} {l:List Nat} (h:Rs w (.slice (some ⟨b,off,none⟩) n cap) l) (i j m:Nat) (hij:i≤j) (hj:j≤l.length) (hjm:j≤m) (hm:m≤9223372036854775807):Rs w (.slice (mB b off i m) (j - i) (m - i)) ((l.take j).drop i):=by
 unfold mB;split
 ·rename_i he
  have e:(l.take j).drop i=[]:=List.drop_eq_nil_of_le (by rw[List.length_take];omega);rw[e];refine⟨AllB.nil,by simp,.inr ⟨⟨b,off,none⟩,m - i,?_,by simp;omega,fun k hk=>by simp at hk⟩⟩;rw[show j - i=0 by omega];rfl
 ·exact h.sub i j (m - i) (j - i) hij hj rfl (by omega) (by omega)
attribute [local irreducible] wpAnyH in
theorem aFM (key:Nat→Nat) (u:Nat) (v:Value) (s:List Nat) (w:World) (hk:Aes.B8 key) (hu:u<256) (hv:Rs w v s) (hl:s.length≤1000000) (hK:Consts w Sha.tab):
 Calls Tryz.prog 167 #[.agg (aH .u8 16 key),.int .u8 (u:Int),v] w (eA (Sea.op key u s) w):=by
 have HK:=aD hK;clear hK;have HB:=aD hk;clear hk;have hsz:=aA .u8 16 key;have A0:=aN w 22 .u8 16 key;have B0:=aB (aG (aE w none) (.cells (aH .u8 16 key) 22))
 by_cases h24:s.length<24
 ·obtain⟨a,cap,rfl⟩:=hv.form
  have HV:=aD (hv.below B0);clear hv;have hd:=decide_eq_false (show ¬24≤s.length by omega);have HD:=aD hd;clear hd;go_enter Tryz.func167,Tryz.ntmps167
  go_upto_region 2 with (first
   |(go_at_call 226;go_must (refine(qX _ s _ HV.out).mono ?_;rintro e w1 ⟨rfl,hb1⟩;rw[HD.out]))
   |refine wpList_store_rowTo rfl _ _ _ rfl rfl w1.heap.size _ rfl rfl _ _ (heap_alloc_new _ _) (fX _) (by rw[aA];rfl) (aL _ _ _) ?_)
  generalize hW:World.setRow _ w1.heap.size _=V2;have hV2:Below w1.heap.size w1 V2:=by rw[←hW];exact below_setRow ((Below.refl _ _).alloc (Nat.le_refl _) _) (Nat.le_refl _) _
  clear hW;go_wp2_with fail;go_ret2;have B1:=B0.trans (hb1.mono B0.size);exact⟨B1.trans (hV2.mono B1.size),.inl ⟨by unfold Sea.op;rw[if_pos h24],rfl⟩⟩
 ·have h0:0<s.length:=by omega
  obtain⟨a,cap,rfl⟩:=hv.form;obtain⟨b,off,rfl,_⟩:=hv.at h0;obtain⟨hcap,hmax⟩:=hv.caps;have HV:=aD hv;clear hv;have HD:=aD (decide_eq_true (show 24≤s.length by omega));have HNF:=aD (show Sea.nonI s=Sea.non s by funext i;unfold Sea.nonI;rw[if_neg h24]);have HV1:=aD (HV.out.below B0);go_enter Tryz.func167,Tryz.ntmps167
  go_upto_region 4 with (first
   |(go_at_call 226;go_must (refine(qX _ s _ HV1.out).mono ?_;rintro e w1 ⟨rfl,hb1⟩;rw[HD.out,HNF.out]))
   |refine wpList_store_rowTo rfl _ _ _ rfl rfl w1.heap.size _ rfl rfl _ _ (heap_alloc_new _ _) (fX _) (by rw[aA];rfl) (aL _ _ _) ?_)
  generalize hW:World.setRow _ w1.heap.size _=V2;have N2:isArr V2 w1.heap.size 127 .u8 8 (Sea.non s):=by rw[←hW];exact setRow_heap _ _ _ _ _ _ (heap_alloc_new _ _)
  have hV2:Below w1.heap.size w1 V2:=by rw[←hW];exact below_setRow ((Below.refl _ _).alloc (Nat.le_refl _) _) (Nat.le_refl _) _
  clear hW;have B1:=B0.trans (hb1.mono B0.size);have B2:=B1.trans (hV2.mono B1.size);have A2:=(A0.below hb1 A0.lt).below hV2 (A0.below hb1 A0.lt).lt;obtain⟨gN,hgN⟩:∃g,g=w1.heap.size:=⟨_,rfl⟩;rw[←hgN] at N2 ⊢;clear hgN hb1 hV2 B1 HV1 A0 B0 hsz;obtain⟨e,he⟩:∃e,e=s.length - 16:=⟨_,rfl⟩;have hei:IntKind.i64.wrap ((s.length:Int) - 16)=(e:Int):=by simp only[IntKind.wrap_i64];omega
  have HES:=aD (show s.length=e+16 by omega);have he8:8≤e:=by omega
  have hel:e≤s.length:=by omega
  have H24:=aD h24;clear he h0 h24;go_upto_region 5 with fail;have hen:0≤(e:Int):=Int.natCast_nonneg _;have hec:e≤cap:=by omega
  have hne:¬s.length=e:=by have:=HES.out;omega
  have h16:s.length - e=16:=by have:=HES.out;omega
  have HNE:=aD hne;have H16:=aD h16;clear h16;go_quiet (fail);rw[H16.out];have N3:=N2.drewN nq;have A3:=A2.drewN nq;have B3:=aU B2 nq;generalize V2.drewN nq=V3 at*;clear N2 A2 B2 hne hei;have HVV:=HV.out.below (B3.mono (Nat.le_refl _));have F3:Rs V3 (.slice (some ⟨b,off,none⟩) e e) (Sea.fr s):=by
   have h:=HVV.sub 0 e e e (Nat.zero_le _) hel (by omega) (Nat.le_refl _) (by omega);rw[Nat.add_zero,List.drop_zero] at h;have:s.take e=Sea.fr s:=by unfold Sea.fr;rw[HES.out];rfl
   rwa [this] at h
  have G3:Rs V3 (.slice (some ⟨b,off+e,none⟩) 16 16) (s.drop (s.length - 16)):=by
   have h:=HVV.sub e s.length 16 16 hel (Nat.le_refl _) H16.out.symm (Nat.le_refl _) (by omega);rw[List.take_length] at h
   rwa [show s.length - 16=e by have:=HES.out;omega]
  have HK3:=aD (HK.out.below B3);have HA3:=aD A3;clear HVV
  go_upto_region 7 with (first
   |refine wpList_load_row rfl _ _ rfl w.heap.size rfl _ _ (0,0) _ HA3.out rfl rfl (dJ _) ?_
   |(go_at_call 227;go_must (refine(aFT key _ HB.out HK3.out).mono ?_;rintro e w4 ⟨rfl,hb4⟩))
   |refine wpList_store_rowTo rfl _ _ _ rfl rfl w4.heap.size _ rfl rfl _ _ (qJ w4 _ _ _ _) (dJ _) (by rw[aA];rfl) (aL _ _ _) ?_
   |refine wpList_store_rowTo rfl _ _ _ rfl rfl (w4.heap.size+1) _ rfl rfl _ _ (qR w4 _ _ _ _ _) (kW _) (by rw[aA];rfl) (aL _ _ _) ?_)
  have T:=aGG w4 (Array.replicate 16 (.int .u8 0)) (Array.replicate 32 (.int .u8 0)) 22 35 16 32 (Sea.ek key) (Sea.mf key);generalize hW:World.setRow _ (w4.heap.size+1) _=V;have T:isArr V w4.heap.size 22 .u8 16 (Sea.ek key)∧isArr V (w4.heap.size+1) 35 .u8 32 (Sea.mf key)∧Below w4.heap.size w4 V:=by rw[←hW];exact T
  clear hW;obtain⟨E0,M0,hbV⟩:=T;have NV:=(N3.below hb4 N3.lt).below hbV (N3.below hb4 N3.lt).lt;have FV:=(F3.below hb4).below hbV;have GV:=(G3.below hb4).below hbV;have B4:=B3.trans (hb4.mono B3.size);have BV:=B4.trans (hbV.mono B4.size);clear N3 A3 B3 F3 G3 HK3 HA3 hb4 hbV B4;obtain⟨gE,hgE⟩:∃g,g=w4.heap.size:=⟨_,rfl⟩;obtain⟨gM,hgM⟩:∃g,g=w4.heap.size+1:=⟨_,rfl⟩;rw[←hgM] at M0 ⊢;rw[←hgE] at E0 ⊢;clear hgE hgM;have hMs:Rs V (.slice (some ⟨gM,0,none⟩) 32 32) (Sea.mk key):=by
   have:=(M0.bs (Sea.mf_b8 key) (by omega)).rs
   rwa [show(List.range 32).map (Sea.mf key)=Sea.mk key from Sea.nl_mf key] at this
  have X1:=(bL V 0 [u] (AllB.one hu) (Nat.zero_le _) (by simp)).bs.rs;have hb2:=jA X1 (FV.below ((Below.refl _ V).alloc (Nat.le_refl _) (.cells ([u].map bv).toArray 5)));simp only[World.size_alloc] at hb2;have hB9:Below V.heap.size V ((V.alloc (.cells ([u].map bv).toArray 5)).alloc (.cells #[.slice (some ⟨V.heap.size,0,none⟩) 1 1,.slice (some ⟨b,off,none⟩) e e] 39)):=((Below.refl _ V).alloc (Nat.le_refl _) _).alloc (by simp) _;have hmsg:Wir.join [[u],Sea.fr s]=u::Sea.fr s:=by unfold Wir.join;simp
  have HC8:=aD (HK.out.below (BV.trans (hB9.mono BV.size)));have HMS:=aD (hMs.below hB9);have HB2:=aD hb2;have HB9:=aD (BV.trans (hB9.mono BV.size));have HGV:=aD (GV.below hB9);have HFV:=aD (FV.below hB9);have HNV:=aD (NV.below hB9 NV.lt);have HEV:=aD (E0.below hB9 E0.lt);have HLN:=aD (show(Wir.join [[u],Sea.fr s]).length≤140737488354000 by rw[hmsg];unfold Sea.fr;simp;omega);have HMG:=aD hmsg;clear hMs hb2 hB9 X1 hmsg GV FV NV E0 M0 BV;go_upto_region 9 with (go_at_call 228;go_must (refine(aB9 (Sea.mk key) _ _ _ _ [[u],Sea.fr s] _ HMS.out (by rw[Sea.mk_length];omega) HGV.out HB2.out HLN.out (by simp) HC8.out).mono ?_;rintro e w9 ⟨rfl,hb9⟩;rw[HMG.out]))
  ·have hno:(!Mac.ok (Sea.mk key) (s.drop (s.length - 16)) (u::Sea.fr s))=true:=by assumption
   have hno':Mac.ok (Sea.mk key) (s.drop (s.length - 16)) (u::Sea.fr s)=false:=by simpa using hno
   have hB:=HB9.out.trans (hb9.mono HB9.out.size);go_ret2;exact⟨hB,.inl ⟨by unfold Sea.op;rw[if_neg H24.out,if_neg (by rw[hno'];simp)],rfl⟩⟩
  ·have hyes:(!Mac.ok (Sea.mk key) (s.drop (s.length - 16)) (u::Sea.fr s))=false:=by assumption
   have hyes':Mac.ok (Sea.mk key) (s.drop (s.length - 16)) (u::Sea.fr s)=true:=by simpa using hyes
   have HO:=aD (show Sea.op key u s=some (Ctr.crypt (Sea.ek key) (Sea.non s) 0 ((Sea.fr s).drop 8)) by unfold Sea.op;rw[if_neg H24.out,if_pos hyes']);have hB:=HB9.out.trans (hb9.mono HB9.out.size);have N9:=HNV.out.below hb9 HNV.out.lt;have E9:=HEV.out.below hb9 HEV.out.lt;have F9:=HFV.out.below hb9;have hfl:(Sea.fr s).length=e:=by unfold Sea.fr;rw[List.length_take,HES.out];omega
   have hs8:∀i,Sea.non s i<256:=fun i=>HV.out.1.get i
   have P9:Rs w9 (.slice (mB b off 8 e) (e - 8) (e - 8)) ((Sea.fr s).drop 8):=by
    have h:=F9.part 8 e e he8 (by omega) (Nat.le_refl _) (by omega)
    rwa [List.take_of_length_le (by omega)] at h
   clear hyes hyes' hb9 HNV HEV HFV HGV HB2 HMS HC8 HLN HMG F9;generalize hw9:w9=W9 at*;clear hw9;refine bO Tryz.f167 9 9 (fun w'=>Below W9.heap.size W9 w') (by kernel_rfl) (by kernel_rfl) (by kernel_rfl) (aU (Below.refl _ _) 1) (fun K hK h0=>?_);refine aW (listed':=#[false,false,false,false,false,false,false,false,false]) (by kernel_rfl) rfl ?_;have HF:=aD hK;clear hK;refine bG 0 49 (by kernel_rfl) _ (.tmp 13) (by kernel_rfl) ⟨gE,0,none⟩ (by kernel_rfl) (aH .u8 16 (Sea.ek key)) _ (fun w' hw'=>(E9.below hw' E9.lt).cells) rfl rfl (dJ _) h0 ?_;simp only[Act.put,aJ,aK,aI];refine bG 1 50 (by kernel_rfl) _ (.tmp 8) (by kernel_rfl) ⟨gN,0,none⟩ (by kernel_rfl) (aH .u8 8 (Sea.non s)) _ (fun w' hw'=>(N9.below hw' N9.lt).cells) rfl rfl (fX _) h0 ?_;simp only[Act.put,aJ,aK,aI];refine aX 2 51 (.slice (some ⟨b,off,none⟩) e e) (fun _ _=>by kernel_rfl) h0 ?_;simp only[Act.put,aJ,aK,aI];refine aX 3 52 (.int .i64 e) (fun _ _=>by kernel_rfl) h0 ?_;simp only[Act.put,aJ,aK,aI];refine aX 4 53 (.int .i64 e) (fun _ _=>by kernel_rfl) h0 ?_;simp only[Act.put,aJ,aK,aI];refine aX 5 54 (.slice (mB b off 8 e) (e - 8) (e - 8)) (fun _ _=>aB4 (x:=.tmp 51) (y:=.const (.int .i64 8)) (z:=.tmp 52) (t:=.tmp 53) (b:=b) (off:=off) (len:=e) (cap:=e) (i:=8) (j:=e) (m:=e) (by kernel_rfl) (by kernel_rfl) (by kernel_rfl) (by kernel_rfl) (by kernel_rfl) he8 (Nat.le_refl _) (Nat.le_refl _)) h0 ?_;simp only[Act.put,aJ,aK,aI];refine bE 6 55 229 #[.agg (aH .u8 16 (Sea.ek key)),.agg (aH .u8 8 (Sea.non s)),.slice (mB b off 8 e) (e - 8) (e - 8)] (by kernel_rfl) (by kernel_rfl) ?_;refine(rJ (Sea.ek key) (Sea.non s) _ ((Sea.fr s).drop 8) (W9.drewN 1) (Sea.ek_b8 key) hs8 (P9.below h0) (by rw[List.length_drop];omega)).mono ?_;rintro x w6 ⟨v6,rfl,o6,hb6⟩;have h6:Below W9.heap.size W9 w6:=h0.trans hb6;refine⟨_,rfl,h6,?_⟩;simp only[Act.put,aJ,aK,aI];refine aX 7 6 v6 (fun _ _=>by kernel_rfl) h6 ?_;simp only[Act.put,aJ,aK,aI];refine aX 8 7 (.bool true) (fun _ _=>by kernel_rfl) h6 ?_;simp only[Act.put,aJ,aK,aI];refine aZ (by kernel_rfl) (HF.out _ _ ?_);have BF:=hB.trans (h6.mono hB.size);have OF:=o6.mono (base':=w.heap.size) (Nat.le_trans hB.size h0.size);clear HF h0 h6 hb6 o6 E9 N9 P9;go_wp2_with fail;go_ret2;exact⟨BF,.inr ⟨_,v6,HO.out,rfl,OF⟩⟩
end Go.Proofs.YtcoolgnlhheaiaaGreatDoor
namespace Go.Proofs.YtcoolgnlhheaiaaGreatDoor
open Go.RowKit Go.Deep
set_option linter.all false
set_option maxRecDepth 100000
def tk (r:ByteArray) (u:Value) (s e:Int) (key:Nat→Nat):Array Value:=#[.string r,u,.int .i64 s,.int .i64 e]++aH .u8 16 key
theorem tk_size (r:ByteArray) (u:Value) (s e:Int) (key:Nat→Nat):(tk r u s e key).size=20:=by
 unfold tk;rw[Array.size_append,aA];rfl
theorem aJZ (r:ByteArray) (u:Value) (s e:Int) (key:Nat→Nat):(tk r u s e key)[0]? =some (.string r):=by
 unfold tk;rw[Array.getElem?_append_left (by simp)];rfl
theorem aJW (r:ByteArray) (u:Value) (s e:Int) (key:Nat→Nat):(tk r u s e key)[1]? =some u:=by
 unfold tk;rw[Array.getElem?_append_left (by simp)];rfl
theorem aJ4 (r:ByteArray) (u:Value) (s e:Int) (key:Nat→Nat):(tk r u s e key)[2]? =some (.int .i64 s):=by
 unfold tk;rw[Array.getElem?_append_left (by simp)];rfl
theorem aJ3 (r:ByteArray) (u:Value) (s e:Int) (key:Nat→Nat):(tk r u s e key)[3]? =some (.int .i64 e):=by
 unfold tk;rw[Array.getElem?_append_left (by simp)];rfl
theorem aDV (r:ByteArray) (u:Value) (s e:Int) (key:Nat→Nat) (j:Nat):(tk r u s e key)[4+j]? =(aH .u8 16 key)[j]? :=by
 unfold tk;rw[Array.getElem?_append_right (by simp)];simp
theorem bI (r:ByteArray) (u:Value) (s e:Int) (key:Nat→Nat):(Tryz.prog.info? 65).map (·.size)=some (tk r u s e key).size:=by rw[tk_size];kernel_rfl
def Tb (W:World) (b:Nat) (r:ByteArray) (u:Value) (ss:List ByteArray) (s e:Int) (key:Nat→Nat):Prop:=Hb W b (tk r u s e key) 65∧Ss W u ss∧r.size≤maxLen∧Aes.B8 key
section
variable {W:World} {b:Nat} {r:ByteArray} {u:Value} {ss:List ByteArray} {s e:Int} {key:Nat→Nat}
theorem Tb.new (h:Ss W u ss) (hr:r.size≤maxLen) (hk:Aes.B8 key):Tb (W.alloc (.cells (tk r u s e key) 65)) W.heap.size r u ss s e key:=⟨Hb.new _ _ _,h.only (aG (aE W none) _),hr,hk⟩
theorem Tb.below {W':World} (h:Tb W b r u ss s e key) (k:Below W.heap.size W W'):Tb W' b r u ss s e key:=⟨(k.block b h.1.lt).trans h.1,h.2.1.below k,h.2.2⟩
theorem Tb.only {W':World} (h:Tb W b r u ss s e key) (k:W.grownBy W' none):Tb W' b r u ss s e key:=h.below (aB k)
theorem Tb.c0 (h:Tb W b r u ss s e key):W.cell? ⟨b,0,none⟩=some (.string r):=h.1.cell (aJZ _ _ _ _ _)
theorem Tb.c1 (h:Tb W b r u ss s e key):W.cell? ⟨b,1,none⟩=some u:=h.1.cell (aJW _ _ _ _ _)
theorem Tb.c2 (h:Tb W b r u ss s e key):W.cell? ⟨b,2,none⟩=some (.int .i64 s):=h.1.cell (aJ4 _ _ _ _ _)
theorem Tb.c3 (h:Tb W b r u ss s e key):W.cell? ⟨b,3,none⟩=some (.int .i64 e):=h.1.cell (aJ3 _ _ _ _ _)
theorem Tb.ck (h:Tb W b r u ss s e key):∀j v,(aH .u8 16 key)[j]? =some v→W.cell? ((⟨b,4,none⟩:Addr).add j)=some v:=fun j v hj=>by
 rw[Addr.add_lit];exact h.1.cell ((aDV _ _ _ _ _ j).trans hj)
end
def tic (r:ByteArray) (ss:List ByteArray) (s e:Int) (key:Nat→Nat):Tic.T:=⟨nm r ss,s,e,Sea.nl 16 key⟩
theorem lH {P:Program} {ops:Array Oper} {rest:List Oper} {o:Oper} {a:Act} {w:World} {Q:Exit→Act→World→Prop} (hw:Region.wanted o (yielded ops a.tmps)=true) (ty:TypeId) (x:Operand) (ho:o.op= .load ty x)
 (ad:Addr) (hx:a.eval x= .pointer (some ad)) (cs:Array Value) (d:TypeDesc) (hc:∀j v,cs[j]? =some v→w.cell? (ad.add j)=some v)
 (hu:P.underlying ty=some d) (hd:(match d with| .struct _| .array _ _=>true|_=>false)=true) (hi:(P.info? ty).map (·.size)=some cs.size)
 (h:wpList P ops Q rest (a.put o.dst (.agg cs)) w):wpList P ops Q (o::rest) a w:=by
 refine wpList_step fun K hK=>?_
 rw[if_pos hw];unfold Oper.wp execOp;simp only[ho,hx,Instr.loadAt,Instr.sureAddr,Sem.run_bind,Sem.run_pure,Result.andThen_ok,cS w ad ty cs d hc hu hd hi];exact hK _ _ h
end Go.Proofs.YtcoolgnlhheaiaaGreatDoor
