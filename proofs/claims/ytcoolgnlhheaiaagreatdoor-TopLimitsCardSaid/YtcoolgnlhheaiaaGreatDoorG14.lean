import Derived.ChangeMaps5
import Derived.Maps.OwnSet
import Derived.Maps.RangeWalk
import Derived.SliceStrings
import Derived.Test.YtcoolgnlhheaiaaGreatDoorG12
import Derived.Test.YtcoolgnlhheaiaaGreatDoorG13
namespace Go.Proofs.YtcoolgnlhheaiaaGreatDoor
open Go.RowKit Go.Deep
set_option linter.all false
set_option maxRecDepth 100000
set_option maxHeartbeats 4000000
theorem uI (w:World) (f g:Nat→Nat) (C:Array Value) (t:TypeId):isArr (((w.alloc (.cells (aH .u8 16 f) 22)).alloc (.cells (aH .u8 8 g) 127)).alloc (.cells C t)) w.heap.size 22 .u8 16 f∧isArr (((w.alloc (.cells (aH .u8 16 f) 22)).alloc (.cells (aH .u8 8 g) 127)).alloc (.cells C t)) (w.heap.size+1) 127 .u8 8 g∧Hb (((w.alloc (.cells (aH .u8 16 f) 22)).alloc (.cells (aH .u8 8 g) 127)).alloc (.cells C t)) (w.heap.size+1+1) C t∧w.grownBy (((w.alloc (.cells (aH .u8 16 f) 22)).alloc (.cells (aH .u8 8 g) 127)).alloc (.cells C t)) none:=by
 have a2:=aN (w.alloc (.cells (aH .u8 16 f) 22)) 127 .u8 8 g;have a3:=Hb.new ((w.alloc (.cells (aH .u8 16 f) 22)).alloc (.cells (aH .u8 8 g) 127)) C t;simp only[World.size_alloc] at a2 a3;exact⟨((aN w _ _ _ _).alloc _).alloc _,a2.alloc _,a3,aG (aG (aG (aE w none) _) _) _⟩
theorem isArr.only {w w':World} {b n:Nat} {t:TypeId} {k:IntKind} {f:Nat→Nat} (h:isArr w b t k n f) (g:w.grownBy w' none):isArr w' b t k n f:=h.below (aB g) h.lt
theorem sU (key:Nat→Nat) (u:Nat) (x:Int) (hx:x=(u:Int)) (v:Value) (s:List Nat) (w:World) (hk:Aes.B8 key) (hu:u<256) (hv:Rs w v s) (hl:s.length≤1000000) (hK:Consts w Sha.tab):
 Calls Tryz.prog 167 #[.agg (aH .u8 16 key),.int .u8 x,v] w (eA (Sea.op key u s) w):=by
 subst hx;exact aFM key u v s w hk hu hv hl hK
theorem mD (key nonce:Nat→Nat) (u:Nat) (x:Int) (hx:x=(u:Int)) (v:Value) (l:List Nat) (w:World) (hk:Aes.B8 key) (hn:Aes.B8 nonce) (hu:u<256) (hv:Rs w v l) (hl:l.length≤1000000):
 Calls Tryz.prog 82 #[.agg (aH .u8 16 key),.int .u8 x,.agg (aH .u8 8 nonce),v] w (cG (Sea.sld key u nonce l) w):=by
 subst hx;exact vX key nonce u v l w hk hn hu hv hl
theorem Sea.op_len {key:Nat→Nat} {u:Nat} {s l:List Nat} (h:Sea.op key u s=some l):l.length≤s.length:=by
 have:=(Sea.seal_of_op h).2.2;omega
def Tic.opn (key:Nat→Nat) (s:List Nat):Tic.T×Int:=match Sea.op key 2 s with
 |none=>(iR,2)
 |some b=>match Tic.parse b with
  |none=>(iR,1)
  |some t=>(t,0)
def aAB (w:World) (o:Tic.T×Int) (e:Ending) (w':World):Prop:=
 Below w.heap.size w w'∧∃r u ss s x key,e= .returned (.tuple #[.agg (tk r u s x key),.int .i64 o.2])∧OwnS w' w.heap.size u ss∧r.size≤maxLen∧Aes.B8 key∧tic r ss s x key=o.1
theorem kF {w w':World} {e:Ending} {c:Int} (h:Below w.heap.size w w') (he:e= .returned (.tuple #[.agg (tk ⟨#[]⟩ (.slice none 0 0) 0 0 (fun _=>0)),.int .i64 c])):aAB w (iR,c) e w':=
 ⟨h,⟨#[]⟩,.slice none 0 0,[],0,0,fun _=>0,he,OwnS.nil _ _,Nat.zero_le _,fun _=>(by decide:0<256),rfl⟩
theorem zL (key:Nat→Nat) (v:Value) (l:List Nat) (w:World) (hk:Aes.B8 key) (hv:Rs w v l) (hl:l.length≤1000000) (hK:Consts w Sha.tab):
 Calls Tryz.prog 113 #[.agg (aH .u8 16 key),v] w (aAB w (Tic.opn key l)):=by
 have HK:=aD hK;clear hK;obtain⟨a,cap,rfl⟩:=hv.form;have HV:=aD hv;clear hv;have s1:=aA .u8 16 key;have a0:=(aN w 22 .u8 16 key).alloc (.cells (tk ⟨#[]⟩ (.slice none 0 0) 0 0 (fun _=>0)) 65);have z0:=Hb.new (w.alloc (.cells (aH .u8 16 key) 22)) (tk ⟨#[]⟩ (.slice none 0 0) 0 0 (fun _=>0)) 65;simp only[World.size_alloc] at z0;have G0:=aG (aG (aE w none) (.cells (aH .u8 16 key) 22)) (.cells (tk ⟨#[]⟩ (.slice none 0 0) 0 0 (fun _=>0)) 65);generalize hR:Tic.opn key l=R;have HR:=aD hR;clear hR;go_enter Tryz.func113,Tryz.ntmps113;go_upto_region 1 with fail;rw[tk0];generalize (w.alloc (.cells (aH .u8 16 key) 22)).alloc (.cells (tk ⟨#[]⟩ (.slice none 0 0) 0 0 (fun _=>0)) 65)=V at*;obtain⟨zb,hzb⟩:∃z,z=w.heap.size+1:=⟨_,rfl⟩;rw[←hzb] at z0 ⊢;have hz:=Nat.le_trans (Nat.le_succ w.heap.size) (Nat.le_of_eq hzb.symm);clear hzb;go_wp2_with (refine wpList_load_row rfl _ _ rfl w.heap.size rfl _ _ (0,0) _ a0 rfl rfl (dJ _) ?_);refine(sU key 2 2 rfl _ l V hk (by omega) (HV.out.below (aB G0)) hl (HK.out.below (aB G0))).mono ?_;rintro e w1 ⟨hb1,ht⟩;have z1:=z0.only (aC hb1 none);have G1:=aF G0 (aC hb1 none);clear a0 z0 G0 hb1;unfold Tic.opn at HR
 cases hop:Sea.op key 2 l with
 |none=>
  rw[hop] at ht;have E1:=aD (show R=(iR,2) by rw[←HR.out,hop]);clear HR hop;rcases ht with ⟨_,rfl⟩|⟨_,_,hno,_⟩
  rotate_left
  ·cases hno
  go_wp2_with (first|refine wpList_buildTo rfl _ _ rfl _ rfl (tk ⟨#[]⟩ (.slice none 0 0) 0 0 (fun _=>0)) (by kernel_rfl) ?_|refine wpList_store_rowTo rfl _ _ _ rfl rfl zb _ rfl rfl _ _ z1 (bI _ _ _ _ _) (by simp only[tk_size]) (cR _ _ _ _ _ rfl) ?_)
  try simp only[Exit.inBlock,Exit.then,Exit.noGoto_ret]
  refine bodyPost_ret (aV rfl _ _ zb _ _ (0,0) _ rfl (z1.row _).1 rfl rfl (bI _ _ _ _ _)) rfl ?_;rw[E1.out];exact kF (bR _ z1 G1 hz) rfl
 |some b=>
  rw[hop] at ht;have hbl:=Sea.op_len hop;have HR2:=aD (show(match Tic.parse b with|none=>(iR,(1:Int))|some t=>(t,0))=R by have:=HR.out;rw[hop] at this;exact this);clear HR hop;rcases ht with ⟨hno,_⟩|⟨b',vb,hb',rfl,o1⟩
  ·cases hno
  cases hb'
  obtain⟨ba,bc,rfl⟩:=o1.form;have O1:=aD o1.bs.rs;have hbb:=o1.1;clear o1;go_wp2_with fail;refine(wF _ b w1 O1.out (by omega)).mono ?_;rintro e w2 ⟨hb2,q,u,ss,s,x,kt,rfl,o2,hq,hkt,htt⟩;obtain⟨ua,uc,rfl⟩:=o2.ss.form;have z2:=z1.only (aC hb2 none);have G2:=aF G1 (aC hb2 none);have F:=dL w2 #[.string ⟨#[]⟩,.slice none 0 0,.int .i64 0,.int .i64 0,.int .u8 0,.int .u8 0,.int .u8 0,.int .u8 0,.int .u8 0,.int .u8 0,.int .u8 0,.int .u8 0,.int .u8 0,.int .u8 0,.int .u8 0,.int .u8 0,.int .u8 0,.int .u8 0,.int .u8 0,.int .u8 0] (tk q (.slice ua ss.length uc) s x kt) 65;have z3:=z2.only F.2;have G3:=aF G2 F.2;have o3:=(o2.mono G1.size).below (aB F.2);have hsep:∀g,(Value.slice ua ss.length uc).ownBlock=some g→g≠zb:=fun g e=>by have:=(o2.lt g e).1;have:=z1.lt;omega
  have T3:=F.1;have hgs:(tk q (.slice ua ss.length uc) s x kt).size=20:=tk_size _ _ _ _ _;go_upto_region 5 with (refine wpList_store_rowTo rfl _ _ _ rfl rfl w2.heap.size _ rfl rfl _ _ (heap_alloc_new _ _) (bI _ _ _ _ _) (by rw[tk_size];rfl) (cR _ _ _ _ _ rfl) ?_);generalize World.setRow _ w2.heap.size _=V3 at*;clear F hb2 o2 z1 z2 G1 G2 O1;have HSEP:=aD hsep;clear hsep
  cases hpp:Tic.parse b with
  |none=>
   rw[hpp] at htt;have E1:=aD (show R=(iR,1) by rw[←HR2.out,hpp]);clear HR2 hpp;go_wp2_with (first|refine wpList_buildTo rfl _ _ rfl _ rfl (tk ⟨#[]⟩ (.slice none 0 0) 0 0 (fun _=>0)) (by kernel_rfl) ?_|refine wpList_store_rowTo rfl _ _ _ rfl rfl zb _ rfl rfl _ _ z3 (bI _ _ _ _ _) (by simp only[tk_size]) (cR _ _ _ _ _ rfl) ?_)
   try simp only[Exit.inBlock,Exit.then,Exit.noGoto_ret]
   refine bodyPost_ret (aV rfl _ _ zb _ _ (0,0) _ rfl (z3.row _).1 rfl rfl (bI _ _ _ _ _)) rfl ?_;rw[E1.out];exact kF (bR _ z3 G3 hz) rfl
  |some t=>
   rw[hpp] at htt;have htt:tic q ss s x kt=t:=htt;have E1:=aD (show R=(t,0) by rw[←HR2.out,hpp]);clear HR2 hpp;go_wp2_with (first|refine wpList_load_row rfl _ _ rfl w2.heap.size rfl _ _ (0,0) _ T3 rfl rfl (bI _ _ _ _ _) ?_|refine wpList_store_rowTo rfl _ _ _ rfl rfl zb _ rfl rfl _ _ z3 (bI _ _ _ _ _) (by simp only[tk_size]) (cR _ _ _ _ _ rfl) ?_)
   try simp only[Exit.inBlock,Exit.then,Exit.noGoto_ret]
   refine bodyPost_ret (aV rfl _ _ zb _ _ (0,0) _ rfl (z3.row _).1 rfl rfl (bI _ _ _ _ _)) rfl ?_;rw[E1.out];refine⟨bR _ z3 G3 hz,q,_,ss,s,x,kt,rfl,?_,hq,hkt,htt⟩
   exact o3.only (z3.row _).2 (by
    cases he:(Value.slice ua ss.length uc).ownBlock with
    |none=>exact .inl rfl
    |some g=>exact .inr (fun e=>HSEP.out g he (by cases e;rfl)))
set_option linter.all false
structure bC where
 dig:List Nat
 exp:Int
deriving DecidableEq
namespace Frm
theorem enc_all (k x:Nat):∀y,y∈Wir.enc k x→y<256:=by
 induction k generalizing x with
 |zero=>intro y hy;simp[Wir.enc] at hy
 |succ k ih=>
  intro y hy;unfold Wir.enc at hy;rcases List.mem_append.1 hy with h|h
  ·exact ih _ y h
  ·rw[List.mem_singleton] at h;omega
def okS (s:List Nat):Prop:=s.length=64∧AllB s
def body (p:List Nat):List Nat:=Wir.enc 2 p.length++(p++List.replicate (54 - p.length) 0)
def mk (g:Nat) (p:List Nat):List Nat:=body p++(Wir.enc 4 (Crc.sum [body p,Wir.enc 4 g])++Wir.enc 4 g)
def parse (s:List Nat):Option (Nat×List Nat):=
 if 54<Wir.be (s.take 2) then none else
 if ((s.drop (2+Wir.be (s.take 2))).take (54 - Wir.be (s.take 2))).any (fun c=>c !=0)=true then none else
 if Wir.be ((s.drop 56).take 4)≠Crc.sum [s.take 56,s.drop 60] then none else
 some (Wir.be (s.drop 60),(s.drop 2).take (Wir.be (s.take 2)))
def tag (s:List Nat):Nat:=Wir.be (s.drop 60)
def okE (e:bC):Prop:=e.dig.length=32∧AllB e.dig
def right (e:bC):Bool:=decide (0≤e.exp∧e.exp≤4611686018427387904)
def pay (e:bC):List Nat:=e.dig++Wir.enc 8 e.exp.toNat
def entry (g:Nat) (e:bC):List Nat:=mk g (pay e)
def parseE (s:List Nat):Option (Nat×bC):=match parse s with
 |none=>none
 |some (g,p)=>if p.length≠40∨4611686018427387904<Wir.be (p.drop 32) then none else some (g,⟨p.take 32,Wir.be (p.drop 32)⟩)
def title:List Nat:=[84,79,76,76]
def header (g:Nat):List Nat:=mk g title
def parseH (s:List Nat):Option Nat:=match parse s with
 |none=>none
 |some (g,p)=>if p=title then some g else none
theorem body_len {p:List Nat} (h:p.length≤54):(body p).length=56:=by unfold body;simp[Wir.enc_length];omega
theorem body_all {p:List Nat} (hb:AllB p):AllB (body p):=by
 unfold body;refine AllB.append (enc_all _ _) (AllB.append hb fun x hx=>?_);rw[List.mem_replicate] at hx;omega
theorem mk_len {g:Nat} {p:List Nat} (h:p.length≤54):(mk g p).length=64:=by unfold mk;simp[body_len h,Wir.enc_length]
theorem mk_ok {g:Nat} {p:List Nat} (h:p.length≤54) (hb:AllB p):okS (mk g p):=⟨mk_len h,AllB.append (body_all hb) (AllB.append (enc_all _ _) (enc_all _ _))⟩
theorem pay_len {e:bC} (h:okE e):(pay e).length=40:=by unfold pay;rw[List.length_append,h.1,Wir.enc_length]
theorem pay_all {e:bC} (h:okE e):AllB (pay e):=AllB.append h.2 (enc_all _ _)
theorem right_iff {e:bC}:right e=true↔0≤e.exp∧e.exp≤4611686018427387904:=by unfold right;simp
theorem parse_tag {s:List Nat} {g:Nat} {p:List Nat} (h:parse s=some (g,p)):g=tag s:=by
 unfold parse at h;split at h;·cases h
 split at h;·cases h
 split at h;·cases h
 simp only[Option.some.injEq,Prod.mk.injEq] at h;exact h.1.symm
theorem parse_all {s:List Nat} {g:Nat} {p:List Nat} (hs:AllB s) (h:parse s=some (g,p)):AllB p:=by
 unfold parse at h;split at h;·cases h
 split at h;·cases h
 split at h;·cases h
 simp only[Option.some.injEq,Prod.mk.injEq] at h;rw[←h.2];exact fun x hx=>hs x (List.mem_of_mem_drop (List.mem_of_mem_take hx))
theorem parseE_ok {s:List Nat} {g:Nat} {e:bC} (hs:AllB s) (h:parseE s=some (g,e)):okE e∧right e=true:=by
 unfold parseE at h
 cases hp:parse s with
 |none=>rw[hp] at h;cases h
 |some x=>
  rw[hp] at h;obtain⟨g',p⟩:=x;dsimp only at h;split at h;·cases h
  rename_i hc;obtain⟨c1,c2⟩:=not_or.1 hc;simp only[Option.some.injEq,Prod.mk.injEq] at h;rw[←h.2];exact⟨⟨by rw[List.length_take];omega,fun x hx=>parse_all hs hp x (List.mem_of_mem_take hx)⟩,right_iff.2 ⟨by simp,by simp;omega⟩⟩
theorem parseH_tag {s:List Nat} {g:Nat} (h:parseH s=some g):g=tag s:=by
 unfold parseH at h
 cases hp:parse s with
 |none=>rw[hp] at h;cases h
 |some x=>
  rw[hp] at h;dsimp only at h;split at h
  ·rw[←Option.some.inj h];exact parse_tag (p:=x.2) (by rw[hp])
  ·cases h
end Frm
set_option linter.all false
theorem Tic.opn_yes {key:Nat→Nat} {s b:List Nat} {t:Tic.T} (h:Sea.op key 2 s=some b) (h2:Tic.parse b=some t):Tic.opn key s=(t,0):=by unfold Tic.opn;rw[h];dsimp only;rw[h2]
end Go.Proofs.YtcoolgnlhheaiaaGreatDoor
namespace Go.Proofs.YtcoolgnlhheaiaaGreatDoor
open Go.RowKit Go.Deep Go.Maps Go.ChangeMaps Go.MapKept Go.WideShapes
open Go.WideElems (Fit rd rg pl rd_val elemAt)
set_option linter.all false
def pU (v:Value):Option (DataW Value×List MemPlace):=some (.held v,[])
def MapIs (w:World) (k:TypeId) (b n:Nat) (m:Lit→Option Value):Prop:=
 ∃D:DataW Value,w.ownsMap Tryz.prog k pU b n D∧(∀kl,Maps.has D kl=(m kl).isSome)∧∀kl v,m kl=some v→∀z,D.atKey kl z= .held v
section
attribute [local instance] Classical.propDecidable
variable {w:World} {k t e:TypeId} {b n:Nat} {m:Lit→Option Value}
noncomputable def m9 (m:Lit→Option Value) (kl:Lit) (v:Value):Lit→Option Value:=fun x=>if x=kl then some v else m x
noncomputable def xM (m:Lit→Option Value) (kl:Lit):Lit→Option Value:=fun x=>if x=kl then none else m x
theorem qS (m:Lit→Option Value) (kl:Lit) (v:Value):m9 m kl v kl=some v:=if_pos rfl
theorem oU {m:Lit→Option Value} {kl x:Lit} {v:Value} (h:x≠kl):m9 m kl v x=m x:=if_neg h
theorem qQ (m:Lit→Option Value) (kl:Lit):xM m kl kl=none:=if_pos rfl
theorem oW {m:Lit→Option Value} {kl x:Lit} (h:x≠kl):xM m kl x=m x:=if_neg h
theorem MapIs.made (w:World) (k:TypeId):MapIs (w.alloc (.map #[] 0)) k w.heap.size 0 (fun _=>none):=
 ⟨.map [],World.ownsMap_made w Tryz.prog k pU,fun _=>rfl,fun _ _ h=>by cases h⟩
theorem MapIs.lt (h:MapIs w k b n m):b<w.heap.size:=by obtain⟨D,h,_⟩:=h;exact h.lt
theorem MapIs.mono (h:MapIs w k b n m) {n':Nat} (hn:n≤n'):MapIs w k b n' m:=by obtain⟨D,h,r⟩:=h;exact⟨D,h.mono hn,r⟩
theorem MapIs.of_block {w':World} (h:MapIs w k b n m) (e:w'.heap[b]? =w.heap[b]?):MapIs w' k b n m:=by
 obtain⟨D,⟨es,clock,hb,r⟩,s⟩:=h;exact⟨D,⟨es,clock,e.trans hb,r⟩,s⟩
theorem MapIs.block (h:MapIs w k b n m):∃es clock,w.heap[b]? =some (.map es clock):=by
 obtain⟨D,⟨es,clock,hb,_⟩,_⟩:=h;exact⟨es,clock,hb⟩
theorem MapIs.val {D:DataW Value} (hD:(∀kl,Maps.has D kl=(m kl).isSome)∧∀kl v,m kl=some v→∀z,D.atKey kl z= .held v) (kl:Lit) (z v:Value) (ps:List MemPlace) (h:pU v=some (D.atKey kl (.held z),ps)):v=(m kl).getD z:=by
 have e:DataW.held v=D.atKey kl (.held z):=congrArg Prod.fst (Option.some.inj h)
 cases hm:m kl with
 |none=>
  have h0:=hD.1 kl;rw[hm] at h0;rw[atKey_of_not_has h0] at e;exact DataW.held.inj e
 |some x=>
  rw[hD.2 kl x hm] at e;exact DataW.held.inj e
theorem MapIs.look (h:MapIs w k b n m) (K:Keyed Tryz.prog k) (ht:Tryz.prog.underlying t=some (.map k e)) {z:Value} (hz:(zeroValue e).run Tryz.prog w= .ok z w) {key:Value} {kl:Lit} (hkey:keyOf Tryz.prog k key=some kl):
 (Instr.lookup t (.map (some b)) key false).run Tryz.prog w= .ok ((m kl).getD z) w:=by
 obtain⟨D,ho,hD⟩:=h;obtain⟨v,ps,hr,hv⟩:=ho.lookup K ht hz (zd:=.held z) (zp:=[]) rfl hkey;rw[hr,MapIs.val hD kl z v ps hv]
theorem MapIs.look_ok (h:MapIs w k b n m) (K:Keyed Tryz.prog k) (ht:Tryz.prog.underlying t=some (.map k e)) {z:Value} (hz:(zeroValue e).run Tryz.prog w= .ok z w) {key:Value} {kl:Lit} (hkey:keyOf Tryz.prog k key=some kl):
 (Instr.lookup t (.map (some b)) key true).run Tryz.prog w= .ok (.tuple #[(m kl).getD z,.bool (m kl).isSome]) w:=by
 obtain⟨D,ho,hD⟩:=h;obtain⟨v,ps,hr,hv⟩:=ho.look_ok K ht hz (zd:=.held z) (zp:=[]) rfl hkey;rw[hr,MapIs.val hD kl z v ps hv,hD.1]
theorem iT (w:World) (b i:Nat) (o:Obj) (hne:i≠b):(setBlock w b o).heap[i]? =w.heap[i]? :=by
 simp[setBlock,Array.getElem?_modify,Ne.symm hne]
theorem cC {w':World} (h:w.mapTurned w' b) {i:Nat} (hne:i≠b):w'.heap[i]? =w.heap[i]? :=by
 obtain⟨es,c,es',c',_,rfl⟩:=h;exact iT _ _ _ _ hne
theorem iZ {w':World} (h:w.mapTurned w' b):w'.heap.size=w.heap.size:=by
 obtain⟨es,c,es',c',_,rfl⟩:=h;simp[setBlock]
theorem MapIs.store (h:MapIs w k b n m) (K:Keyed Tryz.prog k) (ht:Tryz.prog.underlying t=some (.map k e)) (hn:n<maxLen) {key val:Value} {kl:Lit} (hkl:WideAt.IsKeyLit kl) (hkey:keyOf Tryz.prog k key=some kl):
 ∃w',(Instr.mapUpdate t (.map (some b)) key val).run Tryz.prog w= .ok () w'∧MapIs w' k b (n+1) (m9 m kl val)∧w.mapTurned w' b:=by
 obtain⟨D,ho,hD⟩:=h;have hM:=ho.isMap;obtain⟨w',hr,ho',ht'⟩:=ho.store K ht hn (d:=.held val) (ps:=[]) hkey rfl;refine⟨w',hr,⟨_,ho',fun x=>?_,fun x v hx z=>?_⟩,ht'⟩
 ·by_cases hx:x=kl
  ·subst hx;rw[qS,has_put_same hM hkl];rfl
  ·rw[oU hx,has_put_other hx];exact hD.1 x
 ·by_cases hx':x=kl
  ·subst hx';rw[qS] at hx;rw[atKey_put_same hM hkl];cases hx;rfl
  ·rw[oU hx'] at hx;rw[atKey_put_other hx'];exact hD.2 x v hx z
theorem MapIs.drop (h:MapIs w k b n m) (K:Keyed Tryz.prog k) (ht:Tryz.prog.underlying t=some (.map k e)) {key:Value} {kl:Lit} (hkey:keyOf Tryz.prog k key=some kl) (ty:TypeId):
 ∃w',(Builtin.delete_ #[t,k] ty #[.map (some b),key]).run Tryz.prog w= .ok (.tuple #[]) w'∧MapIs w' k b n (xM m kl)∧w.mapTurned w' b:=by
 obtain⟨D,ho,hD⟩:=h;obtain⟨w',hr,ho',ht'⟩:=ho.drop K ht hkey ty;refine⟨w',hr,⟨_,ho',fun x=>?_,fun x v hx z=>?_⟩,ht'⟩
 ·by_cases hx:x=kl
  ·subst hx;rw[qQ,has_del_same];rfl
  ·rw[oW hx,has_del_other hx];exact hD.1 x
 ·by_cases hx':x=kl
  ·subst hx';rw[qQ] at hx;cases hx
  ·rw[oW hx'] at hx;rw[atKey_del_other hx'];exact hD.2 x v hx z
theorem MapIs.cleared (h:MapIs w k b n m) (ht:Tryz.prog.underlying t=some (.map k e)) (ty:TypeId):
 ∃w',(Builtin.clear_ #[t] ty #[.map (some b)]).run Tryz.prog w= .ok (.tuple #[]) w'∧MapIs w' k b 0 (fun _=>none)∧w.mapTurned w' b:=by
 obtain⟨D,⟨es,clock,hb,F,_⟩,_⟩:=h;have hr:(Builtin.clear_ #[t] ty #[.map (some b)]).run Tryz.prog w= .ok (.tuple #[]) (setBlock w b (.map #[] clock)):=by
  simp[Builtin.clear_,run_underlying ht,Go.MapKept.run_getObj_map hb,Go.MapKept.run_setObj_map _ hb,setBlock,Result.andThen]
 refine⟨_,hr,⟨.map [],⟨#[],clock,heap_setBlock_same hb _,?_,Nat.le_refl _,rfl⟩,fun _=>rfl,fun _ _ h=>by cases h⟩,⟨es,clock,#[],clock,hb,rfl⟩⟩;exact⟨Nat.zero_le _,⟨fun x hx=>(by simp at hx),by simp,by simp⟩,fun x hx=>(by simp at hx)⟩
end
end Go.Proofs.YtcoolgnlhheaiaaGreatDoor
namespace Go.Proofs.YtcoolgnlhheaiaaGreatDoor
open Go.RowKit Go.Deep Go.ChangeShapes Go.WideShapes
set_option linter.all false
section
variable {H:Type} {enc:TypeId×Value→H} {w:World}
end
end Go.Proofs.YtcoolgnlhheaiaaGreatDoor
namespace Go.Proofs.YtcoolgnlhheaiaaGreatDoor
open Go.RowKit Go.Deep
set_option linter.all false
set_option maxRecDepth 100000
set_option maxHeartbeats 2000000
def au (r:ByteArray) (u:Value) (t:Int) (m s:Nat):Array Value:=#[.string r,u,.int .i64 t,.int .u32 (m:Int),.int .u32 (s:Int)]
section
variable (r:ByteArray) (u:Value) (t:Int) (m s:Nat)
theorem au_size:(au r u t m s).size=5:=rfl
theorem aKC:(au r u t m s)[0]? =some (.string r):=rfl
theorem aJT:(au r u t m s)[1]? =some u:=rfl
theorem aKF:(au r u t m s)[2]? =some (.int .i64 t):=rfl
theorem aJS:(au r u t m s)[3]? =some (.int .u32 (m:Int)):=rfl
theorem aKP:(au r u t m s)[4]? =some (.int .u32 (s:Int)):=rfl
theorem bJ:(Tryz.prog.info? 67).map (·.size)=some (au r u t m s).size:=by rw[au_size];kernel_rfl
theorem cY (h:u.oneCell'=true):(au r u t m s).all (·.oneCell')=true:=by
 unfold au;simp only[List.all_toArray,List.all_cons,List.all_nil,h];rfl
end
def Ab (W:World) (b:Nat) (r:ByteArray) (u:Value) (ss:List ByteArray) (t:Int) (m s:Nat):Prop:=Hb W b (au r u t m s) 67∧Ss W u ss∧r.size≤maxLen∧m<4294967296∧s<4294967296
section
variable {W:World} {b:Nat} {r:ByteArray} {u:Value} {ss:List ByteArray} {t:Int} {m s:Nat}
theorem Ab.new (h:Ss W u ss) (hr:r.size≤maxLen) (hm:m<4294967296) (hs:s<4294967296):Ab (W.alloc (.cells (au r u t m s) 67)) W.heap.size r u ss t m s:=⟨Hb.new _ _ _,h.only (aG (aE W none) _),hr,hm,hs⟩
theorem Ab.below {W':World} (h:Ab W b r u ss t m s) (k:Below W.heap.size W W'):Ab W' b r u ss t m s:=⟨(k.block b h.1.lt).trans h.1,h.2.1.below k,h.2.2⟩
theorem Ab.only {W':World} (h:Ab W b r u ss t m s) (k:W.grownBy W' none):Ab W' b r u ss t m s:=h.below (aB k)
theorem Ab.alloc (h:Ab W b r u ss t m s) (o:Obj):Ab (W.alloc o) b r u ss t m s:=h.only (aG (aE W none) o)
theorem Ab.c0 (h:Ab W b r u ss t m s):W.cell? ⟨b,0,none⟩=some (.string r):=h.1.cell (aKC _ _ _ _ _)
theorem Ab.c1 (h:Ab W b r u ss t m s):W.cell? ⟨b,1,none⟩=some u:=h.1.cell (aJT _ _ _ _ _)
theorem Ab.c2 (h:Ab W b r u ss t m s):W.cell? ⟨b,2,none⟩=some (.int .i64 t):=h.1.cell (aKF _ _ _ _ _)
theorem Ab.c3 (h:Ab W b r u ss t m s):W.cell? ⟨b,3,none⟩=some (.int .u32 (m:Int)):=h.1.cell (aJS _ _ _ _ _)
theorem Ab.c4 (h:Ab W b r u ss t m s):W.cell? ⟨b,4,none⟩=some (.int .u32 (s:Int)):=h.1.cell (aKP _ _ _ _ _)
end
def aut (r:ByteArray) (ss:List ByteArray) (t:Int) (m s:Nat):Aut.A:=⟨nm r ss,t,m,s⟩
theorem uE (r:ByteArray) (u:Value) (ss:List ByteArray) (t:Int) (m s:Nat) (w:World) (hr:r.size≤maxLen) (h:Ss w u ss):
 Calls Tryz.prog 177 #[.agg (au r u t m s)] w fun x w'=>x= .returned (.bool (Aut.valid (aut r ss t m s)))∧w.grownBy w' none:=by
 have hsz:=au_size r u t m s;have hb:=Hb.new w (au r u t m s) 67;have c0:=hb.cell (aKC r u t m s);have c1:=hb.cell (aJT r u t m s);have G0:=aG (aE w none) (.cells (au r u t m s) 67);obtain⟨ua,uc,rfl⟩:=h.form;have H:=aD h;clear h;generalize hR:Aut.valid (aut r ss t m s)=R;have HR:=aD (show(Nam.valid (nm r ss)&&decide (0≤t)&&decide (t≤1099511627776)&&decide (m≤999999))=R from hR);clear hR;go_enter Tryz.func177,Tryz.ntmps177;go_wp2_with fail;refine(qK r hr _ ss _ (H.out.only G0)).mono ?_;rintro x w1 ⟨rfl,g1⟩;have G1:=aF G0 g1;have h1:=hb.only g1;have c2:=h1.cell (aKF _ _ _ _ _);have c3:=h1.cell (aJS _ _ _ _ _);clear hb c0 c1
 cases hv:Nam.valid (nm r ss)
 all_goals (
  rw[hv] at HR;go_wp2_with fail
  all_goals (
   go_ret;refine⟨?_,G1⟩;rw[←HR.out];refine congrArg (fun b=>Ending.returned (Value.bool b)) (?_:(_:Bool)=_)
   first|rfl|(simp;done)|(simp_all;done)|(simp;omega)|(simp;intros;omega)|(rw[Bool.eq_iff_iff];simp;omega)|(rw[Bool.eq_iff_iff];simp_all;omega)|(rw[Bool.eq_iff_iff];simp;intros;omega)))
end Go.Proofs.YtcoolgnlhheaiaaGreatDoor
