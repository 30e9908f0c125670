import Derived.OwnWalk
import Derived.Test.YtcoolgnlhheaiaaGreatDoorG35
namespace Go.Proofs.YtcoolgnlhheaiaaGreatDoor
open Go.RowKit Go.Deep
set_option linter.all false
set_option maxRecDepth 100000
def lgV (d:Nat) (L:Lg.L):Array Value:=#[.pointer (some ⟨d,0,none⟩),.int .i64 0,.int .i64 (L.half:Int),.int .i64 (L.half:Int),.int .i64 (L.half:Int),.int .i64 (L.side:Int),.int .u32 (L.last:Int),.int .u32 (L.gen:Int),.int .i64 (L.count:Int),.bool L.broken]
def Lk (w:World) (l d:Nat) (L:Lg.L):Prop:=Hb w l (lgV d L) 242
theorem Lk.cells {w:World} {l d:Nat} {L:Lg.L} (h:Lk w l d L):
 (w.cell? ⟨l,0,none⟩=some (.pointer (some ⟨d,0,none⟩))∧w.cell? ⟨l,1,none⟩=some (.int .i64 0)∧w.cell? ⟨l,2,none⟩=some (.int .i64 (L.half:Int))∧w.cell? ⟨l,3,none⟩=some (.int .i64 (L.half:Int))∧w.cell? ⟨l,4,none⟩=some (.int .i64 (L.half:Int))∧
   w.cell? ⟨l,5,none⟩=some (.int .i64 (L.side:Int))∧w.cell? ⟨l,6,none⟩=some (.int .u32 (L.last:Int))∧w.cell? ⟨l,7,none⟩=some (.int .u32 (L.gen:Int))∧w.cell? ⟨l,8,none⟩=some (.int .i64 (L.count:Int))∧w.cell? ⟨l,9,none⟩=some (.bool L.broken))∧∀i,w.frozen? ⟨l,i,none⟩=false:=by
 refine⟨⟨h.cell rfl,h.cell rfl,h.cell rfl,h.cell rfl,h.cell rfl,h.cell rfl,h.cell rfl,h.cell rfl,h.cell rfl,h.cell rfl⟩,fun i=>h.frozen i⟩
theorem uH (l d:Nat) (L:Lg.L) (w:World) (h:Lk w l d L):Calls Tryz.prog 189 #[.pointer (some ⟨l,0,none⟩)] w fun e w'=>e= .returned (.int .i64 (L.count:Int))∧w=w':=by
 obtain⟨⟨_,_,_,_,_,_,_,_,c8,_⟩,_⟩:=h.cells;clear h;generalize L.count=n at*;go_enter Tryz.func189,Tryz.ntmps189;go_wp2
 all_goals
  go_ret;exact⟨rfl,rfl⟩
theorem rD (l d:Nat) (L:Lg.L) (w:World) (h:Lk w l d L):Calls Tryz.prog 188 #[.pointer (some ⟨l,0,none⟩)] w fun e w'=>e= .returned (.bool L.broken)∧w=w':=by
 obtain⟨⟨_,_,_,_,_,_,_,_,_,c9⟩,_⟩:=h.cells;clear h;generalize L.broken=n at*;go_enter Tryz.func188,Tryz.ntmps188;go_wp2
 all_goals
  go_ret;exact⟨rfl,rfl⟩
theorem mW (w:World):(isAgg 239).run Tryz.prog w= .ok true w:=by kernel_rfl
theorem kO (w:World):(Go.sizeOf 239).run Tryz.prog w= .ok 2 w:=by kernel_rfl
theorem Lk.slot {w:World} {l d:Nat} {L:Lg.L} (h:Lk w l d L) (hs:L.side=0∨L.side=1) (s:Nat) (hs':s=0∨s=1):∀j v,(eD (s*L.half) L.half)[j]? =some v→w.cell? ((⟨l,s*2+1,none⟩:Addr).add j)=some v:=fun j v hj=>by
 obtain⟨⟨_,c1,c2,c3,c4,_⟩,_⟩:=h.cells;rw[Addr.add_mid];unfold eD at hj;rcases j with _|_|j
 ·rcases hs' with rfl|rfl
  ·simp at hj;subst hj;simpa using c1
  ·simp at hj;subst hj;simpa using c3
 ·rcases hs' with rfl|rfl
  ·simp at hj;subst hj;simpa using c2
  ·simp at hj;subst hj;simpa using c4
 ·simp at hj
theorem xV (l d:Nat) (L:Lg.L) (w:World) (h:Lk w l d L) (hs:L.side=0∨L.side=1) (hh:L.half<1000000):Calls Tryz.prog 190 #[.pointer (some ⟨l,0,none⟩)] w fun e w'=>e= .returned (.int .i64 ((Lg.room L:Nat):Int))∧w.grownBy w' none:=by
 obtain⟨⟨_,c1,c2,c3,c4,c5,_⟩,_⟩:=h.cells;have hrm:=fun s W=>uK s L.half W hh
 clear h;unfold Lg.room;generalize L.half=n at*;generalize L.side=s at*;have hag:=mW;have hsz:=kO;go_enter Tryz.func190,Tryz.ntmps190;go_upto_region 3 with fail;rcases hs with rfl|rfl
 ·simp only[Int.natCast_zero] at c5
  go_region_held3 (fun w'=>w'.cell? ⟨l,5,none⟩=some (.int .i64 0)∧w'.cell? ⟨l,1,none⟩=some (.int .i64 0)∧w'.cell? ⟨l,2,none⟩=some (.int .i64 (n:Int))) (first|go_keep|exact⟨g1.cell c5 (by simp),g1.cell c1 (by simp),g1.cell c2 (by simp)⟩)
   ((go_at_call 208;refine(hrm 0 _).mono ?_;rintro e w1 ⟨rfl,g1⟩))
  go_wp2;go_ret;exact⟨rfl,aF (aM (aE w none) 1) g1⟩
 ·simp only[Int.natCast_one] at c5
  go_region_held3 (fun w'=>w'.cell? ⟨l,5,none⟩=some (.int .i64 1)∧w'.cell? ⟨l,3,none⟩=some (.int .i64 (n:Int))∧w'.cell? ⟨l,4,none⟩=some (.int .i64 (n:Int))) (first|go_keep|exact⟨g1.cell c5 (by simp),g1.cell c3 (by simp),g1.cell c4 (by simp)⟩)
   ((go_at_call 208;refine(hrm n _).mono ?_;rintro e w1 ⟨rfl,g1⟩))
  go_wp2;go_ret;exact⟨rfl,aF (aM (aE w none) 1) g1⟩
theorem Lg.note_yes {L:Lg.L} {c:Nat} (h:c=11∨c=12):Lg.note L c={ L with broken:=true}:=by
 unfold Lg.note;rcases h with rfl|rfl<;>simp
theorem Lg.note_no {L:Lg.L} {c:Nat} (h1:c≠11) (h2:c≠12):Lg.note L c=L:=by
 unfold Lg.note;rw[beq_false_of_ne h1,beq_false_of_ne h2];simp
theorem aFC (l d:Nat) (L:Lg.L) (c:Nat) (w:World) (h:Lk w l d L) (hc:c≠0) (hc2:c<100):Calls Tryz.prog 155 #[.pointer (some ⟨l,0,none⟩),iF c] w fun e w'=>e= .returned (iF c)∧Lk w' l d (Lg.note L c)∧w.grownBy w' (some l):=by
 obtain⟨⟨_,_,_,_,_,_,_,_,_,c9⟩,hf⟩:=h.cells;have f9:=hf 9;have H:=aD h;have hcd:=fun W=>nW c W
 rw[eV c hc] at hcd ⊢;clear h hf;go_enter Tryz.func155,Tryz.ntmps155;go_upto_region 2 with (go_at_call 102;refine(hcd _).mono ?_;rintro e w1 ⟨rfl,g1⟩);have hk:=H.out.only g1;have c9:=hk.cell (i:=9) (v:=.bool L.broken) rfl;have f9:=hk.frozen 9;have HK:=aD (aQ hk g1);clear hk hcd;clear c9 f9 g1
 by_cases hy:c=11∨c=12
 ·have hn:=aD (Lg.note_yes (L:=L) hy)
  have c9:=HK.out.1.cell (i:=9) (v:=.bool L.broken) rfl;have f9:=HK.out.1.frozen 9;rcases hy with rfl|rfl
  all_goals
   clear hc hc2;go_wp2;go_ret;rw[hn.out];exact⟨rfl,HK.out.1.set 9 (.bool true),bA (iB HK.out.2 (aE w1 _)) 9 _⟩
 ·have h1:((c:Int)==11)=false:=by simp;omega
  have h2:((c:Int)==12)=false:=by simp;omega
  have hn:=aD (Lg.note_no (L:=L) (c:=c) (by omega) (by omega));clear hy hc hc2;go_wp2;go_ret;rw[hn.out];exact⟨rfl,HK.out.1,iB HK.out.2 (aE w1 _)⟩
set_option linter.all false
set_option maxHeartbeats 4000000
namespace Lg
def findN (D:Dsk.D):Nat→Option (Nat×Nat×List bC)
 |0=>none
 |k+1=>match scanS D k,findN D k with
  |none,o=>o
  |some x,none=>some (k,x.1,x.2)
  |some x,some y=>if x.1≤y.2.1 then some y else some (k,x.1,x.2)
theorem find_eq (D:Dsk.D):findN D 2=find D:=by
 unfold find findN findN findN
 cases scanS D 0<;>cases scanS D 1<;>rfl
def at' (L:Lg.L):Option (Nat×Nat×List bC)→Lg.L
 |none=>L
 |some x=>{ L with side:=x.1,gen:=x.2.1,count:=x.2.2.length}
def esO (o:Option (Nat×Nat×List bC)):List bC:=(o.map (·.2.2)).getD []
end Lg
theorem aD3 (w:World):(isAgg 240).run Tryz.prog w= .ok true w:=by kernel_rfl
theorem aCC (w:World):(Go.sizeOf 240).run Tryz.prog w= .ok 4 w:=by kernel_rfl
def aAE (l d:Nat) (L:Lg.L) (o:Option (Nat×Nat×List bC)) (w:World) (e:Ending) (w':World):Prop:=
 ∃v,e= .returned (.tuple #[v,.bool o.isSome,.nilIface])∧Lk w' l d (Lg.at' L o)∧RowOf w' w.heap.size 73 33 v ((Lg.esO o).map fJ)∧w.grownBy w' (some l)
theorem eF {ops:Array Oper} {K:Act→World→Prop} {S:World→Prop} {n:Nat} {listed:Array Bool} {a:Act} {w:World} {i:Nat} (d:Tmp) (f:FuncId) (args:Array Value) (hst:nV ops a i d=true) (hrun:(execOp a.eval (opn ops i)).run Tryz.prog w= .ok (.enter f args) w) (R:Ending→World→Prop) (hc:Calls Tryz.prog f args w R)
 (h:∀e w',R e w'→∃v,e= .returned v∧S w'∧wpAnyH Tryz.prog .any ops (nq K) S n (listed.setIfInBounds i true) (a.put (some d) v) w'):HStep Tryz.prog .any ops (nq K) S n listed a w i (opn ops i):=by
 unfold nV at hst;simp only[Bool.and_eq_true] at hst;exact HStep.call (some d) (lE hst.1) hst.2 f args hrun (hc.mono h)
theorem pV {V w':World} {g:Nat} {cs:Array Value} {t:TypeId} (h:Below V.heap.size V w') (hb:Hb V g cs t):∀j v,cs[j]? =some v→w'.cell? ((⟨g,0,none⟩:Addr).add j)=some v:=fun j v hj=>by
 rw[Addr.add_mid,Nat.zero_add];exact(hb.only (aC h none)).cell hj
theorem aHX {w:World} {base k:Nat} {e:TypeId} {v:Value} {es:List (List Value)} {st:Option (Nat×List bC)} (h:RowOf w base e k v es):(kG st v).all (·.oneCell')=true:=by
 have hv1:v.oneCell'=true:=by obtain⟨p2,c2,rfl⟩:=h.form;rfl
 exact Array.all_eq_true_iff_forall_mem.2 fun u hu=>by simp[kG] at hu;rcases hu with rfl|rfl|rfl<;>first|rfl|exact hv1
theorem RowOf.form3 {w:World} {base k:Nat} {e:TypeId} {v:Value} {es:List bC} (h:RowOf w base e k v (es.map fJ)):∃p n c,n=es.length∧v= .slice p n c:=by
 obtain⟨p,c,h⟩:=h.form;exact⟨p,_,c,by rw[List.length_map],h⟩
theorem aAD {w W:World} {l d k g nv:Nat} {L:Lg.L} {F:Option (Nat×Nat×List bC)} {v:Value} {es:List bC} (hk:Lk W l d (Lg.at' L F)) (hrow:RowOf W w.heap.size 73 33 v (es.map fJ)) (hg:w.grownBy W (some l)) (hn:nv=es.length) (nq:Nat):
 RowOf ((((W.drewN nq).setCell ⟨l,5,none⟩ (.int .i64 (k:Int))).setCell ⟨l,7,none⟩ (.int .u32 (g:Int))).setCell ⟨l,8,none⟩ (.int .i64 (nv:Int))) w.heap.size 73 33 v (es.map fJ)∧
  Lk ((((W.drewN nq).setCell ⟨l,5,none⟩ (.int .i64 (k:Int))).setCell ⟨l,7,none⟩ (.int .u32 (g:Int))).setCell ⟨l,8,none⟩ (.int .i64 (nv:Int))) l d (Lg.at' L (some (k,g,es)))∧
  w.grownBy ((((W.drewN nq).setCell ⟨l,5,none⟩ (.int .i64 (k:Int))).setCell ⟨l,7,none⟩ (.int .u32 (g:Int))).setCell ⟨l,8,none⟩ (.int .i64 (nv:Int))) (some l):=by
 have h0:Hb (W.drewN nq) l (lgV d (Lg.at' L F)) 242:=hk;have r0:RowOf (W.drewN nq) w.heap.size 73 33 v (es.map fJ):=hrow.of_block fun _ _=>rfl
 have g3:=bA (bA (bA (aE (W.drewN nq) (some l)) 5 (.int .i64 (k:Int))) 7 (.int .u32 (g:Int))) 8 (.int .i64 (nv:Int));refine⟨r0.keep g3 (r0.ne h0 (by decide)),?_,aF (aM hg nq) g3⟩;have h3:=((h0.set 5 (.int .i64 (k:Int))).set 7 (.int .u32 (g:Int))).set 8 (.int .i64 (nv:Int));subst hn
 cases F<;>exact h3
theorem Dk.alien {w:World} {d i:Nat} {b:Dsk.B} {D:Dsk.D} {cs:Array Value} {t:TypeId} (h:Dk w d b D) (hb:Hb w i cs t) (h1:t≠120) (h2:t≠191) (h3:t≠275) (h4:t≠3):¬b.F d i∧¬IntB w i:=by
 have hi:w.heap[i]? =some (.cells cs t (0,0)):=hb;refine⟨?_,?_⟩
 ·rintro(rfl|h|h|rfl|rfl|rfl)
  ·have:=h.blk;rw[hi] at this;cases this;exact h1 rfl
  ·obtain⟨c,hc⟩:=Dk.sec ‹_› |>.type h
   rw[hi] at hc;cases hc;exact h2 rfl
  ·obtain⟨c,hc⟩:=Dk.opn ‹_› |>.type h
   rw[hi] at hc;cases hc;exact h3 rfl
  ·obtain⟨_,_,m⟩:=h.last.block;rw[hi] at m;cases m
  ·obtain⟨_,_,m⟩:=h.fails.block;rw[hi] at m;cases m
  ·obtain⟨_,_,m⟩:=h.crashes.block;rw[hi] at m;cases m
 ·rintro⟨c,fr,hc⟩
  rw[hi] at hc;cases hc;exact h4 rfl
theorem Dk.grown {w w':World} {d i:Nat} {b:Dsk.B} {D:Dsk.D} {cs:Array Value} {t:TypeId} (h:Dk w d b D) (hb:Hb w i cs t) (h1:t≠120) (h2:t≠191) (h3:t≠275) (h4:t≠3) (g:w.grownBy w' (some i)):Dk w' d b D:=
 h.stp (F:=fun k=>k=i) (F':=fun k=>k=i) (Stp.of_grown g fun k e=>by cases e;exact .inl rfl) fun k e=>by cases e;exact h.alien hb h1 h2 h3 h4
theorem aE1 (l d:Nat) (b:Dsk.B) (D:Dsk.D) (L:Lg.L) (w:World) (h:Dk w d b D) (hL:Lk w l d L) (hh:L.half=D.sec.length / 2) (hdn:D.down=false) (h2:2≤D.sec.length) (hN:D.n<1000000):
 Calls Tryz.prog 134 #[.pointer (some ⟨l,0,none⟩)] w (aAE l d L (Lg.find D) w):=by
 obtain⟨⟨c0,c1,c2,c3,c4,_⟩,_⟩:=hL.cells;have hag:=aD3;have hsz:=aCC;have HD:=aD h;have HL:=aD hL;have HH:=aD hh;have hroom:=h.ok.room;clear h hL hh;obtain⟨n,hn⟩:∃n,n=L.half:=⟨_,rfl⟩;rw[←hn] at c2 c3 c4;have HN:=aD hn;clear hn;go_enter Tryz.func134,Tryz.ntmps134;go_wp2_with fail;clear hag hsz c0 c1 c2 c3 c4;have hag:=mW;have hsz:=kO
 go_loopw [5,6,15] (fun f v i wr=>∃k:Nat,k≤2∧i= .int .i64 k∧f= .bool (Lg.findN D k).isSome∧RowOf wr w.heap.size 73 33 v ((Lg.esO (Lg.findN D k)).map fJ)∧Lk wr l d (Lg.at' L (Lg.findN D k))∧w.grownBy wr (some l)) (fun _ _ i _=>2 - (intOf i).toNat)
 case atStart=>exact⟨0,by omega,rfl,rfl,RowOf.nil _ _ _ _,HL.out,aE _ _⟩
 case round=>
  obtain⟨k,hk,rfl,rfl,hrow,hlk,hgr⟩:=hrel
  by_cases hlt:k<2
  ·obtain⟨f,hf,hix⟩:∃f:Nat,f=k*n∧∀W,(Instr.index 240 (.agg #[.int .i64 0,.int .i64 (n:Int),.int .i64 (n:Int),.int .i64 (n:Int)]) (.int .i64 (k:Int))).run Tryz.prog W= .ok (.agg #[.int .i64 (f:Int),.int .i64 (n:Int)]) W:=by
    rcases(show k=0∨k=1 by omega) with rfl|rfl
    ·exact⟨0,by omega,fun _=>by kernel_rfl⟩
    ·exact⟨n,by omega,fun _=>by kernel_rfl⟩
   have HF:=aD hf;have HR:=aD (aQ hrow (aQ hlk hgr));have c0:=hlk.cells.1.1;clear hf hrow hlk hgr;go_upto_region 6 with fail;have hV:wr.grownBy (wr.alloc (.cells #[.int .i64 (f:Int),.int .i64 (n:Int)] 239)) none:=aG (aE wr none) _;have hB:Hb _ wr.heap.size #[.int .i64 (f:Int),.int .i64 (n:Int)] 239:=Hb.new wr _ _;obtain⟨bs,hbs⟩:∃bs,bs=wr.heap.size:=⟨_,rfl⟩;rw[←hbs] at hB ⊢;generalize wr.alloc (.cells #[.int .i64 (f:Int),.int .i64 (n:Int)] 239)=V at*;have c0:=hV.cell c0 (by simp);have hDV:=(HD.out.grown HL.out (by decide) (by decide) (by decide) (by decide) HR.out.2.2).below (aB hV);have hfl:f+n≤D.sec.length:=by have:=HF.out;have:=HN.out;have:=HH.out;rcases(show k=0∨k=1 by omega) with rfl|rfl<;>omega
   have hsc:=fun(W:World) (hW:Below V.heap.size V W)=>aD7 d b D f n W (hDV.below hW) hdn hfl hN
   rw[show Slt.scan (Slt.secs D f n)=Lg.scanS D k by unfold Lg.scanS;rw[←HH.out,←HN.out,←HF.out]] at hsc;obtain⟨R,hR⟩:∃R,R=Lg.scanS D k:=⟨_,rfl⟩;rw[←hR] at hsc;have HRR:=aD hR;have hbl:w.heap.size≤bs:=by have:=HR.out.2.2.size;omega
   clear hR hDV hbs;refine bO Tryz.f134 6 12 (fun w'=>Below V.heap.size V w') (by kernel_rfl) (by kernel_rfl) (by kernel_rfl) (aU (Below.refl _ _) 1) (fun K hK h0=>?_);refine aW (listed':=#[false,false,false,false,false,false,false,false,false,false,false,false]) (by kernel_rfl) rfl ?_;have HF:=aD hK;clear hK;refine aX 0 20 (Value.pointer (some ⟨l,0,none⟩)) (fun _ _=>by kernel_rfl) h0 ?_;simp only[Act.put,aJ,aK,aI];refine aX 1 21 (Value.pointer (some ⟨l,0,none⟩)) (fun _ _=>by kernel_rfl) h0 ?_;simp only[Act.put,aJ,aK,aI];refine aX 2 22 (Value.pointer (some ⟨l,0,none⟩)) (fun _ _=>by kernel_rfl) h0 ?_;simp only[Act.put,aJ,aK,aI];refine bD 3 23 (by kernel_rfl) 50 (.tmp 22) (by kernel_rfl) ⟨l,0,none⟩ (by kernel_rfl) (Value.pointer (some ⟨d,0,none⟩)) _ (fun w' hw'=>(aC hw' none).cell c0 (by simp)) Tryz.underlying50 rfl h0 ?_;simp only[Act.put,aJ,aK,aI];refine bG 4 24 (by kernel_rfl) 239 (.tmp 8) (by kernel_rfl) ⟨bs,0,none⟩ (by kernel_rfl) (eD f n) _ (fun w' hw'=>pV hw' hB) Tryz.underlying239 rfl (by kernel_rfl) h0 ?_;simp only[Act.put,aJ,aK,aI];refine fA (α:=Value×Nat) 2 #[true,true,true,true,true,true,true,true,true,true,false,false] (fun a x=>(Act.put (Act.put (Act.put (Act.put (Act.put a (some 25) (Value.tuple #[Value.agg (kG R x.1),Value.nilIface])) (some 19) (Value.tuple #[Value.agg (kG R x.1),Value.nilIface])) (some 26) (Value.agg (kG R x.1))) (some 27) (Value.nilIface)) (some 9) (Value.pointer (some ⟨x.2,0,none⟩)))) (fun x w'=>Below V.heap.size V w'∧RowOf w' V.heap.size 73 33 x.1 ((stE R).map fJ)∧V.heap.size≤x.2∧Hb w' x.2 #[.bool false,.int .u32 0,.slice none 0 0] 308) (fun x w2 hc=>?_) (fun CUT=>?_);rotate_left
   ·simp only[Act.put,aJ,aK,aI] at CUT
    refine cU 5 9 (by kernel_rfl) (by kernel_rfl) (eF 25 196 #[Value.pointer (some ⟨d,0,none⟩),Value.agg (eD f n)] (by kernel_rfl) (by kernel_rfl) _ (hsc _ h0) (fun e wk hr=>?_)) (dP 9 (fun g=>.pointer (some ⟨g,0,none⟩)) (#[.bool false,.int .u32 0,.slice none 0 0]) 308 (by kernel_rfl) h0 (Nat.le_refl _) (by kernel_rfl) ?_)
    ·obtain⟨hbk,v,hv,rfl⟩:=hr
     have gk:=aC hbk none;have hv:=hv.mono h0.size;have h0:=h0.trans (hbk.mono h0.size);refine⟨_,rfl,h0,?_⟩;simp only[Act.put,aJ,aK,aI];refine aX 6 19 (Value.tuple #[Value.agg (kG R v),Value.nilIface]) (fun _ _=>by kernel_rfl) h0 ?_;simp only[Act.put,aJ,aK,aI];refine aX 7 26 (Value.agg (kG R v)) (fun _ _=>by kernel_rfl) h0 ?_;simp only[Act.put,aJ,aK,aI];refine aX 8 27 (Value.nilIface) (fun _ _=>by kernel_rfl) h0 ?_;simp only[Act.put,aJ,aK,aI];refine aR 9 (by kernel_rfl) (by kernel_rfl) (dP 9 (fun g=>.pointer (some ⟨g,0,none⟩)) (#[.bool false,.int .u32 0,.slice none 0 0]) 308 (by kernel_rfl) h0 (Nat.le_refl _) (by kernel_rfl) ?_);intro wk g9 hBg9 _ _ _ gk h0 qg9;have hv:=hv.keep gk (fun _ _=>by simp);simp only[Act.put,aJ,aK,aI];exact aW (by kernel_rfl) rfl (CUT (v,g9) _ ⟨h0,hv,hBg9,qg9⟩)
    ·intro wk g9 hBg9 _ _ _ gk h0 qg9
     simp only[Act.put,aJ,aK,aI];refine aR 5 (by kernel_rfl) (by kernel_rfl) (eF 25 196 #[Value.pointer (some ⟨d,0,none⟩),Value.agg (eD f n)] (by kernel_rfl) (by kernel_rfl) _ (hsc _ h0) (fun e wk hr=>?_));obtain⟨hbk,v,hv,rfl⟩:=hr;have gk:=aC hbk none;have hv:=hv.mono h0.size;have h0:=h0.trans (hbk.mono h0.size);have hBg9:=hBg9;have qg9:=Hb.only qg9 gk;refine⟨_,rfl,h0,?_⟩;simp only[Act.put,aJ,aK,aI];refine aX 6 19 (Value.tuple #[Value.agg (kG R v),Value.nilIface]) (fun _ _=>by kernel_rfl) h0 ?_;simp only[Act.put,aJ,aK,aI];refine aX 7 26 (Value.agg (kG R v)) (fun _ _=>by kernel_rfl) h0 ?_;simp only[Act.put,aJ,aK,aI];refine aX 8 27 (Value.nilIface) (fun _ _=>by kernel_rfl) h0 ?_;simp only[Act.put,aJ,aK,aI];exact aW (by kernel_rfl) rfl (CUT (v,g9) _ ⟨h0,hv,hBg9,qg9⟩)
   obtain⟨v,g9⟩:=x;obtain⟨h0,hv,hBg9,qg9⟩:=hc;dsimp only at h0 hv hBg9 qg9 ⊢;simp only[Act.put,aJ,aK,aI];have pg9:=qg9;refine aR 10 (by kernel_rfl) (by kernel_rfl) (pZ 308 (.tmp 9) (.tmp 26) g9 (kG R v) _ _ (by kernel_rfl) (by kernel_rfl) (by kernel_rfl) (by kernel_rfl) qg9 (by kernel_rfl) (rfl) (aHX hv) hBg9 h0 (fun h0 qg9=>?_));simp only[aJ,aK,aI];refine aX 11 10 (Value.nilIface) (fun _ _=>by kernel_rfl) h0 ?_;simp only[Act.put,aJ,aK,aI];refine aZ (by kernel_rfl) (HF.out _ _ ?_);have qst:=qg9;have hr3:=hv.keep (cO w2 g9 (kG R v)) (hv.ne (b:=g9) pg9 (by decide));generalize w2.setRow g9 (kG R v)=W3 at*;obtain⟨hrow,hlk,hgr⟩:=HR.out;have G3:=aF (aF hgr (aC (aB hV) (some l))) (aC h0 (some l));have hlk3:=hlk.only (aF hV (aC h0 none));have hrow3:=hrow.keep (aF hV (aC h0 none)) (fun _ _=>by simp);have hr3:=hr3.mono (show w.heap.size≤V.heap.size from Nat.le_trans hgr.size hV.size);have HT:=aD (aQ qst (aQ hr3 (aQ G3 (aQ hlk3 hrow3))));have hlt2:=hlt;clear h0 hv hBg9 pg9 qst hrow hlk hgr G3 hlk3 hrow3 hr3 hsc HR c0 hB hV hix hag hsz qg9
   cases R with
   |none=>
    have hst:Hb W3 g9 (kG none v) 308:=HT.out.1;have e0:=hst.cell (i:=0) (v:=.bool false) rfl;have hRR:=aD (show Lg.findN D (k+1)=Lg.findN D k by show(match Lg.scanS D k,Lg.findN D k with|none,o=>o|some x,none=>some (k,x.1,x.2)|some x,some y=>if x.1≤y.2.1 then some y else some (k,x.1,x.2))=_;rw[←HRR.out]);clear hst;go_upto_region 9 with fail;go_quiet (fail);go_wp2;refine⟨⟨k+1,by omega,by go_num,by rw[hRR.out],?_,?_,aM HT.out.2.2.1 _⟩,by simp[intOf];omega⟩
    all_goals rw[hRR.out]
    ·exact HT.out.2.2.2.2.of_block fun _ _=>rfl
    ·exact HT.out.2.2.2.1
   |some x=>
    obtain⟨g,es⟩:=x;have hst:Hb W3 g9 (kG (some (g,es)) v) 308:=HT.out.1;have e0:=hst.cell (i:=0) (v:=.bool true) rfl;have e1:=hst.cell (i:=1) (v:=.int .u32 (g:Int)) rfl;have e2:=hst.cell (i:=2) (v:=v) rfl;have hlk:=HT.out.2.2.2.1;have f5:=hlk.frozen 5;have f7:=hlk.frozen 7;have f8:=hlk.frozen 8;obtain⟨⟨_,_,_,_,_,c5,_,c7,c8,_⟩,_⟩:=Lk.cells hlk;obtain⟨pv,nv,cv,hnv,rfl⟩:=HT.out.2.1.form3;have HNV:=aD hnv;clear hst hlk hnv;have hnx:Lg.findN D (k+1)=match some (g,es),Lg.findN D k with|none,o=>o|some x,none=>some (k,x.1,x.2)|some x,some y=>if x.1≤y.2.1 then some y else some (k,x.1,x.2):=by
     show(match Lg.scanS D k,Lg.findN D k with|none,o=>o|some x,none=>some (k,x.1,x.2)|some x,some y=>if x.1≤y.2.1 then some y else some (k,x.1,x.2))=_;rw[←HRR.out]
    cases hF:Lg.findN D k with
    |none=>
     rw[hF] at hnx c5 c7 c8;have hRR:=aD hnx;have hFF:=aD hF;clear hnx hF;go_upto_region 9 with fail;simp only[Option.isSome_none];go_quiet (fail);go_wp2;refine⟨⟨k+1,by omega,by go_num,by rw[hRR.out];rfl,?_⟩,by simp[intOf];omega⟩;rw[hRR.out];exact aAD HT.out.2.2.2.1 HT.out.2.1 HT.out.2.2.1 HNV.out nq
    |some y=>
     rw[hF] at hnx c5 c7 c8;have hFF:=aD hF;clear hF
     by_cases hgy:g≤y.2.1
     ·have hRR:=aD (hnx.trans (if_pos hgy))
      have c7':W3.cell? ⟨l,7,none⟩=some (.int .u32 (y.2.1:Int)):=c7;have hle:decide ((g:Int)≤(y.2.1:Int))=true:=by simp;omega
      have hle2:decide (g≤y.2.1)=true:=by simp;omega
      clear hnx hgy c7;go_upto_region 9 with fail;simp only[Option.isSome_some];go_quiet (fail);go_wp2;refine⟨⟨k+1,by omega,by go_num,by rw[hRR.out];rfl,?_,?_,aM HT.out.2.2.1 _⟩,by simp[intOf];omega⟩
      all_goals rw[hRR.out]
      ·exact(hFF.out▸HT.out.2.2.2.2:RowOf W3 w.heap.size 73 33 u6 ((Lg.esO (some y)).map fJ)).of_block fun _ _=>rfl
      ·exact(hFF.out▸HT.out.2.2.2.1:Lk W3 l d (Lg.at' L (some y)))
     ·have hRR:=aD (hnx.trans (if_neg hgy))
      have c7':W3.cell? ⟨l,7,none⟩=some (.int .u32 (y.2.1:Int)):=c7;have hle:decide ((g:Int)≤(y.2.1:Int))=false:=by simp;omega
      have hle2:decide (g≤y.2.1)=false:=by simp;omega
      clear hnx hgy c7;go_upto_region 9 with fail;simp only[Option.isSome_some];go_quiet (fail);go_wp2;refine⟨⟨k+1,by omega,by go_num,by rw[hRR.out];rfl,?_⟩,by simp[intOf];omega⟩;rw[hRR.out];exact aAD HT.out.2.2.2.1 HT.out.2.1 HT.out.2.2.1 HNV.out nq
  ·have hk2:k=2:=by omega
   have HR:=aD (aQ hrow (aQ hlk hgr));have HK:=aD (show Lg.findN D k=Lg.find D by rw[hk2];exact Lg.find_eq D);clear hrow hlk hgr hk2;go_wp2_with fail;go_ret3;rw[←HK.out];exact⟨_,rfl,HR.out.2.1,HR.out.1,HR.out.2.2⟩
end Go.Proofs.YtcoolgnlhheaiaaGreatDoor
