import Derived.Carry
import Derived.Test.YtcoolgnlhheaiaaGreatDoorG51
import Derived.Test.YtcoolgnlhheaiaaGreatDoorG45
namespace Go.Proofs.YtcoolgnlhheaiaaGreatDoor
open Go.RowKit Go.Deep
set_option linter.all false
set_option maxRecDepth 100000
set_option maxHeartbeats 4000000
theorem aH3 {w:World} {b:Nat} {cs:Array Value} {t:TypeId} (h:Hb w b cs t):Hb w b cs t:=h
theorem aES {w:World} {base g n c:Nat} {ss:List ByteArray} (h:OwnS w base (.slice (some ⟨g,0,none⟩) n c) ss):∃cs fr,w.heap[g]? =some (.cells cs 9 fr):=by
 rcases h.2.2 with ⟨h1,_⟩|⟨g',cap,cur,h1,_,h2,_⟩
 ·cases h1
 ·cases h1
  exact⟨_,_,h2⟩
theorem oH {P:Program} {fn:Func} {p q:Tmp} {ty tz:TypeId} (h:fn.results=#[.cell p ty,.cell q tz]) (tmps:Array Value) (w:World) (g k:Nat) (t t':TypeId) (cs ds:Array Value) (fr fs:Nat×Nat) (d d':TypeDesc)
 (hp:tmps.getD p undef= .pointer (some ⟨g,0,none⟩)) (hg:w.heap[g]? =some (.cells cs t fr))
 (hu:P.underlying ty=some d) (hd:(match d with| .struct _| .array _ _=>true|_=>false)=true) (hi:(P.info? ty).map (·.size)=some cs.size)
 (hq:tmps.getD q undef= .pointer (some ⟨k,0,none⟩)) (hk:w.heap[k]? =some (.cells ds t' fs))
 (hu':P.underlying tz=some d') (hd':(match d' with| .struct _| .array _ _=>true|_=>false)=true) (hi':(P.info? tz).map (·.size)=some ds.size):
 (results fn tmps).run P w= .ok (.tuple #[.agg cs,.agg ds]) w:=by
 have hp':tmps[p]?.getD undef= .pointer (some ⟨g,0,none⟩):=by simpa using hp
 have hq':tmps[q]?.getD undef= .pointer (some ⟨k,0,none⟩):=by simpa using hq
 simp[results,h,hp',hq',asAddr,run_loadVar_row w g t ty cs fr d hg hu hd hi,run_loadVar_row w k t' tz ds fs d' hk hu' hd' hi']
def tP (J:Kd) (w:World) (e:Ending) (w':World):Prop:=
 ∃g h,e= .returned (.tuple #[.agg (tk fK (.slice (some ⟨g,0,none⟩) 1 1) J.start J.stop (cL J.client)),.agg (au fK (.slice (some ⟨h,0,none⟩) 1 1) J.time 0 J.seq)])∧OwnS w' w.heap.size (.slice (some ⟨g,0,none⟩) 1 1) [nmB J.client]∧OwnS w' w.heap.size (.slice (some ⟨h,0,none⟩) 1 1) [nmB J.other]∧w.grownBy w' none
theorem aCA (J:Kd) (w:World):Calls Tryz.prog 20 #[.agg (iI J)] w (tP J w):=by
 have hb:=((Hb.new w (iI J) 47).alloc (.cells (tk ⟨#[]⟩ (.slice none 0 0) 0 0 (fun _=>0)) 65)).alloc (.cells (au ⟨#[]⟩ (.slice none 0 0) 0 0 0) 67);have ht:=(Hb.new (w.alloc (.cells (iI J) 47)) (tk ⟨#[]⟩ (.slice none 0 0) 0 0 (fun _=>0)) 65).alloc (.cells (au ⟨#[]⟩ (.slice none 0 0) 0 0 0) 67);have ha:=Hb.new ((w.alloc (.cells (iI J) 47)).alloc (.cells (tk ⟨#[]⟩ (.slice none 0 0) 0 0 (fun _=>0)) 65)) (au ⟨#[]⟩ (.slice none 0 0) 0 0 0) 67;have gr:=aG (aG (aG (aE w none) (.cells (iI J) 47)) (.cells (tk ⟨#[]⟩ (.slice none 0 0) 0 0 (fun _=>0)) 65)) (.cells (au ⟨#[]⟩ (.slice none 0 0) 0 0 0) 67);simp only[World.size_alloc] at ht ha;have hcl:J.client=J.client:=rfl;go_enter Tryz.func20,Tryz.ntmps20;go_upto_region 1 with fail;rw[tk0,au0];generalize ((w.alloc (.cells (iI J) 47)).alloc (.cells (tk ⟨#[]⟩ (.slice none 0 0) 0 0 (fun _=>0)) 65)).alloc (.cells (au ⟨#[]⟩ (.slice none 0 0) 0 0 0) 67)=W at*;obtain⟨bk,hbk⟩:∃x,x=w.heap.size:=⟨_,rfl⟩;obtain⟨bt,hbt⟩:∃x,x=w.heap.size+1:=⟨_,rfl⟩;obtain⟨ba,hba⟩:∃x,x=w.heap.size+1+1:=⟨_,rfl⟩;rw[←hbk] at hb;rw[←hbt] at ht;rw[←hba] at ha;simp only[←hba];simp only[←hbt];simp only[←hbk];have HH:=aD (aQ hb (aQ ht (aQ ha (aQ gr (aQ hbk (aQ hbt hba))))));have c0:W.cell? ⟨bk,0,none⟩=some (.int .i64 J.client):=hb.cell (i:=0) rfl;have c2:W.cell? ⟨bk,2,none⟩=some (.int .i64 J.start):=hb.cell (i:=2) rfl;have c3:W.cell? ⟨bk,3,none⟩=some (.int .i64 J.stop):=hb.cell (i:=3) rfl;clear hb ht ha gr hbk hbt hba hcl;have hkn:=fun V=>qE J.client V
 refine bO Tryz.f20 1 14 (fun w'=>Below W.heap.size W w') (by kernel_rfl) (by kernel_rfl) (by kernel_rfl) (aU (Below.refl _ _) 1) (fun K hK h0=>?_);refine aW (listed':=#[false,false,false,false,false,false,false,false,false,false,false,false,false,false]) (by kernel_rfl) rfl ?_;have HF:=aD hK;clear hK;refine aX 0 5 (Value.pointer (some ⟨bk,0,none⟩)) (fun _ _=>by kernel_rfl) h0 ?_;simp only[Act.put,aJ,aK,aI];refine bD 1 6 (by kernel_rfl) 3 (.tmp 5) (by kernel_rfl) ⟨bk,0,none⟩ (by kernel_rfl) (Value.int .i64 J.client) _ (fun w' hw'=>(aC hw' none).cell c0 (by simp)) Tryz.underlying3 rfl h0 ?_;simp only[Act.put,aJ,aK,aI];refine aX 3 8 (Value.pointer (some ⟨bk,2,none⟩)) (fun _ _=>by kernel_rfl) h0 ?_;simp only[Act.put,aJ,aK,aI];refine bD 4 9 (by kernel_rfl) 2 (.tmp 8) (by kernel_rfl) ⟨bk,2,none⟩ (by kernel_rfl) (Value.int .i64 J.start) _ (fun w' hw'=>(aC hw' none).cell c2 (by simp)) Tryz.underlying2 rfl h0 ?_;simp only[Act.put,aJ,aK,aI];refine aX 5 10 (Value.pointer (some ⟨bk,3,none⟩)) (fun _ _=>by kernel_rfl) h0 ?_;simp only[Act.put,aJ,aK,aI];refine bD 6 11 (by kernel_rfl) 2 (.tmp 10) (by kernel_rfl) ⟨bk,3,none⟩ (by kernel_rfl) (Value.int .i64 J.stop) _ (fun w' hw'=>(aC hw' none).cell c3 (by simp)) Tryz.underlying2 rfl h0 ?_;simp only[Act.put,aJ,aK,aI];refine aX 7 12 (Value.pointer (some ⟨bk,0,none⟩)) (fun _ _=>by kernel_rfl) h0 ?_;simp only[Act.put,aJ,aK,aI];refine bD 8 13 (by kernel_rfl) 3 (.tmp 12) (by kernel_rfl) ⟨bk,0,none⟩ (by kernel_rfl) (Value.int .i64 J.client) _ (fun w' hw'=>(aC hw' none).cell c0 (by simp)) Tryz.underlying3 rfl h0 ?_;simp only[Act.put,aJ,aK,aI];refine aX 9 14 (Value.int .u8 ((J.client % 256).toNat:Int)) (fun w' _=>aHF _ _ w' (.tmp 13) J.client (by kernel_rfl) (by kernel_rfl)) h0 ?_;simp only[Act.put,aJ,aK,aI];refine aX 10 15 (Value.agg (aH .u8 16 (cL J.client))) (fun w' _=>aG0 _ _ w' (.tmp 14) J.client (by kernel_rfl) (by kernel_rfl)) h0 ?_;simp only[Act.put,aJ,aK,aI];refine fA (α:=Nat×Nat) 1 #[true,true,true,true,true,true,true,true,true,true,true,true,true,false] (fun a x=>(Act.put (Act.put (Act.put a (some 7) (Value.agg #[.string fK,.slice (some ⟨x.1,0,none⟩) 1 1])) (some 16) (Value.agg (tk fK (.slice (some ⟨x.1,0,none⟩) 1 1) J.start J.stop (cL J.client)))) (some 4) (Value.pointer (some ⟨x.2,0,none⟩)))) (fun x w'=>Below W.heap.size W w'∧OwnS w' W.heap.size (.slice (some ⟨x.1,0,none⟩) 1 1) [nmB J.client]∧W.heap.size≤x.2∧Hb w' x.2 (tk ⟨#[]⟩ (.slice none 0 0) 0 0 (fun _=>0)) 65) (fun x w2 hc=>?_) (fun CUT=>?_);rotate_left
 ·simp only[Act.put,aJ,aK,aI] at CUT
  refine cU 2 12 (by kernel_rfl) (by kernel_rfl) (eF 7 52 #[Value.int .i64 J.client] (by kernel_rfl) (by kernel_rfl) _ (hkn _) (fun e wk hr=>?_)) (dP 4 (fun g=>.pointer (some ⟨g,0,none⟩)) (tk ⟨#[]⟩ (.slice none 0 0) 0 0 (fun _=>0)) 65 (by kernel_rfl) h0 (Nat.le_refl _) (by kernel_rfl) ?_)
  ·obtain⟨gu,rfl,ou,gk⟩:=hr
   have ou:=ou.mono h0.size;have h0:=bK h0 gk;refine⟨_,rfl,h0,?_⟩;simp only[Act.put,aJ,aK,aI];refine aX 11 16 (Value.agg (tk fK (.slice (some ⟨gu,0,none⟩) 1 1) J.start J.stop (cL J.client))) (fun w' _=>tX _ _ w' (.tmp 7) (.tmp 9) (.tmp 11) (.tmp 15) fK gu J.start J.stop (cL J.client) (by kernel_rfl) (by kernel_rfl) (by kernel_rfl) (by kernel_rfl) (by kernel_rfl)) h0 ?_;simp only[Act.put,aJ,aK,aI];refine aR 12 (by kernel_rfl) (by kernel_rfl) (dP 4 (fun g=>.pointer (some ⟨g,0,none⟩)) (tk ⟨#[]⟩ (.slice none 0 0) 0 0 (fun _=>0)) 65 (by kernel_rfl) h0 (Nat.le_refl _) (by kernel_rfl) ?_);intro wk g12 hBg12 _ _ _ gk h0 qg12;have ou:=ou.below (aB gk);simp only[Act.put,aJ,aK,aI];exact aW (by kernel_rfl) rfl (CUT (gu,g12) _ ⟨h0,ou,hBg12,qg12⟩)
  ·intro wk g12 hBg12 _ _ _ gk h0 qg12
   simp only[Act.put,aJ,aK,aI];refine aR 2 (by kernel_rfl) (by kernel_rfl) (eF 7 52 #[Value.int .i64 J.client] (by kernel_rfl) (by kernel_rfl) _ (hkn _) (fun e wk hr=>?_));obtain⟨gu,rfl,ou,gk⟩:=hr;have ou:=ou.mono h0.size;have h0:=bK h0 gk;have hBg12:=hBg12;have qg12:=Hb.only qg12 gk;refine⟨_,rfl,h0,?_⟩;simp only[Act.put,aJ,aK,aI];refine aX 11 16 (Value.agg (tk fK (.slice (some ⟨gu,0,none⟩) 1 1) J.start J.stop (cL J.client))) (fun w' _=>tX _ _ w' (.tmp 7) (.tmp 9) (.tmp 11) (.tmp 15) fK gu J.start J.stop (cL J.client) (by kernel_rfl) (by kernel_rfl) (by kernel_rfl) (by kernel_rfl) (by kernel_rfl)) h0 ?_;simp only[Act.put,aJ,aK,aI];exact aW (by kernel_rfl) rfl (CUT (gu,g12) _ ⟨h0,ou,hBg12,qg12⟩)
 obtain⟨gu,g12⟩:=x;obtain⟨h0,ou,hBg12,qg12⟩:=hc;dsimp only at h0 ou hBg12 qg12 ⊢;simp only[Act.put,aJ,aK,aI];have pg12:=qg12;refine aR 13 (by kernel_rfl) (by kernel_rfl) (pZ 65 (.tmp 4) (.tmp 16) g12 (tk fK (.slice (some ⟨gu,0,none⟩) 1 1) J.start J.stop (cL J.client)) _ _ (by kernel_rfl) (by kernel_rfl) (by kernel_rfl) (by kernel_rfl) qg12 (by kernel_rfl) (by rw[tk_size,tk_size]) (cR _ _ _ _ _ rfl) hBg12 h0 (fun h0 qg12=>?_));simp only[aJ,aK,aI];refine aZ (by kernel_rfl) (HF.out _ _ ?_);have gs:=((aH3 pg12).row (tk fK (.slice (some ⟨gu,0,none⟩) 1 1) J.start J.stop (cL J.client))).2;have hne:gu≠g12:=fun e=>by
  rcases ou.cases with ⟨h1,_⟩|⟨g,cap,h1,_,_,_⟩
  ·cases h1
  ·obtain⟨_,_,h2⟩:=aES ou
   have h3:w2.heap[g12]? =_:=pg12;rw[←e,h2] at h3;exact absurd (Obj.cells.inj (Option.some.inj h3)).2.1 (by decide)
 have ou4:=ou.only gs (.inr fun e=>hne (by simpa [Value.ownBlock] using e));go_upto_region 2 with fail;have hg4:Hb (w2.setRow g12 (tk fK (.slice (some ⟨gu,0,none⟩) 1 1) J.start J.stop (cL J.client))) g12 (tk fK (.slice (some ⟨gu,0,none⟩) 1 1) J.start J.stop (cL J.client)) 65:=qg12;obtain⟨hb,ht,ha,gr,hbk,hbt,hba⟩:=HH.out;have hb4:Hb (w2.setRow g12 (tk fK (.slice (some ⟨gu,0,none⟩) 1 1) J.start J.stop (cL J.client))) bk (iI J) 47:=(h0.block bk hb.lt).trans hb;have ht4:Hb (w2.setRow g12 (tk fK (.slice (some ⟨gu,0,none⟩) 1 1) J.start J.stop (cL J.client))) bt (tk ⟨#[]⟩ (.slice none 0 0) 0 0 (fun _=>0)) 65:=(h0.block bt ht.lt).trans ht;have ha4:Hb (w2.setRow g12 (tk fK (.slice (some ⟨gu,0,none⟩) 1 1) J.start J.stop (cL J.client))) ba (au ⟨#[]⟩ (.slice none 0 0) 0 0 0) 67:=(h0.block ba ha.lt).trans ha;have hd:bk≠bt∧bk≠ba∧g12≠bt∧g12≠ba∧bt≠ba:=by
  have:=ht.lt;have:=ha.lt;omega
 have hba0:w.heap.size≤W.heap.size:=gr.size;have H4:=aD (aQ hg4 (aQ hb4 (aQ ht4 (aQ ha4 (aQ hd (aQ ou4 (aQ gr (aQ h0 (aQ hbt (aQ hba hbk))))))))));clear hg4 hb4 ht4 ha4 hd ou4 gr h0 hbk hbt hba hb ht ha c0 c2 c3 qg12 pg12 hBg12 hne gs ou hkn;generalize w2.setRow g12 (tk fK (.slice (some ⟨gu,0,none⟩) 1 1) J.start J.stop (cL J.client))=W4 at*;have H0:Hid (Hb (W4.drewN 1) bk (iI J) 47∧Hb (W4.drewN 1) g12 (tk fK (.slice (some ⟨gu,0,none⟩) 1 1) J.start J.stop (cL J.client)) 65):=aD ⟨H4.out.2.1,H4.out.1⟩;have H5:Hid (Hb (W4.drewN 1) bt (tk ⟨#[]⟩ (.slice none 0 0) 0 0 (fun _=>0)) 65∧Hb (W4.drewN 1) ba (au ⟨#[]⟩ (.slice none 0 0) 0 0 0) 67):=aD ⟨H4.out.2.2.1,H4.out.2.2.2.1⟩;have HD:=aD H4.out.2.2.2.2.1;have HG:Hid (W4.grownBy (W4.drewN 1) none):=aD (aM (aE W4 none) 1);refine bO Tryz.f20 2 11 (fun w'=>Hb w' bk (iI J) 47∧Hb w' g12 (tk fK (.slice (some ⟨gu,0,none⟩) 1 1) J.start J.stop (cL J.client)) 65) (by kernel_rfl) (by kernel_rfl) (by kernel_rfl) H0.out (fun K hK h0=>?_);refine aW (listed':=#[false,false,false,false,false,false,false,false,false,false,false]) (by kernel_rfl) rfl ?_;have HF:=aD hK;clear hK;generalize W4.drewN 1=W5 at*;refine bG 0 17 (by kernel_rfl) 65 (.tmp 4) (by kernel_rfl) ⟨g12,0,none⟩ (by kernel_rfl) (tk fK (.slice (some ⟨gu,0,none⟩) 1 1) J.start J.stop (cL J.client)) _ (fun w' hw'=>lJ hw'.2) Tryz.underlying65 rfl (by kernel_rfl) h0 ?_;simp only[Act.put,aJ,aK,aI];refine aX 1 18 (Value.pointer (some ⟨bk,1,none⟩)) (fun _ _=>by kernel_rfl) h0 ?_;simp only[Act.put,aJ,aK,aI];refine bD 2 19 (by kernel_rfl) 3 (.tmp 18) (by kernel_rfl) ⟨bk,1,none⟩ (by kernel_rfl) (Value.int .i64 J.other) _ (fun w' hw'=>hw'.1.cell rfl) Tryz.underlying3 rfl h0 ?_;simp only[Act.put,aJ,aK,aI];refine aX 4 21 (Value.pointer (some ⟨bk,4,none⟩)) (fun _ _=>by kernel_rfl) h0 ?_;simp only[Act.put,aJ,aK,aI];refine bD 5 22 (by kernel_rfl) 2 (.tmp 21) (by kernel_rfl) ⟨bk,4,none⟩ (by kernel_rfl) (Value.int .i64 J.time) _ (fun w' hw'=>hw'.1.cell rfl) Tryz.underlying2 rfl h0 ?_;simp only[Act.put,aJ,aK,aI];refine aX 6 23 (Value.pointer (some ⟨bk,5,none⟩)) (fun _ _=>by kernel_rfl) h0 ?_;simp only[Act.put,aJ,aK,aI];refine bD 7 24 (by kernel_rfl) 44 (.tmp 23) (by kernel_rfl) ⟨bk,5,none⟩ (by kernel_rfl) (Value.int .u32 (J.seq:Int)) _ (fun w' hw'=>hw'.1.cell rfl) Tryz.underlying44 rfl h0 ?_;simp only[Act.put,aJ,aK,aI];refine bE 3 20 52 #[Value.int .i64 J.other] (by kernel_rfl) (by kernel_rfl) ?_;refine(qE J.other W5).mono ?_;rintro e w5 ⟨gh,rfl,oh,g5⟩;have ht5:=H5.out.1.only g5;have ha5:=H5.out.2.only g5;replace h0:Hb w5 bk (iI J) 47∧Hb w5 g12 (tk fK (.slice (some ⟨gu,0,none⟩) 1 1) J.start J.stop (cL J.client)) 65:=⟨h0.1.only g5,h0.2.only g5⟩;refine⟨_,rfl,h0,?_⟩;simp only[Act.put,aJ,aK,aI];refine aX 8 25 (Value.agg (au fK (.slice (some ⟨gh,0,none⟩) 1 1) J.time 0 J.seq)) (fun w' _=>aEG _ _ w' (.tmp 20) (.tmp 22) (.tmp 24) fK gh J.time J.seq (by kernel_rfl) (by kernel_rfl) (by kernel_rfl) (by kernel_rfl)) h0 ?_;simp only[Act.put,aJ,aK,aI];have gs9:=(Hb.row ht5 (tk fK (.slice (some ⟨gu,0,none⟩) 1 1) J.start J.stop (cL J.client))).2;have hr9:=(Hb.row ht5 (tk fK (.slice (some ⟨gu,0,none⟩) 1 1) J.start J.stop (cL J.client))).1;have hS9:=aQ (h0.1.keep gs9 (by simpa using HD.out.1)) (h0.2.keep gs9 (by simpa using HD.out.2.2.1));have ha6:=ha5.keep gs9 (by simpa using (Ne.symm HD.out.2.2.2.2));refine kK 9 (by kernel_rfl) (by kernel_rfl) (by kernel_rfl) 65 (.tmp 2) (.tmp 17) (by kernel_rfl) (by kernel_rfl) bt (tk fK (.slice (some ⟨gu,0,none⟩) 1 1) J.start J.stop (cL J.client)) _ (by kernel_rfl) (by kernel_rfl) _ ht5 (by kernel_rfl) (by rw[tk_size,tk_size]) (cR _ _ _ _ _ rfl) hS9 ?_;generalize w5.setRow bt (tk fK (.slice (some ⟨gu,0,none⟩) 1 1) J.start J.stop (cL J.client))=w6 at*;simp only[Act.put,aJ,aK,aI];have gs10:=(Hb.row ha6 (au fK (.slice (some ⟨gh,0,none⟩) 1 1) J.time 0 J.seq)).2;have hr10:=(Hb.row ha6 (au fK (.slice (some ⟨gh,0,none⟩) 1 1) J.time 0 J.seq)).1;have hS10:=aQ (hS9.1.keep gs10 (by simpa using HD.out.2.1)) (hS9.2.keep gs10 (by simpa using HD.out.2.2.2.1))
 have ht7:=hr9.keep gs10 (by simpa using HD.out.2.2.2.2);refine kK 10 (by kernel_rfl) (by kernel_rfl) (by kernel_rfl) 67 (.tmp 3) (.tmp 25) (by kernel_rfl) (by kernel_rfl) ba (au fK (.slice (some ⟨gh,0,none⟩) 1 1) J.time 0 J.seq) _ (by kernel_rfl) (by kernel_rfl) _ ha6 (by kernel_rfl) (rfl) (cY _ _ _ _ _ rfl) hS10 ?_;generalize w6.setRow ba (au fK (.slice (some ⟨gh,0,none⟩) 1 1) J.time 0 J.seq)=w7 at*;simp only[Act.put,aJ,aK,aI];refine aZ (by kernel_rfl) (HF.out _ _ ?_);have H7:=aD (aQ ht7 (aQ hr10 (aQ g5 (aQ gs9 (aQ gs10 oh)))));clear ht7 hr10 g5 gs9 gs10 oh hS9 hS10 ht5 ha5 ha6 hr9;go_wp2_with fail;obtain⟨ht7,hr10,g5,gs9,gs10,oh⟩:=H7.out;obtain⟨_,_,_,_,hd,ou4,gr,hbW,hbt,hba,hbk⟩:=H4.out;have hbl:=HH.out.2.1.lt;have hal:=HH.out.2.2.1.lt;refine bodyPost_ret (oH rfl _ _ bt ba _ _ _ _ (0,0) (0,0) _ _ rfl ht7 rfl rfl (by kernel_rfl) rfl hr10 rfl rfl (by kernel_rfl)) rfl ?_;have z1:W.heap.size≤W5.heap.size:=Nat.le_trans hbW.size HG.out.size;have ou5:=(ou4.below (aB HG.out)).below (aB g5);have hap:∀(g:Nat) (ss:List ByteArray),OwnS w5 W.heap.size (.slice (some ⟨g,0,none⟩) 1 1) ss→OwnS w7 w.heap.size (.slice (some ⟨g,0,none⟩) 1 1) ss:=fun g ss ho=>by
  have hlt:=(ho.lt g rfl).1;exact((ho.only gs9 (.inr fun e=>by simp[Value.ownBlock] at e;omega)).only gs10 (.inr fun e=>by simp[Value.ownBlock] at e;omega)).mono gr.size
 refine⟨gu,gh,rfl,hap _ _ ou5,hap _ _ (oh.mono z1),?_⟩;have gw5:=aF (aF (aF gr (aC hbW none)) HG.out) g5;exact aO (aO gw5 gs9 (by omega)) gs10 (by omega)
end Go.Proofs.YtcoolgnlhheaiaaGreatDoor
namespace Go.Proofs.YtcoolgnlhheaiaaGreatDoor
open Go.RowKit Go.Deep
set_option linter.all false
set_option maxRecDepth 100000
set_option maxHeartbeats 4000000
def jD (s:Nat):Nat→Nat:=fun i=>([s % 256]:List Nat).getD i 0
theorem yO (s:Nat):Aes.B8 (jD s):=fun i=>by
 unfold jD;rcases i with _|i
 ·show s % 256<256;omega
 ·simp
def Kd.tic (J:Kd):Tic.T:=Go.Proofs.YtcoolgnlhheaiaaGreatDoor.tic fK [nmB J.client] J.start J.stop (cL J.client)
def Kd.aut (J:Kd):Aut.A:=Go.Proofs.YtcoolgnlhheaiaaGreatDoor.aut fK [nmB J.other] J.time 0 J.seq
def Kd.req (J:Kd):List Nat:=(Req.mk cQ (jD J.seq) (cL J.client) J.tic J.aut).getD []
theorem qF (n:Int):Nam.valid (nm fK [nmB n])=true:=by
 unfold nmB;split
 ·kernel_rfl
 ·split
  ·kernel_rfl
  ·kernel_rfl
theorem Kd.right_iff {J:Kd} (h:J.right=true):0≤J.start∧J.start≤J.stop∧J.stop≤1099511627776∧0≤J.time∧J.time≤1099511627776:=by
 unfold Kd.right at h
 simpa using h
theorem Kd.tic_valid {J:Kd} (h:J.right=true):Tic.valid J.tic=true:=by
 obtain⟨a,b,c,_⟩:=Kd.right_iff h;exact(Tic.valid_iff _).2 ⟨qF _,a,b,c⟩
theorem Kd.aut_valid {J:Kd} (h:J.right=true):Aut.valid J.aut=true:=by
 obtain⟨_,_,_,a,b⟩:=Kd.right_iff h;exact(Aut.valid_iff _).2 ⟨qF _,a,b,by show 0≤999999;omega⟩
theorem aJA (w:World) (o1 o2 cs ds:Array Value) (t1 t2:TypeId):
 Hb ((w.alloc (.cells o1 t1)).alloc (.cells o2 t2)) w.heap.size o1 t1∧Hb (((w.alloc (.cells o1 t1)).alloc (.cells o2 t2)).setRow w.heap.size cs) (w.heap.size+1) o2 t2∧
 Hb ((((w.alloc (.cells o1 t1)).alloc (.cells o2 t2)).setRow w.heap.size cs).setRow (w.heap.size+1) ds) w.heap.size cs t1∧Hb ((((w.alloc (.cells o1 t1)).alloc (.cells o2 t2)).setRow w.heap.size cs).setRow (w.heap.size+1) ds) (w.heap.size+1) ds t2∧
 w.grownBy ((((w.alloc (.cells o1 t1)).alloc (.cells o2 t2)).setRow w.heap.size cs).setRow (w.heap.size+1) ds) none:=by
 have a:=(Hb.new w o1 t1).alloc (.cells o2 t2);have b:=Hb.new (w.alloc (.cells o1 t1)) o2 t2;rw[World.size_alloc] at b;have b2:=b.keep (a.row cs).2 (by simp);have g:=aG (aG (aE w none) (.cells o1 t1)) (.cells o2 t2);exact⟨a,b2,(a.row cs).1.keep (b2.row ds).2 (by simp),(b2.row ds).1,aO (aO g (a.row cs).2 (Nat.le_refl _)) (b2.row ds).2 (Nat.le_succ _)⟩
theorem aIW (n:Nat):IntKind.u8.wrap (n:Int)=((n % 256:Nat):Int):=by
 simp only[IntKind.wrap_u8];omega
theorem aEO (o:Oper) (a:Act) (w:World) (x:Operand) (n:Nat) (ho:o.op= .convert 44 5 x) (hx:a.eval x= .int .u32 (n:Int)):(execOp a.eval o).run Tryz.prog w= .ok (.value (.int .u8 ((n % 256:Nat):Int))) w:=by
 rw[←aIW];unfold execOp;simp only[ho,hx]
 kernel_rfl
theorem aFD (k:Nat):Tryz.prog.built 127 [(0,.int .u8 (k:Int))]=some (aH .u8 8 fun i=>([k]:List Nat).getD i 0):=by kernel_rfl
theorem aHS (o:Oper) (a:Act) (w:World) (j:Operand) (n:Nat) (ho:o.op= .build 127 #[(0,j)]) (hj:a.eval j= .int .u8 ((n % 256:Nat):Int)):
 (execOp a.eval o).run Tryz.prog w= .ok (.value (.agg (aH .u8 8 (jD n)))) w:=by
 unfold execOp;simp only[ho];rw[show(#[(0,j)]:Array (Nat×Operand)).map (fun(i,x)=>(i,a.eval x))=#[(0,.int .u8 ((n % 256:Nat):Int))] by simp[hj]];rw[Sem.run_bind,run_build w 127 _ _ (aFD (n % 256))];rfl
theorem lM (J:Kd) (w:World) (hf:J.foreign=false) (hs:J.spoil=0) (hr:J.right=true) (hz:J.seq<4294967296):Calls Tryz.prog 18 #[.agg (iI J)] w (cG J.req w):=by
 have hpt:=fun W=>aCA J W
 unfold tP at hpt;have hky:=fun W=>rE W
 have hb:=Hb.new w (iI J) 47;have gr:=aG (aE w none) (.cells (iI J) 47);have hkz:(iI J).size=8:=rfl;go_enter Tryz.func18,Tryz.ntmps18;go_upto_region 1 with fail;generalize w.alloc (.cells (iI J) 47)=W at*;obtain⟨bk,hbk⟩:∃x,x=w.heap.size:=⟨_,rfl⟩;rw[←hbk] at hb;simp only[←hbk];have H1:=aD (aQ hb (aQ gr hbk));clear gr hbk
 go_upto_region 2 with (first
  |refine aS (by kernel_rfl) _ _ rfl bk rfl _ _ (0,0) _ hb rfl rfl (by kernel_rfl) ?_
  |(go_at_call 20;refine(hpt _).mono ?_;clear hpt;rintro e w2 ⟨gu,gh,rfl,ou,oh,g2⟩;have F:=aJA w2 #[.string ⟨#[]⟩,.slice none 0 0,.int .i64 0,.int .i64 0,.int .u8 0,.int .u8 0,.int .u8 0,.int .u8 0,.int .u8 0,.int .u8 0,.int .u8 0,.int .u8 0,.int .u8 0,.int .u8 0,.int .u8 0,.int .u8 0,.int .u8 0,.int .u8 0,.int .u8 0,.int .u8 0] #[.string ⟨#[]⟩,.slice none 0 0,.int .i64 0,.int .u32 0,.int .u32 0] (tk fK (.slice (some ⟨gu,0,none⟩) 1 1) J.start J.stop (cL J.client)) (au fK (.slice (some ⟨gh,0,none⟩) 1 1) J.time 0 J.seq) 65 67)
  |refine wpList_store_rowTo rfl _ _ _ rfl rfl w2.heap.size _ rfl rfl _ _ F.1 (bI _ _ _ _ _) (by rw[tk_size];rfl) (cR _ _ _ _ _ rfl) ?_
  |refine wpList_store_rowTo rfl _ _ _ rfl rfl (w2.heap.size+1) _ rfl rfl _ _ F.2.1 (bJ _ _ _ _ _) (by rw[au_size];rfl) (cY _ _ _ _ _ rfl) ?_)
 generalize World.setRow _ (w2.heap.size+1) _=W3 at*;obtain⟨-,-,hT,hA,g3⟩:=F;obtain⟨ba,hba⟩:∃x,x=w2.heap.size+1:=⟨_,rfl⟩;rw[←hba] at hA;simp only[←hba];obtain⟨bt,hbt⟩:∃x,x=w2.heap.size:=⟨_,rfl⟩;rw[←hbt] at hT;simp only[←hbt];clear hba hbt;have H3:=aD (aQ (ou.below (aB g3)) (aQ (oh.below (aB g3)) (aF g2 g3)));have hb3:=(hb.only g2).only g3;clear ou oh g2 g3 hb
 go_upto_region 3 with (first
  |(go_at_call 24;refine(hky _).mono ?_;clear hky;rintro e w4 ⟨rfl,g4⟩)
  |(refine wpList_store_rowTo rfl _ _ _ rfl rfl w4.heap.size _ rfl rfl _ _ (heap_alloc_new _ _) (dJ _) (by rw[aA];rfl) (aL _ _ _) ?_;generalize hV5:World.setRow _ w4.heap.size _=W5))
 obtain⟨hE,g5⟩:=cK w4 _ (aH .u8 16 cQ) 22;rw[hV5] at hE g5;obtain⟨be,hbe⟩:∃x,x=w4.heap.size:=⟨_,rfl⟩;rw[←hbe] at hE;simp only[←hbe];have G5:=aF g4 g5;have hb5:=hb3.only G5;have hT5:=hT.only G5;have hA5:=hA.only G5;have ou5:=H3.out.1.below (aB G5);have oh5:=H3.out.2.1.below (aB G5);have GG:=aF H3.out.2.2 G5;have c6:W5.cell? ⟨bk,6,none⟩=some (.bool false):=by rw[←hf];exact hb5.cell rfl
 have c5:W5.cell? ⟨bk,5,none⟩=some (.int .u32 (J.seq:Int)):=hb5.cell rfl;have c7:W5.cell? ⟨bk,7,none⟩=some (.int .u16 0):=by have:=hb5.cell (i:=7) (v:=.int .u16 (J.spoil:Int)) rfl;rw[hs] at this;exact this
 have hmk:=pB cQ (jD J.seq) fK (.slice (some ⟨gu,0,none⟩) 1 1) [nmB J.client] J.start J.stop (cL J.client) fK (.slice (some ⟨gh,0,none⟩) 1 1) [nmB J.other] J.time 0 J.seq W5 iP (yO _) (by decide) (aDU _) ou5.ss (by decide) (by omega) hz oh5.ss (Kd.tic_valid hr) (Kd.aut_valid hr);change Calls _ _ _ _ (cG J.req W5) at hmk;have H5:=aD (aQ H1.out.2.1 GG);have HJ:=aD (aQ hf (aQ hs (aQ hr hz)));clear hb3 hT hA g4 g5 hV5 hbe G5 ou5 oh5 GG hf hs hr hz hb5;go_upto_region 5 with fail
 go_upto_region 6 with (first
  |refine aS (by kernel_rfl) _ _ rfl be rfl _ _ (0,0) _ hE rfl rfl (dJ _) ?_
  |refine aS (by kernel_rfl) _ _ rfl bt rfl _ _ (0,0) _ hT5 rfl rfl (bI _ _ _ _ _) ?_
  |refine aS (by kernel_rfl) _ _ rfl ba rfl _ _ (0,0) _ hA5 rfl rfl (bJ _ _ _ _ _) ?_
  |refine cZ rfl _ (aEO _ _ _ _ J.seq rfl rfl) ?_
  |refine cZ rfl _ (aHS _ _ _ _ J.seq rfl rfl) ?_
  |(go_at_call 49;refine hmk.mono ?_;clear hmk;rintro e w6 ⟨vb,rfl,ov6,b6⟩))
 have c7:=(aC b6 none).cell c7 (by simp);have H6:=aD (aQ ov6 b6);obtain⟨va,vc,hvq⟩:=ov6.form;subst hvq;clear ov6 b6 hE hT5 hA5 c5 c6;go_wp2_with fail;go_ret;obtain⟨ov6,b6⟩:=H6.out;have GW:=aF H5.out.1 H5.out.2;exact⟨_,rfl,ov6.mono GW.size,(aB GW).trans (b6.mono GW.size)⟩
set_option linter.all false
structure Dsk.calm (D:Dsk.D):Prop where
 up:D.down=false
 fails:∀k,D.fails k=false
 crashes:∀k,D.crashes k=none
theorem Dsk.calm.fate {D:Dsk.D} (h:Dsk.calm D):Dsk.fate D=0:=by
 unfold Dsk.fate;rw[h.crashes,h.fails];rfl
theorem Dsk.calm.stepped {D:Dsk.D} (h:Dsk.calm D):Dsk.calm (Dsk.stepped D):=
 ⟨h.up,fun k=>by unfold Dsk.stepped;dsimp only;split;rfl;exact h.fails k,fun k=>by unfold Dsk.stepped;dsimp only;split;rfl;exact h.crashes k⟩
theorem Dsk.calm.write {D:Dsk.D} (h:Dsk.calm D) (x:Nat) (s:List Nat):Dsk.write D x s=(Dsk.added (Dsk.stepped D) x s,0):=by
 unfold Dsk.write;rw[if_neg (by rw[h.up];simp),if_neg (by rw[h.fate];decide),if_neg (by rw[h.fate];decide)]
theorem Dsk.calm.sync {D:Dsk.D} (h:Dsk.calm D):Dsk.sync D=(Dsk.synced (Dsk.stepped D),0):=by
 unfold Dsk.sync;rw[if_neg (by rw[h.up];simp),if_neg (by rw[h.fate];decide),if_neg (by rw[h.fate];decide)]
theorem Dsk.calm.wrsy {D:Dsk.D} (h:Dsk.calm D) (x:Nat) (s:List Nat):Dsk.calm (Slt.wrsy D x s).1∧(Slt.wrsy D x s).2=0:=by
 have h1:Dsk.calm (Dsk.added (Dsk.stepped D) x s):=⟨h.stepped.up,h.stepped.fails,h.stepped.crashes⟩;unfold Slt.wrsy;rw[h.write,if_pos rfl,h1.sync];exact⟨⟨h1.stepped.up,h1.stepped.fails,h1.stepped.crashes⟩,rfl⟩
theorem Dsk.fresh_calm (n:Nat):Dsk.calm (Dsk.fresh n):=⟨rfl,fun _=>rfl,fun _=>rfl⟩
structure Dsk.empty (D:Dsk.D):Prop where
 sec:D.sec=List.replicate 8 (List.replicate 64 0)
 opn:D.opn=[]
theorem Dsk.empty.read {D:Dsk.D} (h:Dsk.empty D) {x:Nat} (hx:x<8):Dsk.read D x=List.replicate 64 0:=by
 unfold Dsk.read;rw[h.opn,h.sec,Dsk.lastOf_nil];dsimp only;rw[List.getD_eq_getElem?_getD,List.getElem?_replicate,if_pos hx];rfl
theorem Frm.parseH_zero:Frm.parseH (List.replicate 64 0)=none:=by
 unfold Frm.parseH
 cases hp:Frm.parse (List.replicate 64 0) with
 |none=>rfl
 |some x=>
  obtain⟨g,p⟩:=x;unfold Frm.parse at hp;split at hp;·cases hp
  split at hp;·cases hp
  split at hp;·cases hp
  simp only[Option.some.injEq,Prod.mk.injEq] at hp;dsimp only;rw[if_neg];rw[←hp.2];decide
theorem Frm.tag_zero:Frm.tag (List.replicate 64 0)=0:=by decide
theorem Dsk.empty.len {D:Dsk.D} (h:Dsk.empty D):D.sec.length=8:=by rw[h.sec];rfl
theorem Dsk.empty.scan {D:Dsk.D} (h:Dsk.empty D) {s:Nat} (hs:s=0∨s=1):Lg.scanS D s=none:=by
 unfold Lg.scanS;rw[h.len];have e:Slt.secs D (s*(8 / 2)) (8 / 2)=(List.range 4).map fun i=>Dsk.read D (s*4+i):=rfl
 rw[e,show List.range 4=[0,1,2,3] from rfl,List.map_cons,Slt.scan_cons,h.read (by omega),Frm.parseH_zero];rfl
theorem Dsk.empty.find {D:Dsk.D} (h:Dsk.empty D):Lg.find D=none:=by
 unfold Lg.find;rw[h.scan (.inl rfl),h.scan (.inr rfl)]
theorem Dsk.empty.last {D:Dsk.D} (h:Dsk.empty D):Lg.last D=0:=by
 unfold Lg.last Lg.tagN;rw[h.len,show List.range 8=[0,1,2,3,4,5,6,7] from rfl];simp only[List.foldl_cons,List.foldl_nil];rw[h.read (x:=0) (by omega),h.read (x:=1) (by omega),h.read (x:=2) (by omega),h.read (x:=3) (by omega),h.read (x:=4) (by omega),h.read (x:=5) (by omega),h.read (x:=6) (by omega),h.read (x:=7) (by omega),Frm.tag_zero];rfl
def Lg.l0 (n:Nat):Lg.L:=⟨4,0,0,1,n,false⟩
theorem Lg.opn_fresh:∃D1,Lg.opn (Dsk.fresh 8)=(D1,.inr (Lg.l0 0,[]))∧Dsk.calm D1:=by
 have hc:=Dsk.fresh_calm 8;have he:Dsk.empty (Dsk.synced (Dsk.stepped (Dsk.fresh 8))):=⟨rfl,rfl⟩;have hc1:Dsk.calm (Dsk.synced (Dsk.stepped (Dsk.fresh 8))):=⟨hc.stepped.up,hc.stepped.fails,hc.stepped.crashes⟩;unfold Lg.opn;rw[if_neg (by decide),hc.sync,if_pos rfl];dsimp only;generalize Dsk.synced (Dsk.stepped (Dsk.fresh 8))=D at*;unfold Lg.open1;rw[he.find];dsimp only;rw[he.last,he.len,if_neg (by decide),Slt.commit_eq,if_pos (hc1.wrsy _ _).2];exact⟨_,rfl,(hc1.wrsy _ _).1⟩
theorem Vf.boot_fresh (sk now:Int):∃D1,Vf.boot (Dsk.fresh 8) ⟨sk,now,none⟩=(D1,⟨sk,now,some ⟨Lg.l0 0,[],now+sk⟩⟩,0)∧Dsk.calm D1∧D1.sec.length=8∧D1.n<100:=by
 obtain⟨D1,h1,hc⟩:=Lg.opn_fresh;have hl:=Lg.opn_len (Dsk.fresh 8);rw[h1] at hl;have e:({ Dsk.fresh 8 with down:=false}:Dsk.D)=Dsk.fresh 8:=rfl;refine⟨D1,?_,hc,hl.1,?_⟩
 ·unfold Vf.boot Ca.opn
  rw[e,h1];rfl
 ·have:(Dsk.fresh 8).n=0:=rfl
  have:=hl.2;dsimp only at this;omega
theorem Vf.ins_new {D:Dsk.D} (hc:Dsk.calm D) (hl:D.sec.length=8) (hn:D.n<100) {a:Aut.A} (hv:Aut.valid a=true) {sk now till:Int} (h0:0≤a.time+sk) (h1:a.time+sk≤4611686018427387904):
 ∃D2,Vf.ins D ⟨Lg.l0 0,[],till⟩ a sk now=(D2,⟨Lg.l0 1,[⟨Vf.dig a,a.time+sk⟩],till⟩,10)∧Dsk.calm D2∧D2.sec.length=8∧D2.n<200:=by
 have hw:=hc.wrsy (0*4+(0+1)) (Frm.entry 1 ⟨Vf.dig a,a.time+sk⟩);have hn2:=Lg.append_len D (Lg.l0 0) ⟨Vf.dig a,a.time+sk⟩;have ha:Lg.append D (Lg.l0 0) ⟨Vf.dig a,a.time+sk⟩=((Slt.wrsy D (0*4+(0+1)) (Frm.entry 1 ⟨Vf.dig a,a.time+sk⟩)).1,Lg.l0 1,0):=by
  unfold Lg.append;rw[if_neg (show ¬((Lg.l0 0).broken=true) by decide)];exact if_pos hw.2
 rw[ha] at hn2;refine⟨_,?_,hw.1,hn2.1.trans hl,by have:=hn2.2;dsimp only at this;omega⟩;unfold Vf.ins;rw[if_pos hv];unfold Ca.insert;rw[if_neg (show ¬(Idx.has ([]:List bC) (Vf.dig a) now=true) by simp[Idx.has,Idx.get])];rw[if_neg (show ¬(((Lg.l0 0).broken|| !Frm.right ⟨Vf.dig a,a.time+sk⟩)=true) by rw[(Frm.right_iff (e:=⟨Vf.dig a,a.time+sk⟩)).2 ⟨h0,h1⟩];decide)];rw[if_neg (show ¬(Lg.room (Lg.l0 0)≤(Lg.l0 0).count) by decide)];unfold Ca.insert2;rw[if_neg (show ¬(Lg.room (Lg.l0 0)≤(Lg.l0 0).count) by decide)];dsimp only;rw[ha];rfl
theorem Vf.ins_again {D:Dsk.D} {L:Lg.L} {a:Aut.A} (hv:Aut.valid a=true) {sk now till:Int} (h0:now≤a.time+sk):
 Vf.ins D ⟨L,[⟨Vf.dig a,a.time+sk⟩],till⟩ a sk now=(D,⟨L,[⟨Vf.dig a,a.time+sk⟩],till⟩,8):=by
 unfold Vf.ins;rw[if_pos hv];unfold Ca.insert;rw[if_pos];refine Idx.has_iff.2 ⟨a.time+sk,?_,h0⟩;unfold Idx.get;rw[List.find?_cons];simp
theorem Vf.look_up {D:Dsk.D} (h:D.down=false) (V:Vf.V):Vf.look D V=V:=by unfold Vf.look;rw[h];rfl
theorem Vf.verify_pol {D:Dsk.D} {V:Vf.V} {t:Tic.T} {a:Aut.A} (hu:D.down=false) (hp:Vf.pol (t,a,0) V≠0):Vf.verify (t,a,0) D V=(D,V,((Vf.pol (t,a,0) V:Nat):Int)):=by
 unfold Vf.verify;rw[if_neg (by simp),if_pos hp,Vf.look_up hu]
theorem Vf.verify_in {D:Dsk.D} {sk now:Int} {C:Ca.C} {t:Tic.T} {a:Aut.A} (hu:D.down=false) (hp:Vf.pol (t,a,0) ⟨sk,now,some C⟩=0) (ht:C.till<now):
 Vf.verify (t,a,0) D ⟨sk,now,some C⟩=((Vf.ins D C a sk now).1,Vf.look (Vf.ins D C a sk now).1 ⟨sk,now,some (Vf.ins D C a sk now).2.1⟩,(((Vf.ins D C a sk now).2.2:Nat):Int)):=by
 unfold Vf.verify;rw[if_neg (by simp),if_neg (by rw[hp];simp),if_neg ?_,Vf.look_up hu]
 ·rfl
 ·unfold Vf.waitc
  rw[Vf.look_up hu];unfold Vf.waitO;dsimp only;rw[if_neg (by omega)];simp
theorem Lg.l0_fit {D:Dsk.D} (h:D.sec.length=8) (n:Nat):Lg.fit D (Lg.l0 n):=⟨.inl rfl,by rw[h];rfl,by show 1<4294967296;decide⟩
theorem aBX (J:Kd):gL J.tic=cL J.client:=by
 funext i;unfold gL Kd.tic tic;dsimp only
 by_cases hi:i<16
 ·exact Sea.nl_get 16 _ i hi
 ·rw[List.getD,List.getElem?_eq_none (by rw[Sea.nl_length];omega)]
  unfold cL;rcases i with _|_|i
  ·omega
  ·omega
  ·simp
theorem Kd.req_facts {J:Kd} (hr:J.right=true) (hz:J.seq<4294967296):J.req.length≤3000∧Req.opn cQ J.req=(J.tic,J.aut,0):=by
 obtain⟨M,h1,h2,h3⟩:=Req.mk_facts (key:=cQ) (nonce:=jD J.seq) (Kd.tic_valid hr) (Kd.aut_valid hr) (aBX J) (Sea.nl_length _ _) hz;unfold Kd.req;rw[h1];exact⟨h2,h3⟩
def Kd.top (J:Kd) (sk:Int):Nat:=if 1099511627776<J.start - sk then 3 else if J.stop+sk<1099511627776 then 4 else if sk<1099511627776 - J.time then 6 else 0
theorem Kd.same {J:Kd} (ho:J.other=J.client):Vf.sameC (J.tic,J.aut,0)=true:=by
 unfold Vf.sameC Kd.tic Kd.aut;rw[ho];exact decide_eq_true ⟨rfl,rfl⟩
theorem Kd.pol_top {J:Kd} (hr:J.right=true) (ho:J.other=J.client) (sk:Int) (o:Option Ca.C):Vf.pol (J.tic,J.aut,0) ⟨sk,1099511627776,o⟩=J.top sk:=by
 obtain⟨_,_,_,h4,h5⟩:=Kd.right_iff hr;have e1:max J.time 1099511627776 - min J.time 1099511627776=1099511627776 - J.time:=by omega
 unfold Vf.pol Pol.check Kd.top;rw[Kd.same ho,←e1];rfl
end Go.Proofs.YtcoolgnlhheaiaaGreatDoor
namespace Go.Proofs.YtcoolgnlhheaiaaGreatDoor
open Go.RowKit Go.Deep Go.Maps Go.ChangeMaps Go.MapKept Go.WideShapes
set_option linter.all false
end Go.Proofs.YtcoolgnlhheaiaaGreatDoor
