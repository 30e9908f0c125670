import Derived.Test.YtcoolgnlhheaiaaGreatDoorG03
import Derived.Test.YtcoolgnlhheaiaaGreatDoorG11
namespace Go.Proofs.YtcoolgnlhheaiaaGreatDoor
open Go.RowKit Go.Deep
set_option linter.all false
set_option maxRecDepth 100000
set_option maxHeartbeats 4000000
theorem aHY (l:List Nat) (h:l.length=16):Sea.nl 16 (fun i=>l.getD i 0)=l:=by
 apply List.ext_getElem
 ·rw[Sea.nl_length,h]
 ·intro i h1 h2
  simp only[Sea.nl,List.getElem_map,List.getElem_range,List.getD];rw[List.getElem?_eq_getElem h2];rfl
def iR:Tic.T:=tic ⟨#[]⟩ [] 0 0 (fun _=>0)
theorem tk0:(#[.string ⟨#[]⟩,.slice none 0 0,.int .i64 0,.int .i64 0,.int .u8 0,.int .u8 0,.int .u8 0,.int .u8 0,.int .u8 0,.int .u8 0,.int .u8 0,.int .u8 0,.int .u8 0,.int .u8 0,.int .u8 0,.int .u8 0,.int .u8 0,.int .u8 0,.int .u8 0,.int .u8 0]:Array Value)=tk ⟨#[]⟩ (.slice none 0 0) 0 0 (fun _=>0):=by
 unfold tk;rw[←aAK];rfl
theorem cR (r:ByteArray) (u:Value) (s e:Int) (key:Nat→Nat) (h:u.oneCell'=true):(tk r u s e key).all (·.oneCell')=true:=by
 unfold tk;rw[Array.all_append,aL,Bool.and_true]
 cases u<;>simp_all [Value.oneCell']
def aGM (w:World) (o:Option Tic.T) (e:Ending) (w':World):Prop:=
 Below w.heap.size w w'∧∃r u ss s x key,e= .returned (.tuple #[.agg (tk r u s x key),.bool o.isSome])∧OwnS w' w.heap.size u ss∧r.size≤maxLen∧Aes.B8 key∧tic r ss s x key=o.getD iR
theorem eQ {w w':World} {e:Ending} (h:Below w.heap.size w w') (he:e= .returned (.tuple #[.agg (tk ⟨#[]⟩ (.slice none 0 0) 0 0 (fun _=>0)),.bool false])):aGM w none e w':=
 ⟨h,⟨#[]⟩,.slice none 0 0,[],0,0,fun _=>0,he,OwnS.nil _ _,Nat.zero_le _,fun _=>(by decide:0<256),rfl⟩
theorem cH (p:Nat) (r:Wir.R) (k:Int) (w:World) (h:Rd w p r):
 Calls Tryz.prog 164 #[.pointer (some ⟨p,0,none⟩),.int .i64 k] w fun e w'=>e= .returned (.int .u64 ((Wir.num r k).2:Int))∧Rd w' p (Wir.num r k).1∧w.grownBy w' (some p):=mE p r k w h
theorem Tic.parse_not1 {l:List Nat} (h:(Wir.num ⟨l,false⟩ 1).2≠1):Tic.parse l=none:=by
 unfold Tic.parse;rw[if_pos h]
theorem Tic.parse_noname {l:List Nat} (h2:(Nam.refRead (Wir.num ⟨l,false⟩ 1).1).2=none):Tic.parse l=none:=by
 unfold Tic.parse;split
 ·rfl
 ·rw[h2]
theorem Tic.parse_name {l:List Nat} {n:Nam.N} (h:(Wir.num ⟨l,false⟩ 1).2=1) (h2:(Nam.refRead (Wir.num ⟨l,false⟩ 1).1).2=some n):
 Tic.parse l=if ((Wir.take (Wir.num (Wir.num (Nam.refRead (Wir.num ⟨l,false⟩ 1).1).1 8).1 8).1 16).1.bad=true∨(Wir.take (Wir.num (Wir.num (Nam.refRead (Wir.num ⟨l,false⟩ 1).1).1 8).1 8).1 16).1.l.length≠0)∨(Wir.num (Wir.num (Nam.refRead (Wir.num ⟨l,false⟩ 1).1).1 8).1 8).2<(Wir.num (Nam.refRead (Wir.num ⟨l,false⟩ 1).1).1 8).2∨1099511627776<(Wir.num (Wir.num (Nam.refRead (Wir.num ⟨l,false⟩ 1).1).1 8).1 8).2 then none
  else some ⟨n,(Wir.num (Nam.refRead (Wir.num ⟨l,false⟩ 1).1).1 8).2,(Wir.num (Wir.num (Nam.refRead (Wir.num ⟨l,false⟩ 1).1).1 8).1 8).2,(Wir.take (Wir.num (Wir.num (Nam.refRead (Wir.num ⟨l,false⟩ 1).1).1 8).1 8).1 16).2⟩:=by
 unfold Tic.parse;rw[if_neg (by omega),h2]
theorem dL (w:World) (old cs:Array Value) (t:TypeId):Hb ((w.alloc (.cells old t)).setRow w.heap.size cs) w.heap.size cs t∧w.grownBy ((w.alloc (.cells old t)).setRow w.heap.size cs) none:=
 ⟨setRow_heap _ _ _ _ _ _ (heap_alloc_new _ _),aC (below_setRow ((Below.refl _ _).alloc (Nat.le_refl _) _) (Nat.le_refl _) _) none⟩
theorem Hb.row {w:World} {b:Nat} {old:Array Value} {t:TypeId} (h:Hb w b old t) (cs:Array Value):Hb (w.setRow b cs) b cs t∧w.grownBy (w.setRow b cs) (some b):=⟨setRow_heap _ _ _ _ _ _ h,cO w b cs⟩
theorem aDN {w:World} {ops:Array Oper} {rest:List Oper} {o:Oper} {a:Act} {Q:Exit→Act→World→Prop} (hgd:o.guard=none) (d s:Operand)
 (ho:o.op= .call { callee:=.builtin .copy,args:=#[d,s],argTypes:=#[39,39]}) (g:Nat) (r:ByteArray) (u:Value) (x e:Int) (f:Nat→Nat) (t:TypeId) (hd:a.eval d= .slice (some ⟨g,4,none⟩) 16 16) (hg:Hb w g (tk r u x e f) t)
 (v:Value) (l:List Nat) (hs:a.eval s=v) (hx:Rs w v l) (hl:l.length=16)
 (h:∀w',Hb w' g (tk r u x e (fun i=>l.getD i 0)) t→w.grownBy w' (some g)→wpList Tryz.prog ops Q rest (a.put o.dst (goInt 16)) w'):wpList Tryz.prog ops Q (o::rest) a w:=by
 obtain⟨i0,hi,hz0,hz1,hz2⟩:=info_parts dC;have hsz:(Tryz.prog.info? 5).map (·.size)=some 1:=by rw[hi];simp[hz1]
 rcases hx.2.2 with ⟨rfl,rfl⟩|⟨ad,cap,rfl,_,hc⟩
 ·simp at hl
 ·have hlen:(l.map bv).length=16:=by rw[List.length_map,hl]
  refine wpList_copy_own hgd d s 39 39 ho 5 Tryz.underlying39 hsz g 4 16 16 ad l.length cap hd hs (tk r u x e f) t hg (l.map bv) (by rw[hlen,hl];rfl) (by have:=kD hc (Nat.le_refl _);rwa [List.take_length] at this) (by rw[hlen,tk_size];omega) (oR _) ?_;have e1:((tk r u x e f).toList.take 4++(l.map bv++(tk r u x e f).toList.drop (4+(l.map bv).length))).toArray=tk r u x e (fun i=>l.getD i 0):=by
   have e2:(tk r u x e f).toList.take 4=[.string r,u,.int .i64 x,.int .i64 e]:=by unfold tk;simp
   have e3:(tk r u x e f).toList.drop (4+(l.map bv).length)=[]:=by
    apply List.drop_eq_nil_of_le;rw[hlen,Array.length_toList,tk_size];omega
   have e4:(l.map bv).toArray=aH .u8 16 (fun i=>l.getD i 0):=bY _ _ _ _ (by simpa using hl) (fun i hi=>by
    rw[List.getElem?_toArray,List.getElem?_map,List.getElem?_eq_getElem (by omega)]
    simp[List.getD,show i<l.length by omega])
   rw[e2,e3,List.append_nil];unfold tk;rw[←e4];simp
  rw[e1,hlen];exact h _ (hg.row _).1 (hg.row _).2
theorem tB (r:Wir.R):(Nam.refRead r).1.l.length≤r.l.length:=by
 show(Nam.loopR (min (Wir.num (Wir.string r 1).1 1).2 9) (Wir.num (Wir.string r 1).1 1).1 []).1.l.length≤_;exact Nat.le_trans (qI _ _ _) (Nat.le_trans (eZ _ _) jM)
theorem bR {w:World} {b:Nat} {old:Array Value} {t:TypeId} (cs:Array Value) (h:Hb w b old t) {w0:World} (k:w0.grownBy w none) (hb:w0.heap.size≤b):Below w0.heap.size w0 (w.setRow b cs):=aB (aO k (h.row cs).2 hb)
theorem wF (v:Value) (l:List Nat) (w:World) (h:Rs w v l) (hb:l.length≤140737488355328):
 Calls Tryz.prog 168 #[v] w (aGM w (Tic.parse l)):=by
 have H:=aD h;clear h;obtain⟨a,cap,rfl⟩:=H.out.form;generalize hR:Tic.parse l=R;have HR:=aD hR;clear hR;go_enter Tryz.func168,Tryz.ntmps168;go_wp2_with fail;rw[tk0];have Z0:=Hb.new w (tk ⟨#[]⟩ (.slice none 0 0) 0 0 (fun _=>0)) 65;have G0:=aG (aE w none) (.cells (tk ⟨#[]⟩ (.slice none 0 0) 0 0 (fun _=>0)) 65);refine(jO _ l _ (H.out.below (aB G0)) hb).mono ?_;rintro e w1 ⟨p,rfl,hp,rd,hb1⟩;have Z1:=Z0.only (aC hb1 none);have G1:=aF G0 (aC hb1 none);have hpw:=Nat.le_trans G0.size hp;have hzp:=Nat.lt_of_lt_of_le Z0.lt hp;clear Z0 G0 hp hb1;go_wp2_with fail;refine(cH p ⟨l,false⟩ 1 w1 rd).mono ?_;rintro e w2 ⟨rfl,rd2,hg2⟩;have G2:=aO G1 hg2 hpw;have Z2:=Z1.keep hg2 (by intro e;cases e;omega);clear Z1 G1 hg2 rd
 by_cases h1:(Wir.num ⟨l,false⟩ 1).2=1
 ·have hl1:(Wir.num ⟨l,false⟩ 1).1.l.length≤l.length:=eZ _ _
  have HN:=aD (fun h2=>(Tic.parse_noname (l:=l) h2).symm.trans HR.out);have HS:=aD (fun n h2=>(Tic.parse_name (l:=l) (n:=n) h1 h2).symm.trans HR.out);rw[h1];clear HR h1;generalize (Wir.num ⟨l,false⟩ 1).1=r1 at*;go_wp2_with fail;refine(pX p r1 w2 rd2 (by omega)).mono ?_;rintro e w3 ⟨hg3,⟨v3,ss3,q3,rfl,o3,hq3,hn3⟩,rd3⟩;have G3:=aO G2 hg3 hpw;have Z3:=Z2.keep hg3 (by intro e;cases e;omega);have O3:=o3;have hp2:=rd2.lt;have hw2:=G2.size;obtain⟨va3,vc3,rfl⟩:=o3.ss.form;have F:=aQ (Hb.new w3 #[.string q3,.slice va3 ss3.length vc3] 63) (aG (aE w3 none) (.cells #[.string q3,.slice va3 ss3.length vc3] 63));have hrl:=tB r1;clear Z2 G2 hg3 rd2 o3;generalize w2.heap.size=B2 at*
  cases hr:(Nam.refRead r1).2 with
  |none=>
   have E1:=aD (show R=none from (HN.out hr).symm);have Z4:=Z3.only F.2;have G4:=aF G3 F.2;rw[hr] at hn3;clear HN HS hr rd3 O3 Z3 G3;go_upto_region 6 with fail;generalize w3.alloc (.cells #[.string q3,.slice va3 ss3.length vc3] 63)=V at*;clear F;go_wp2_with (first|refine wpList_buildTo rfl _ _ rfl _ rfl (tk ⟨#[]⟩ (.slice none 0 0) 0 0 (fun _=>0)) (by kernel_rfl) ?_|refine wpList_store_rowTo rfl _ _ _ rfl rfl w.heap.size _ rfl rfl _ _ Z4 (bI _ _ _ _ _) (by simp only[tk_size]) (cR _ _ _ _ _ rfl) ?_)
   try simp only[Exit.inBlock,Exit.then,Exit.noGoto_ret]
   refine bodyPost_ret (aV rfl _ _ w.heap.size _ _ (0,0) _ rfl (Z4.row _).1 rfl rfl (bI _ _ _ _ _)) rfl ?_;rw[E1.out];exact eQ (bR _ Z4 G4 (Nat.le_refl _)) rfl
  |some n=>
   have HS:=aD (HS.out n hr);have rd3:=rd3 (by rw[hr];rfl);rw[hr] at hn3;have hn3:nm q3 ss3=n:=hn3;have rd4:=rd3.below (aB F.2);have Z4:=Z3.only F.2;have G4:=aF G3 F.2;have N4:=F.1;have O4:=O3.below (aB F.2);have hn4:p≠w3.heap.size:=Nat.ne_of_lt rd3.lt;clear HN hr rd3 O3 Z3 G3;generalize (Nam.refRead r1).1=r2 at*;go_upto_region 6 with fail;generalize w3.alloc (.cells #[.string q3,.slice va3 ss3.length vc3] 63)=V at*;clear F;generalize hbn:w3.heap.size=bn at*;clear hbn;go_wp2_with fail;refine(cH p r2 8 V rd4).mono ?_;rintro e w5 ⟨rfl,rd5,hg5⟩;have G5:=aO G4 hg5 hpw;have Z5:=Z4.keep hg5 (by intro e;cases e;omega);have N5:=N4.keep hg5 (by intro e;cases e;omega);have O5:=O4.only hg5 (.inr (fun e=>by have:=(O4.lt _ e).1;omega));have hl5:=eZ r2 8;clear rd4 G4 Z4 N4 O4 hg5;generalize Wir.num r2 8=S at*;go_wp2_with fail;refine(cH p S.1 8 w5 rd5).mono ?_;rintro e w6 ⟨rfl,rd6,hg6⟩;have G6:=aO G5 hg6 hpw;have Z6:=Z5.keep hg6 (by intro e;cases e;omega);have N6:=N5.keep hg6 (by intro e;cases e;omega);have O6:=O5.only hg6 (.inr (fun e=>by have:=(O5.lt _ e).1;omega));have hl6:=eZ S.1 8;clear rd5 G5 Z5 N5 O5 hg6;generalize Wir.num S.1 8=E at*;go_wp2_with fail;refine(jI p E.1 16 w6 rd6 (by omega) (by omega)).mono ?_;rintro e w7 ⟨v7,rfl,o7,rd7,hg7⟩;have G7:=aO G6 hg7 hpw;have Z7:=Z6.keep hg7 (by intro e;cases e;omega);have N7:=N6.keep hg7 (by intro e;cases e;omega);have O7:=O6.only hg7 (.inr (fun e=>by have:=(O6.lt _ e).1;omega));clear rd6 G6 Z6 N6 O6 hg7;have hkl:(Wir.take E.1 16).1.bad=false→(Wir.take E.1 16).2.length=16:=fun h=>(Wir.take_back (n:=16) h).2.2
   generalize Wir.take E.1 16=K at*;clear hl1 hrl hl5 hl6;obtain⟨kb,kl⟩:=K;dsimp only at o7 rd7 hkl HS ⊢;obtain⟨va7,vc7,rfl⟩:=o7.form;generalize hD:(!kb.bad&&kb.l.length==0)=D
   cases D
   ·have hbad:kb.bad=true∨kb.l.length≠0:=by
     cases hk:kb.bad
     ·right;intro h0;rw[hk,h0] at hD;cases hD
     ·left;rfl
    have E1:=aD (show R=none by rw[←HS.out,if_pos (.inl hbad)]);clear HS hkl hbad;go_upto_region 11 with (go_at_call 166;refine(dO p kb w7 rd7).mono ?_;rintro e w8 ⟨rfl,rfl⟩;rw[hD]);go_wp2_with (first|refine wpList_buildTo rfl _ _ rfl _ rfl (tk ⟨#[]⟩ (.slice none 0 0) 0 0 (fun _=>0)) (by kernel_rfl) ?_|refine wpList_store_rowTo rfl _ _ _ rfl rfl w.heap.size _ rfl rfl _ _ Z7 (bI _ _ _ _ _) (by simp only[tk_size]) (cR _ _ _ _ _ rfl) ?_)
    try simp only[Exit.inBlock,Exit.then,Exit.noGoto_ret]
    refine bodyPost_ret (aV rfl _ _ w.heap.size _ _ (0,0) _ rfl (Z7.row _).1 rfl rfl (bI _ _ _ _ _)) rfl ?_;rw[E1.out];exact eQ (bR _ Z7 G7 (Nat.le_refl _)) rfl
   ·have hkb:kb.bad=false∧kb.l.length=0:=by
     cases hk:kb.bad
     ·rw[hk] at hD;exact⟨rfl,by simpa using hD⟩
     ·rw[hk] at hD;cases hD
    have hkl:=hkl hkb.1;obtain⟨sr,sx⟩:=S;obtain⟨er,ex⟩:=E;dsimp only at HS ⊢;have HKB:=aD hkb;clear hkb
    by_cases hse:ex<sx
    ·have E1:=aD (show R=none by rw[←HS.out,if_pos (.inr (.inl hse))])
     clear HS;go_upto_region 11 with (go_at_call 166;refine(dO p kb w7 rd7).mono ?_;rintro e w8 ⟨rfl,rfl⟩;rw[hD])
     all_goals first|omega|skip
     go_wp2_with (first|refine wpList_buildTo rfl _ _ rfl _ rfl (tk ⟨#[]⟩ (.slice none 0 0) 0 0 (fun _=>0)) (by kernel_rfl) ?_|refine wpList_store_rowTo rfl _ _ _ rfl rfl w.heap.size _ rfl rfl _ _ Z7 (bI _ _ _ _ _) (by simp only[tk_size]) (cR _ _ _ _ _ rfl) ?_)
     try simp only[Exit.inBlock,Exit.then,Exit.noGoto_ret]
     refine bodyPost_ret (aV rfl _ _ w.heap.size _ _ (0,0) _ rfl (Z7.row _).1 rfl rfl (bI _ _ _ _ _)) rfl ?_;rw[E1.out];exact eQ (bR _ Z7 G7 (Nat.le_refl _)) rfl
    by_cases hmx:1099511627776<ex
    ·have E1:=aD (show R=none by rw[←HS.out,if_pos (.inr (.inr hmx))])
     clear HS;go_upto_region 11 with (go_at_call 166;refine(dO p kb w7 rd7).mono ?_;rintro e w8 ⟨rfl,rfl⟩;rw[hD])
     all_goals first|omega|skip
     go_wp2_with (first|refine wpList_buildTo rfl _ _ rfl _ rfl (tk ⟨#[]⟩ (.slice none 0 0) 0 0 (fun _=>0)) (by kernel_rfl) ?_|refine wpList_store_rowTo rfl _ _ _ rfl rfl w.heap.size _ rfl rfl _ _ Z7 (bI _ _ _ _ _) (by simp only[tk_size]) (cR _ _ _ _ _ rfl) ?_)
     try simp only[Exit.inBlock,Exit.then,Exit.noGoto_ret]
     refine bodyPost_ret (aV rfl _ _ w.heap.size _ _ (0,0) _ rfl (Z7.row _).1 rfl rfl (bI _ _ _ _ _)) rfl ?_;rw[E1.out];exact eQ (bR _ Z7 G7 (Nat.le_refl _)) rfl
    have E1:=aD (show R=some ⟨n,sx,ex,kl⟩ by
     rw[←HS.out,if_neg];rintro((h|h)|h|h)
     ·rw[HKB.out.1] at h;cases h
     ·exact h HKB.out.2
     ·exact hse h
     ·exact hmx h)
    clear HS;have hws:IntKind.i64.wrap (sx:Int)=(sx:Int):=by simp only[IntKind.wrap_i64];omega
    have hwe:IntKind.i64.wrap (ex:Int)=(ex:Int):=by simp only[IntKind.wrap_i64];omega
    have n0:=N7.cell (i:=0) rfl;have n1:=N7.cell (i:=1) rfl;go_upto_region 13 with (first|(go_at_call 166;refine(dO p kb w7 rd7).mono ?_;rintro e w8 ⟨rfl,rfl⟩;rw[hD])|refine wpList_buildTo rfl _ _ rfl _ rfl (tk q3 (.slice va3 ss3.length vc3) sx ex (fun _=>0)) (by kernel_rfl) ?_|refine wpList_store_rowTo rfl _ _ _ rfl rfl w7.heap.size _ rfl rfl _ _ (heap_alloc_new _ _) (bI _ _ _ _ _) (by rw[tk_size];rfl) (cR _ _ _ _ _ rfl) ?_)
    all_goals first|omega|skip
    have F:=dL w7 #[.string ⟨#[]⟩,.slice none 0 0,.int .i64 0,.int .i64 0,.int .u8 0,.int .u8 0,.int .u8 0,.int .u8 0,.int .u8 0,.int .u8 0,.int .u8 0,.int .u8 0,.int .u8 0,.int .u8 0,.int .u8 0,.int .u8 0,.int .u8 0,.int .u8 0,.int .u8 0,.int .u8 0] (tk q3 (.slice va3 ss3.length vc3) sx ex (fun _=>0)) 65;have K8:=aD (o7.below (aB F.2)).bs.rs;have KB8:=aD (show Aes.B8 (fun i=>kl.getD i 0) from fun i=>o7.1.get i);have Z8:=Z7.only F.2;have G8:=aF G7 F.2;have O8:=O7.below (aB F.2);have hz7:w.heap.size<w7.heap.size:=Z7.lt;have hlt7:∀b,(Value.slice va3 ss3.length vc3).ownBlock=some b→b<w7.heap.size:=fun b e=>(O7.lt b e).2
    have T8:=F.1;rw[hkl] at K8;clear Z7 N7 G7 n0 n1 O7 o7 hws hwe rd7;generalize World.setRow _ w7.heap.size _=V8 at*;generalize w7.heap.size=bt at*;clear F;go_upto_region 14 with (refine aDN rfl _ _ rfl bt q3 _ sx ex (fun _=>0) _ rfl T8 _ kl rfl K8.out hkl ?_;intro w9 T9 g9);have Z9:=Z8.keep g9 (by intro e;cases e;omega);have G9:=aO G8 g9 (Nat.le_of_lt hz7);have O9:=O8.only g9 (.inr (fun e=>by have:=hlt7 _ e;omega));clear Z8 G8 O8 T8 g9 K8;go_wp2_with (first|refine wpList_load_row rfl _ _ rfl bt rfl _ _ (0,0) _ T9 rfl rfl (bI _ _ _ _ _) ?_|refine wpList_store_rowTo rfl _ _ _ rfl rfl w.heap.size _ rfl rfl _ _ Z9 (bI _ _ _ _ _) (by simp only[tk_size]) (cR _ _ _ _ _ rfl) ?_)
    try simp only[Exit.inBlock,Exit.then,Exit.noGoto_ret]
    refine bodyPost_ret (aV rfl _ _ w.heap.size _ _ (0,0) _ rfl (Z9.row _).1 rfl rfl (bI _ _ _ _ _)) rfl ?_;rw[E1.out];refine⟨bR _ Z9 G9 (Nat.le_refl _),q3,_,ss3,sx,ex,fun i=>kl.getD i 0,rfl,?_,hq3,?_,?_⟩
    ·exact(O9.only (Z9.row _).2 (.inr (fun e=>by have:=(O9.lt _ e).1;omega))).mono hw2
    ·exact KB8.out
    ·show tic q3 ss3 sx ex (fun i=>kl.getD i 0)=_
     unfold tic;rw[hn3,aHY kl hkl];rfl
 ·have E1:=aD (show R=none by rw[←HR.out];exact Tic.parse_not1 h1)
  have hne:(((Wir.num ⟨l,false⟩ 1).2:Int)!=1)=true:=by rw[bne_iff_ne];omega
  generalize (Wir.num ⟨l,false⟩ 1).2=x1 at*;go_wp2_with (first|refine wpList_buildTo rfl _ _ rfl _ rfl (tk ⟨#[]⟩ (.slice none 0 0) 0 0 (fun _=>0)) (by kernel_rfl) ?_|refine wpList_store_rowTo rfl _ _ _ rfl rfl w.heap.size _ rfl rfl _ _ Z2 (bI _ _ _ _ _) (by simp only[tk_size]) (cR _ _ _ _ _ rfl) ?_)
  try simp only[Exit.inBlock,Exit.then,Exit.noGoto_ret]
  refine bodyPost_ret (aV rfl _ _ w.heap.size _ _ (0,0) _ rfl (Z2.row _).1 rfl rfl (bI _ _ _ _ _)) rfl ?_;rw[E1.out];exact eQ (bR _ Z2 G2 (Nat.le_refl _)) rfl
end Go.Proofs.YtcoolgnlhheaiaaGreatDoor
