import Derived.Deep.Cut
import Derived.Laws.Rows
import Derived.Test.YtcoolgnlhheaiaaGreatDoorG00
namespace Fld
def xt (a:Nat):Nat:=(2*a) ^^^ (283*(a / 128))
def gmF:Nat→Nat→Nat→Nat→Nat
 |0,p,_,_=>p
 |k+1,p,a,b=>gmF k (p ^^^ (a*(b % 2))) (xt a) (b / 2)
def gm (a b:Nat):Nat:=gmF 8 0 a b
def rmA:Nat→Nat→Nat→Nat
 |0,_,_=>0
 |k+1,a,b=>rmA k a b ^^^ (a*2 ^ k)*(b / 2 ^ k % 2)
def rmB:Nat→Nat→Nat
 |0,p=>p
 |j+1,p=>rmB j p ^^^ (283*2 ^ (6 - j))*(rmB j p / 2 ^ (14 - j) % 2)
def rm (a b:Nat):Nat:=rmB 7 (rmA 8 a b) % 256
theorem xor_lt (a b:Nat) (h:a<256) (h':b<256):a ^^^ b<256:=Nat.xor_lt_two_pow (n:=8) h h'
theorem xt_lt (a:Nat) (h:a<256):xt a<256:=by
 have:∀a,a<256→xt a<256:=by decide+kernel
 exact this a h
theorem mF (a b k:Nat):(a ^^^ b)*2 ^ k=a*2 ^ k ^^^ b*2 ^ k:=by
 have:=Nat.shiftLeft_xor_distrib (a:=a) (b:=b) (i:=k)
 simpa [Nat.shiftLeft_eq] using this
theorem sV (a b:Nat):2*(a ^^^ b)=2*a ^^^ 2*b:=by
 have:=mF a b 1
 simpa [Nat.mul_comm] using this
theorem mod_two_cases (a:Nat):a % 2=0∨a % 2=1:=by omega
theorem iK (a b:Nat):(a ^^^ b) % 2=(a % 2) ^^^ (b % 2):=Nat.xor_mod_two_pow (n:=1)
theorem aB0 (a b c d:Nat):(a ^^^ b) ^^^ (c ^^^ d)=(a ^^^ c) ^^^ (b ^^^ d):=by
 simp only[Nat.xor_assoc];rw[←Nat.xor_assoc b c d,Nat.xor_comm b c,Nat.xor_assoc]
theorem fR (c x y:Nat) (hx:x<2) (hy:y<2):c*(x ^^^ y)=c*x ^^^ c*y:=by
 have hx:x=0∨x=1:=by omega
 have hy:y=0∨y=1:=by omega
 rcases hx with rfl|rfl<;>rcases hy with rfl|rfl<;>simp
theorem aJH (a b:Nat) (ha:a<256) (hb:b<256):xt (a ^^^ b)=xt a ^^^ xt b:=by
 have h:(a ^^^ b) / 128=a / 128 ^^^ b / 128:=Nat.xor_div_two_pow (n:=7);unfold xt;rw[sV,h,fR _ _ _ (by omega) (by omega),aB0]
theorem aI3 (k p a b:Nat) (hp:p<256) (ha:a<256):gmF k p a b<256:=by
 induction k generalizing p a b with
 |zero=>exact hp
 |succ k ih=>
  unfold gmF;apply ih
  ·apply xor_lt _ _ hp
   rcases mod_two_cases b with h|h<;>rw[h]<;>omega
  ·exact xt_lt a ha
theorem gm_lt (a b:Nat) (ha:a<256):gm a b<256:=aI3 8 0 a b (by omega) ha
theorem gmF_zero (k p a:Nat):gmF k p a 0=p:=by
 induction k generalizing p a with
 |zero=>rfl
 |succ k ih=>unfold gmF;simp[ih]
theorem aGI (k p p' a a' b:Nat) (ha:a<256) (ha':a'<256):gmF k (p ^^^ p') (a ^^^ a') b=gmF k p a b ^^^ gmF k p' a' b:=by
 induction k generalizing p p' a a' b with
 |zero=>rfl
 |succ k ih=>
  unfold gmF;rw[←ih _ _ _ _ _ (xt_lt a ha) (xt_lt a' ha'),aJH a a' ha ha'];congr 1;rcases mod_two_cases b with h|h<;>rw[h]<;>simp[aB0]
theorem aC9 (k p p' a b b':Nat) (ha:a<256):gmF k (p ^^^ p') a (b ^^^ b')=gmF k p a b ^^^ gmF k p' a b':=by
 induction k generalizing p p' a b b' with
 |zero=>rfl
 |succ k ih=>
  unfold gmF;rw[←ih _ _ _ _ _ (xt_lt a ha),Nat.xor_div_two,iK,fR _ _ _ (by omega) (by omega),aB0]
theorem aHJ (a a' b:Nat) (ha:a<256) (ha':a'<256):gm (a ^^^ a') b=gm a b ^^^ gm a' b:=by
 have:=aGI 8 0 0 a a' b ha ha'
 simpa [gm] using this
theorem gm_right (a b b':Nat) (ha:a<256):gm a (b ^^^ b')=gm a b ^^^ gm a b':=by
 have:=aC9 8 0 0 a b b' ha
 simpa [gm] using this
theorem aFF (k a a' b:Nat):rmA k (a ^^^ a') b=rmA k a b ^^^ rmA k a' b:=by
 induction k with
 |zero=>simp[rmA]
 |succ k ih=>
  unfold rmA;rw[ih,mF];rcases mod_two_cases (b / 2 ^ k) with h|h<;>rw[h]<;>simp[aB0]
theorem aCS (k a b b':Nat):rmA k a (b ^^^ b')=rmA k a b ^^^ rmA k a b':=by
 induction k with
 |zero=>simp[rmA]
 |succ k ih=>
  unfold rmA;rw[ih,Nat.xor_div_two_pow,iK,fR _ _ _ (by omega) (by omega),aB0]
theorem zR (j p q:Nat):rmB j (p ^^^ q)=rmB j p ^^^ rmB j q:=by
 induction j with
 |zero=>rfl
 |succ j ih=>
  unfold rmB;rw[ih,Nat.xor_div_two_pow,iK,fR _ _ _ (by omega) (by omega),aB0]
theorem aHV (a a' b:Nat):rm (a ^^^ a') b=rm a b ^^^ rm a' b:=by
 unfold rm;rw[aFF,zR];exact Nat.xor_mod_two_pow (n:=8)
theorem aFR (a b b':Nat):rm a (b ^^^ b')=rm a b ^^^ rm a b':=by
 unfold rm;rw[aCS,zR];exact Nat.xor_mod_two_pow (n:=8)
theorem aAC (f g:Nat→Nat) (hf:∀a b,a<256→b<256→f (a ^^^ b)=f a ^^^ f b) (hg:∀a b,a<256→b<256→g (a ^^^ b)=g a ^^^ g b)
 (h:∀i,i<8→f (2 ^ i)=g (2 ^ i)) (a:Nat) (ha:a<256):f a=g a:=by
 have hlo:∀k,k<8→∀a,a<256→2 ^ k≤a→a<2 ^ (k+1)→a ^^^ 2 ^ k<2 ^ k:=by decide+kernel
 have key:∀k,k≤8→∀a,a<2 ^ k→f a=g a:=by
  intro k
  induction k with
  |zero=>
   intro _ a ha;have:a=0:=by omega
   subst this;have h1:=hf 0 0 (by omega) (by omega);have h2:=hg 0 0 (by omega) (by omega);simp at h1 h2;rw[h1,h2]
  |succ k ih=>
   intro hk a ha
   by_cases hl:a<2 ^ k
   ·exact ih (by omega) a hl
   ·have h8:2 ^ (k+1)≤2 ^ 8:=Nat.pow_le_pow_right (by omega) hk
    have ha8:a<256:=by omega
    have hx:=hlo k (by omega) a ha8 (by omega) ha;have h7:2 ^ k≤2 ^ 7:=Nat.pow_le_pow_right (by omega) (by omega);have e:a=(a ^^^ 2 ^ k) ^^^ 2 ^ k:=by rw[Nat.xor_assoc,Nat.xor_self,Nat.xor_zero]
    rw[e,hf _ _ (by omega) (by omega),hg _ _ (by omega) (by omega),ih (by omega) _ hx,h k (by omega)]
 exact key 8 (by omega) a ha
theorem rm_eq (a b:Nat) (ha:a<256) (hb:b<256):rm a b=gm a b:=by
 have h:∀i,i<8→∀j,j<8→rm (2 ^ i) (2 ^ j)=gm (2 ^ i) (2 ^ j):=by decide+kernel
 refine aAC (fun b=>rm a b) (fun b=>gm a b) (fun x y _ _=>aFR a x y) (fun x y _ _=>gm_right a x y ha) (fun j hj=>?_) b hb;exact aAC (fun a=>rm a (2 ^ j)) (fun a=>gm a (2 ^ j)) (fun x y _ _=>aHV x y _) (fun x y hx hy=>aHJ x y _ hx hy) (fun i hi=>h i hi j hj) a ha
theorem gm_one (a:Nat) (ha:a<256):gm a 1=a:=by
 have:∀a,a<256→gm a 1=a:=by decide+kernel
 exact this a ha
theorem rmA_lt (k a b:Nat) (hk:k≤8) (ha:a<256):rmA k a b<65536:=by
 induction k with
 |zero=>simp[rmA]
 |succ k ih=>
  have ih:=ih (by omega);have h2:2 ^ k≤2 ^ 7:=Nat.pow_le_pow_right (by omega) (by omega);have h3:a*2 ^ k<65536:=by
   have:=Nat.mul_le_mul (Nat.le_of_lt_succ ha) h2;omega
  unfold rmA;apply Nat.xor_lt_two_pow (n:=16) ih;rcases mod_two_cases (b / 2 ^ k) with h|h<;>rw[h]<;>omega
theorem rmB_lt (j p:Nat) (hj:j≤7) (hp:p<65536):rmB j p<65536:=by
 induction j with
 |zero=>exact hp
 |succ j ih=>
  have ih:=ih (by omega);have h2:2 ^ (6 - j)≤2 ^ 6:=Nat.pow_le_pow_right (by omega) (by omega);have h3:283*2 ^ (6 - j)<65536:=by omega
  unfold rmB;apply Nat.xor_lt_two_pow (n:=16) ih;rcases mod_two_cases (rmB j p / 2 ^ (14 - j)) with h|h<;>rw[h]<;>omega
def aKQ (a b c d e f g:Nat):Nat:=gm a (gm b (gm c (gm d (gm e (gm f g)))))
def aKK (a:Nat):Nat:=
 let a1:=gm a a
 let a2:=gm a1 a1
 let a3:=gm a2 a2
 let a4:=gm a3 a3
 let a5:=gm a4 a4
 let a6:=gm a5 a5
 let a7:=gm a6 a6
 aKQ a1 a2 a3 a4 a5 a6 a7
def inv (a:Nat):Nat:=aKK a
def abit (b i:Nat):Nat→Nat
 |0=>99 / 2 ^ i % 2+b / 2 ^ i % 2
 |n+1=>abit b i n+b / 2 ^ ((i+(n+4)) % 8) % 2
def affP (b:Nat):Nat→Nat
 |0=>0
 |i+1=>affP b i+abit b i 4 % 2*2 ^ i
def aff (b:Nat):Nat:=affP b 8
def sb (a:Nat):Nat:=aff (inv a)
theorem sb_lt (a:Nat) (h:a<256):sb a<256:=by
 have:∀a,a<256→sb a<256:=by decide+kernel
 exact this a h
def gml (a:Nat) (l:List Nat):Nat:=l.foldl gm a
theorem gml_lt (a:Nat) (l:List Nat) (ha:a<256):gml a l<256:=by
 unfold gml
 induction l generalizing a with
 |nil=>exact ha
 |cons b l ih=>exact ih _ (gm_lt a b ha)
theorem gml_snoc (a:Nat) (l:List Nat) (k:Nat) (h:k<l.length):gml a (l.take (k+1))=gm (gml a (l.take k)) (l.getD k 0):=by
 unfold gml;rw[List.take_succ_eq_append_getElem h,List.foldl_append];simp[List.getD,h]
attribute [irreducible] gm rm inv sb gml aff
end Fld
namespace Go.Proofs.YtcoolgnlhheaiaaGreatDoor
open Go.RowKit Go.Deep
set_option linter.all false
set_option maxRecDepth 100000
set_option maxHeartbeats 4000000
theorem aF1 (_k p a b:Nat) (hp:p<256) (ha:a<256) (hb:b<256) (h1:(bits BinOp.and IntKind.u8 (↑b) 1 !=0)=true):((p ^^^ (a*(b % 2)):Nat):Int)=bits BinOp.xor IntKind.u8 ↑p ↑a:=by
 have e:bits BinOp.and IntKind.u8 (↑b) 1=((b % 2:Nat):Int):=by
  have:=u8_and_nat b 1 hb (by omega);rw[←nat_mask1];exact this
 rw[e] at h1;have h:b % 2=1:=by
  rcases Fld.mod_two_cases b with h|h
  ·rw[h] at h1;simp at h1
  ·exact h
 rw[u8_xor_nat p a hp ha,h,Nat.mul_one]
theorem aDK (_k p a b:Nat) (hb:b<256) (h1:(bits BinOp.and IntKind.u8 (↑b) 1 !=0)=false):p ^^^ (a*(b % 2))=p:=by
 have e:bits BinOp.and IntKind.u8 (↑b) 1=((b % 2:Nat):Int):=by
  have:=u8_and_nat b 1 hb (by omega);rw[←nat_mask1];exact this
 rw[e] at h1;have h:b % 2=0:=by
  rcases Fld.mod_two_cases b with h|h
  ·exact h
  ·rw[h] at h1;simp at h1
 rw[h];simp
theorem aDH (a:Nat) (ha:a<256) (h:((a:Int) / 128 !=0)=true):((Fld.xt a:Nat):Int)=bits BinOp.xor IntKind.u8 (↑a*2 % 256) 27:=by
 have:∀a:Nat,a<256→((a:Int) / 128 !=0)=true→((Fld.xt a:Nat):Int)=bits BinOp.xor IntKind.u8 (↑a*2 % 256) 27:=by decide+kernel
 exact this a ha h
theorem aF5 (a:Nat) (ha:a<256) (h:((a:Int) / 128 !=0)=false):((Fld.xt a:Nat):Int)=↑a*2 % 256:=by
 have:∀a:Nat,a<256→((a:Int) / 128 !=0)=false→((Fld.xt a:Nat):Int)=↑a*2 % 256:=by decide+kernel
 exact this a ha h
def aAM (x y:Nat) (p a b:Value):Prop:=
 ∃k p' a' b':Nat,p= .int .u8 p'∧a= .int .u8 a'∧b= .int .u8 b'∧p'<256∧a'<256∧k≤8∧b'<2 ^ k∧Fld.gmF k p' a' b'=Fld.gm x y
theorem jN {x y k p' a' b':Nat} (ha:p'<256) (hb:a'<256) (hk:k≤8) (hlt:b'<2 ^ k) (h:Fld.gmF k p' a' b'=Fld.gm x y) (hn:(↑b' !=(0:Int))=true)
 {P A B:Int} (hP:((p' ^^^ (a'*(b' % 2)):Nat):Int)=P) (hA:((Fld.xt a':Nat):Int)=A) (hB:B=↑b' / 2):aAM x y (.int .u8 P) (.int .u8 A) (.int .u8 B):=by
 have hk0:k≠0:=by
  rintro rfl;have:b'=0:=by omega
  subst this;simp at hn
 obtain⟨j,rfl⟩:∃j,k=j+1:=⟨k - 1,by omega⟩;refine⟨j,p' ^^^ (a'*(b' % 2)),Fld.xt a',b' / 2,by rw[hP],by rw[hA],by rw[hB];rfl,?_,Fld.xt_lt _ hb,by omega,by omega,h⟩;apply Fld.xor_lt _ _ ha;rcases Fld.mod_two_cases b' with h|h<;>rw[h]<;>omega
theorem mH (x y:Int) (w:World) (hx:0≤x∧x<256) (hy:0≤y∧y<256):
 Calls Tryz.prog 321 #[.int .u8 x,.int .u8 y] w fun e w'=>e= .returned (.int .u8 ↑(Fld.gm x.toNat y.toNat))∧w=w':=by
 obtain⟨a,rfl⟩:=Int.eq_ofNat_of_zero_le hx.1;obtain⟨b,rfl⟩:=Int.eq_ofNat_of_zero_le hy.1;rw[Int.toNat_natCast,Int.toNat_natCast];have ha:a<256:=by omega
 have hb:b<256:=by omega
 clear hx hy;go_enter Tryz.func321,Tryz.ntmps321;go_wp2
 go_loop [5,0,1,6] (fun p a' b' _=>aAM a b p a' b') (fun _ _ b _=>(intOf b).toNat)
 case atStart=>exact⟨8,0,a,b,rfl,rfl,rfl,by omega,ha,by omega,hb,by unfold Fld.gm;rfl⟩
 case round=>
  obtain⟨k,p',a',b',rfl,rfl,rfl,hp',ha',hk,hb',h⟩:=hrel;have H:=aD h;clear h;have hb2:b'<256:=Nat.lt_of_lt_of_le hb' (Nat.pow_le_pow_right (n:=2) (by omega) hk);go_wp2
  ·go_round
   case rel=>exact jN hp' ha' hk hb' H.out ‹_› (aF1 k _ _ _ hp' ha' hb2 ‹_›) (aDH _ ha' ‹_›) rfl
   case measure=>simp[intOf];have:b'≠0:=(by rintro rfl;simp_all);omega
  ·go_round
   case rel=>exact jN hp' ha' hk hb' H.out ‹_› (aF1 k _ _ _ hp' ha' hb2 ‹_›) (aF5 _ ha' ‹_›) rfl
   case measure=>simp[intOf];have:b'≠0:=(by rintro rfl;simp_all);omega
  ·go_round
   case rel=>exact jN hp' ha' hk hb' H.out ‹_› (by rw[aDK k _ _ _ hb2 ‹_›]) (aDH _ ha' ‹_›) rfl
   case measure=>simp[intOf];have:b'≠0:=(by rintro rfl;simp_all);omega
  ·go_round
   case rel=>exact jN hp' ha' hk hb' H.out ‹_› (by rw[aDK k _ _ _ hb2 ‹_›]) (aF5 _ ha' ‹_›) rfl
   case measure=>simp[intOf];have:b'≠0:=(by rintro rfl;simp_all);omega
  ·go_ret
   have hz:b'=0:=by have h0:(((b':Nat):Int)!=0)=false:=by assumption
                    simp at h0;exact h0
   have:=H.out;rw[hz,Fld.gmF_zero] at this;exact⟨gQ (by rw[this]),rfl⟩
theorem i5 (a b:Nat) (ha:a<4294967296) (hb:b<4294967296):bits .xor .i64 (a:Int) (b:Int)=((a ^^^ b:Nat):Int):=by
 have hx:a ^^^ b<2 ^ 32:=Nat.xor_lt_two_pow (by omega) (by omega);have h1:(BitVec.ofInt 64 (a:Int)).toNat=a:=by
  rw[BitVec.ofInt_natCast,BitVec.toNat_ofNat];exact Nat.mod_eq_of_lt (by omega)
 have h2:(BitVec.ofInt 64 (b:Int)).toNat=b:=by
  rw[BitVec.ofInt_natCast,BitVec.toNat_ofNat];exact Nat.mod_eq_of_lt (by omega)
 show IntKind.i64.wrap ((BitVec.ofInt 64 (a:Int) ^^^ BitVec.ofInt 64 (b:Int)).toNat:Int)=_;rw[BitVec.toNat_xor,h1,h2,IntKind.wrap_i64];omega
theorem gZ (a:Nat) (ha:a<4294967296):bits .and .i64 (a:Int) 1=((a % 2:Nat):Int):=by
 have:=(bits_nat .i64 63 (by decide) (fun n h0 h1=>by rw[IntKind.wrap_i64];omega) a 1 (by omega) (by omega)).1;rw[←nat_mask1];exact this
theorem dF (b k:Nat):(b:Int) / 2 ^ k=((b / 2 ^ k:Nat):Int):=by
 rw[Int.natCast_ediv];simp
theorem zY (n:Nat) (h:(((n % 2:Nat):Int)==1)=true):n % 2=1:=by
 rcases Fld.mod_two_cases n with h'|h'
 ·rw[h'] at h;simp at h
 ·exact h'
theorem vR (n:Nat) (h:(((n % 2:Nat):Int)==1)=false):n % 2=0:=by
 rcases Fld.mod_two_cases n with h'|h'
 ·exact h'
 ·rw[h'] at h;simp at h
theorem aAZ (k a b:Nat) (hk:k<8) (ha:a<256) (hb:b<256) (h:(bits BinOp.and IntKind.i64 (↑b / 2 ^ k) 1==1)=true):
 bits .xor .i64 ↑(Fld.rmA k a b) (↑a*2 ^ k)=↑(Fld.rmA (k+1) a b):=by
 have hd:b / 2 ^ k≤b:=Nat.div_le_self _ _;rw[dF,gZ _ (by omega)] at h;have h1:b / 2 ^ k % 2=1:=zY _ h;have h2:2 ^ k≤2 ^ 7:=Nat.pow_le_pow_right (by omega) (by omega);have h3:a*2 ^ k≤255*2 ^ 7:=Nat.mul_le_mul (by omega) h2;have e:(a:Int)*2 ^ k=((a*2 ^ k:Nat):Int):=by simp
 have h4:=Fld.rmA_lt k a b (by omega) ha;rw[e,i5 _ _ (by omega) (by omega)];show _=(((Fld.rmA k a b ^^^ (a*2 ^ k)*(b / 2 ^ k % 2)):Nat):Int);rw[h1,Nat.mul_one]
theorem aBD (k a b:Nat) (hb:b<256) (h:(bits BinOp.and IntKind.i64 (↑b / 2 ^ k) 1==1)=false):
 Fld.rmA k a b=Fld.rmA (k+1) a b:=by
 have hd:b / 2 ^ k≤b:=Nat.div_le_self _ _;rw[dF,gZ _ (by omega)] at h;have h1:b / 2 ^ k % 2=0:=vR _ h;show _=(Fld.rmA k a b ^^^ (a*2 ^ k)*(b / 2 ^ k % 2));rw[h1];simp
theorem aCU (j p:Nat) (hj:j<7) (hp:p<65536) (h:(bits BinOp.and IntKind.i64 (↑(Fld.rmB j p) / 2 ^ (14 - j)) 1==1)=true):
 bits .xor .i64 ↑(Fld.rmB j p) (283*2 ^ (14 - j - 8))=↑(Fld.rmB (j+1) p):=by
 have h4:=Fld.rmB_lt j p (by omega) hp;have hd:Fld.rmB j p / 2 ^ (14 - j)≤Fld.rmB j p:=Nat.div_le_self _ _;rw[dF,gZ _ (by omega)] at h;have h1:Fld.rmB j p / 2 ^ (14 - j) % 2=1:=zY _ h;have h2:2 ^ (6 - j)≤2 ^ 6:=Nat.pow_le_pow_right (by omega) (by omega);have e:(283:Int)*2 ^ (14 - j - 8)=((283*2 ^ (6 - j):Nat):Int):=by rw[show 14 - j - 8=6 - j by omega];simp
 rw[e,i5 _ _ (by omega) (by omega)];show _=(((Fld.rmB j p ^^^ (283*2 ^ (6 - j))*(Fld.rmB j p / 2 ^ (14 - j) % 2)):Nat):Int);rw[h1,Nat.mul_one]
theorem aCF (j p:Nat) (hj:j<7) (hp:p<65536) (h:(bits BinOp.and IntKind.i64 (↑(Fld.rmB j p) / 2 ^ (14 - j)) 1==1)=false):
 Fld.rmB j p=Fld.rmB (j+1) p:=by
 have h4:=Fld.rmB_lt j p (by omega) hp;have hd:Fld.rmB j p / 2 ^ (14 - j)≤Fld.rmB j p:=Nat.div_le_self _ _;rw[dF,gZ _ (by omega)] at h;have h1:Fld.rmB j p / 2 ^ (14 - j) % 2=0:=vR _ h;show _=(Fld.rmB j p ^^^ (283*2 ^ (6 - j))*(Fld.rmB j p / 2 ^ (14 - j) % 2));rw[h1];simp
theorem wX (x y:Int) (w:World) (hx:0≤x∧x<256) (hy:0≤y∧y<256):
 Calls Tryz.prog 288 #[.int .u8 x,.int .u8 y] w fun e w'=>e= .returned (.int .u8 ↑(Fld.rm x.toNat y.toNat))∧w=w':=by
 obtain⟨a,rfl⟩:=Int.eq_ofNat_of_zero_le hx.1;obtain⟨b,rfl⟩:=Int.eq_ofNat_of_zero_le hy.1;rw[Int.toNat_natCast,Int.toNat_natCast];have ha:a<256:=by omega
 have hb:b<256:=by omega
 clear hx hy;go_enter Tryz.func288,Tryz.ntmps288;go_wp2
 go_loop [5,6] (fun p i=>∃k:Nat,k≤8∧i= .int .i64 k∧p= .int .i64 ↑(Fld.rmA k a b)) (fun _ i=>8 - (intOf i).toNat)
 case atStart=>exact⟨0,by omega,rfl,rfl⟩
 case round=>
  obtain⟨k,hk,rfl,rfl⟩:=hrel;have hz:=Fld.rmA_lt k a b hk ha
  by_cases hlt:k<8
  ·have h3:(a:Int)*2 ^ k≤32640:=by
    have h2:2 ^ k≤2 ^ 7:=Nat.pow_le_pow_right (by omega) (by omega);have h3:a*2 ^ k≤255*2 ^ 7:=Nat.mul_le_mul (by omega) h2;have e:(a:Int)*2 ^ k=((a*2 ^ k:Nat):Int):=by simp
    rw[e];omega
   have h0:0≤(a:Int)*2 ^ k:=by
    have e:(a:Int)*2 ^ k=((a*2 ^ k:Nat):Int):=by simp
    rw[e];omega
   go_wp2
   ·go_round
    case rel=>exact⟨k+1,by omega,by go_num,by rw[aAZ k a b hlt ha hb ‹_›]⟩
    case measure=>simp[intOf];omega
   ·go_round
    case rel=>exact⟨k+1,by omega,by go_num,by rw[aBD k a b hb ‹_›]⟩
    case measure=>simp[intOf];omega
  ·obtain rfl:k=8:=by omega
   clear hlt hk;go_wp2
   go_loop [5,7] (fun p i=>∃j:Nat,j≤7∧i= .int .i64 (14 - j)∧p= .int .i64 ↑(Fld.rmB j (Fld.rmA 8 a b))) (fun _ i=>(intOf i).toNat)
   case atStart=>exact⟨0,by omega,rfl,rfl⟩
   case round=>
    obtain⟨j,hj,rfl,rfl⟩:=hrel;have hz2:=Fld.rmB_lt j _ hj hz
    by_cases hlt:j<7
    ·have h3:(283:Int)*2 ^ (14 - j - 8)≤18112:=by
      have h2:2 ^ (6 - j)≤2 ^ 6:=Nat.pow_le_pow_right (by omega) (by omega);have e:(283:Int)*2 ^ (14 - j - 8)=((283*2 ^ (6 - j):Nat):Int):=by rw[show 14 - j - 8=6 - j by omega];simp
      rw[e];omega
     have h0:0≤(283:Int)*2 ^ (14 - j - 8):=by
      have e:(283:Int)*2 ^ (14 - j - 8)=((283*2 ^ (6 - j):Nat):Int):=by rw[show 14 - j - 8=6 - j by omega];simp
      rw[e];omega
     go_wp2
     ·go_round
      case rel=>exact⟨j+1,by omega,by congr 1;omega,by rw[aCU j _ hlt hz ‹_›]⟩
      case measure=>simp[intOf];omega
     ·go_round
      case rel=>exact⟨j+1,by omega,by congr 1;omega,by rw[aCF j _ hlt hz ‹_›]⟩
      case measure=>simp[intOf];omega
    ·obtain rfl:j=7:=by omega
     clear hlt hj;go_wp2;go_ret;exact⟨gQ (by unfold Fld.rm;omega),rfl⟩
theorem xF (s:ByteArray) (f:Nat→Nat) (hs:s.data.toList.map UInt8.toNat=(List.range 256).map f) (a:Nat) (ha:a<256) (h:a<s.size):((s[a].toNat:Nat):Int)=↑(f a):=by
 have h':a<(s.data.toList.map UInt8.toNat).length:=by simpa using h
 have e:(s.data.toList.map UInt8.toNat)[a]=s[a].toNat:=by
  rw[List.getElem_map];rfl
 rw[←e];congr 1;have e2:(s.data.toList.map UInt8.toNat)[a]? =((List.range 256).map f)[a]? :=by rw[hs]
 rw[List.getElem?_eq_getElem h'] at e2;simp[ha] at e2
 simpa using e2
theorem aAP (x:Int) (w:World) (hx:0≤x∧x<256):
 Calls Tryz.prog 318 #[.int .u8 x] w fun e w'=>e= .returned (.int .u8 ↑(Fld.sb x.toNat))∧w=w':=by
 obtain⟨a,rfl⟩:=Int.eq_ofNat_of_zero_le hx.1;rw[Int.toNat_natCast];have ha:a<256:=by omega
 clear hx;go_enter Tryz.func318,Tryz.ntmps318;go_wp2;go_ret;refine⟨gQ (xF _ Fld.sb ?_ a ha _),rfl⟩
 decide+kernel
theorem aID (x:Int) (l:List Nat) (b off c:Nat) (w:World) (hx:0≤x∧x<256) (hl:∀i,i<l.length→w.cell? ⟨b,off+i,none⟩=some (.int .u8 ↑(l.getD i 0))) (hb:∀i,l.getD i 0<256) (hn:l.length≤1000000):
 Calls Tryz.prog 319 #[.int .u8 x,.slice (some ⟨b,off,none⟩) l.length c] w fun e w'=>e= .returned (.int .u8 ↑(Fld.gml x.toNat l))∧w=w':=by
 obtain⟨a,rfl⟩:=Int.eq_ofNat_of_zero_le hx.1;rw[Int.toNat_natCast];have ha:a<256:=by omega
 clear hx;obtain⟨n,hnl⟩:∃n,n=l.length:=⟨_,rfl⟩;rw[←hnl] at hl hn ⊢;have HN:=aD hnl;clear hnl;have HL:=aD hl;clear hl;have HB:=aD hb;clear hb;go_enter Tryz.func319,Tryz.ntmps319;go_wp2_with fail
 go_loop [0,6,9] (fun p _ i=>∃k:Nat,k≤n∧i= .int .i64 k∧p= .int .u8 ↑(Fld.gml a (l.take k))) (fun _ _ i=>n - (intOf i).toNat)
 case atStart=>exact⟨0,by omega,rfl,by simp[Fld.gml]⟩
 case round=>
  obtain⟨k,hk,rfl,rfl⟩:=hrel;have hz:=Fld.gml_lt a (l.take k) ha
  by_cases hlt:k<n
  ·have hc:=HL.out k hlt
   have hbk:=HB.out k;have hs:=aD (Fld.gml_snoc a l k (by rw[←HN.out];exact hlt));generalize l.getD k 0=v at hc hbk hs;go_wp2_with fail;refine(mH _ _ _ (by omega) (by omega)).mono ?_;rintro e w' ⟨rfl,rfl⟩;rw[Int.toNat_natCast,Int.toNat_natCast,←hs.out];go_wp2_with fail
   go_round
   case rel=>exact⟨k+1,by omega,by go_num,rfl⟩
   case measure=>simp[intOf];omega
  ·obtain rfl:k=n:=by omega
   go_wp2_with fail;go_ret;exact⟨gQ (by rw[List.take_of_length_le (by rw[HN.out];exact Nat.le_refl _)]),rfl⟩
theorem aH8 (b i n:Nat):Fld.abit b i n≤n+2:=by
 induction n with
 |zero=>unfold Fld.abit;omega
 |succ n ih=>unfold Fld.abit;omega
theorem aAJ (b i:Nat):Fld.affP b i<2 ^ i:=by
 induction i with
 |zero=>simp[Fld.affP]
 |succ i ih=>
  unfold Fld.affP;rw[Nat.pow_succ];rcases Fld.mod_two_cases (Fld.abit b i 4) with h|h<;>rw[h]<;>omega
theorem oQ (x:Int) (w:World) (hx:0≤x∧x<256):
 Calls Tryz.prog 289 #[.int .i64 x] w fun e w'=>e= .returned (.int .u8 ↑(Fld.aff x.toNat))∧w=w':=by
 obtain⟨a,rfl⟩:=Int.eq_ofNat_of_zero_le hx.1;rw[Int.toNat_natCast];have ha:a<256:=by omega
 clear hx;go_enter Tryz.func289,Tryz.ntmps289;go_wp2_with fail
 go_loop [3,4,5,6] (fun o i _ _=>∃k:Nat,k≤8∧i= .int .i64 k∧o= .int .i64 ↑(Fld.affP a k)) (fun _ i _ _=>8 - (intOf i).toNat)
 case atStart=>exact⟨0,by omega,rfl,rfl⟩
 case round=>
  obtain⟨k,hk,rfl,rfl⟩:=hrel
  by_cases hlt:k<8
  ·have e1:bits .and .i64 ((99:Int) / 2 ^ k) 1=((99 / 2 ^ k % 2:Nat):Int):=by
    have hd:99 / 2 ^ k≤99:=Nat.div_le_self _ _;have:=gZ (99 / 2 ^ k) (by omega);rw[←this,←dF];rfl
   have e2:bits .and .i64 ((a:Int) / 2 ^ k) 1=((a / 2 ^ k % 2:Nat):Int):=by
    have hd:a / 2 ^ k≤a:=Nat.div_le_self _ _;rw[dF,gZ _ (by omega)]
   have b1:99 / 2 ^ k % 2<2:=by omega
   have b2:a / 2 ^ k % 2<2:=by omega
   have hs:((99 / 2 ^ k % 2:Nat):Int)+((a / 2 ^ k % 2:Nat):Int)=((Fld.abit a k 0:Nat):Int):=by unfold Fld.abit;rw[Int.natCast_add]
   have HS:=aD hs;clear hs;go_wp2_with fail;clear e1 e2 b1 b2
   go_loop [5,6] (fun x j=>∃n:Nat,n≤4∧j= .int .i64 (4+n)∧x= .int .i64 ↑(Fld.abit a k n)) (fun _ j=>8 - (intOf j).toNat)
   case atStart=>exact⟨0,by omega,rfl,by rw[←HS.out];congr 1⟩
   case round=>
    obtain⟨n,hn,rfl,rfl⟩:=hrel;have hab:=aH8 a k n
    by_cases hln:n<4
    ·have e3:bits .and .i64 ((a:Int) / 2 ^ ((k+(4+n)) % 8)) 1=((a / 2 ^ ((k+(n+4)) % 8) % 2:Nat):Int):=by
      rw[Nat.add_comm n 4];have hd:a / 2 ^ ((k+(4+n)) % 8)≤a:=Nat.div_le_self _ _;rw[dF,gZ _ (by omega)]
     have b3:a / 2 ^ ((k+(n+4)) % 8) % 2<2:=by omega
     go_wp2_with fail
     go_round
     case rel=>exact⟨n+1,by omega,by congr 1,by show _=Value.int .i64 ((Fld.abit a k n+a / 2 ^ ((k+(n+4)) % 8) % 2:Nat):Int);congr 1⟩
     case measure=>simp[intOf];omega
    ·obtain rfl:n=4:=by omega
     have hp:=aAJ a k;have h2:2 ^ k≤2 ^ 7:=Nat.pow_le_pow_right (by omega) (by omega);have hp2:Fld.affP a k<128:=by omega
     have e:(Fld.abit a k 4:Int) % 2*2 ^ k=((Fld.abit a k 4 % 2*2 ^ k:Nat):Int):=by simp
     have h3:(Fld.abit a k 4:Int) % 2*2 ^ k≤128:=by
      rw[e];rcases Fld.mod_two_cases (Fld.abit a k 4) with h|h<;>rw[h]<;>omega
     have h0:0≤(Fld.abit a k 4:Int) % 2*2 ^ k:=by rw[e];omega
     have E:=aD e;clear e hp h2;go_wp2_with fail
     go_round
     case rel=>exact⟨k+1,by omega,by go_num,by rw[E.out];rfl⟩
     case measure=>simp[intOf];omega
  ·obtain rfl:k=8:=by omega
   have hb:=aAJ a 8;have hb2:Fld.affP a 8<256:=hb;clear hb;go_wp2_with fail;go_ret;exact⟨gQ (by unfold Fld.aff;rfl),rfl⟩
def uL (a b:Nat→Nat):Nat→Nat
 |0=>0
 |k+1=>uL a b k ^^^ Fld.gm (b k) (a k)
theorem zO (a b:Nat→Nat) (hb:∀i,b i<256) (k:Nat):uL a b k<256:=by
 induction k with
 |zero=>exact(by decide:(0:Nat)<256)
 |succ k ih=>exact Fld.xor_lt _ _ ih (Fld.gm_lt _ _ (hb k))
theorem aG7 (a b:Nat→Nat) (w:World) (ha:∀i,a i<256) (hb:∀i,b i<256):
 Calls Tryz.prog 323 #[.agg #[.int .u8 ↑(a 0),.int .u8 ↑(a 1),.int .u8 ↑(a 2),.int .u8 ↑(a 3)],.agg #[.int .u8 ↑(b 0),.int .u8 ↑(b 1),.int .u8 ↑(b 2),.int .u8 ↑(b 3)]] w fun e w'=>
  e= .returned (.int .u8 ↑(uL a b 4))∧Below w.heap.size w w':=by
 have HA:=aD ha;clear ha;have HB:=aD hb;clear hb;go_enter Tryz.func323,Tryz.ntmps323;go_wp2_with fail
 go_loopw [5,6,7] (fun p _ i wr=>∃k:Nat,k≤4∧i= .int .i64 k∧p= .int .u8 ↑(uL a b k)∧Below w.heap.size w wr∧wr.rowIs w.heap.size 428 4 (fun i=>.int .u8 ↑(a i))∧wr.rowIs (w.heap.size+1) 428 4 (fun i=>.int .u8 ↑(b i))) (fun _ _ i _=>4 - (intOf i).toNat)
 case atStart=>
  refine⟨0,by omega,rfl,rfl,((Below.refl _ _).alloc (Nat.le_refl _) _).alloc (by simp) _,World.rowIs.alloc (World.rowIs_alloc w _ _ _ ?_) _,?_⟩
  ·intro i hi
   have hi:i<4:=hi;obtain rfl|rfl|rfl|rfl:i=0∨i=1∨i=2∨i=3:=by omega
   all_goals rfl
  ·have:=World.rowIs_alloc (w.alloc (.cells #[.int .u8 ↑(a 0),.int .u8 ↑(a 1),.int .u8 ↑(a 2),.int .u8 ↑(a 3)] 428)) #[.int .u8 ↑(b 0),.int .u8 ↑(b 1),.int .u8 ↑(b 2),.int .u8 ↑(b 3)] 428 (fun i=>.int .u8 ↑(b i)) (by
    intro i hi;have hi:i<4:=hi;obtain rfl|rfl|rfl|rfl:i=0∨i=1∨i=2∨i=3:=by omega
    all_goals rfl)
   simpa using this
 case round=>
  obtain⟨k,hk,rfl,rfl,hbl,hra,hrb⟩:=hrel
  by_cases hlt:k<4
  ·have ca:=hra.cell hlt
   have cb:=hrb.cell hlt;have HRA:=aD hra;clear hra;have HRB:=aD hrb;clear hrb;have HBL:=aD hbl;clear hbl;have ba:=HA.out k;have bb:=HB.out k;go_wp2_with fail;go_quiet ((go_at_call 321;exact eH (mH _ _ _ (by omega) (by omega))));go_wp2_with fail;go_roundw
   case rel=>exact⟨k+1,by omega,by go_num,by rw[u8_xor_nat _ _ (zO a b HB.out k) (Fld.gm_lt _ _ bb)];rfl,aU HBL.out _,mA HRA.out _,mA HRB.out _⟩
   case measure=>simp[intOf];omega
  ·obtain rfl:k=4:=by omega
   have HBL:=aD hbl;clear hbl;clear hra hrb;go_wp2_with fail;go_ret;exact⟨rfl,HBL.out⟩
end Go.Proofs.YtcoolgnlhheaiaaGreatDoor
namespace Go.Proofs.YtcoolgnlhheaiaaGreatDoor
set_option linter.all false
set_option maxRecDepth 100000
set_option maxHeartbeats 4000000
namespace Aes
def B8 (f:Nat→Nat):Prop:=∀i,f i<256
def xor (f g:Nat→Nat) (i:Nat):Nat:=f i ^^^ g i
theorem xor_b8 {f g:Nat→Nat} (hf:B8 f) (hg:B8 g):B8 (xor f g):=fun i=>Fld.xor_lt _ _ (hf i) (hg i)
def sr (b:Nat→Nat) (i:Nat):Nat:=Fld.sb (b (i % 4+4*((i / 4+i % 4) % 4)))
theorem sr_b8 {b:Nat→Nat} (hb:B8 b):B8 (sr b):=fun _=>Fld.sb_lt _ (hb _)
def mx (n b:Nat→Nat) (i:Nat):Nat:=uL n (fun k=>b ((i % 4+k) % 4+4*(i / 4))) 4
theorem mx_b8 {n b:Nat→Nat} (hb:B8 b):B8 (mx n b):=fun _=>zO _ _ (fun _=>hb _) 4
def n4 (a b c d:Nat) (i:Nat):Nat:=match i with|0=>a|1=>b|2=>c|3=>d|_=>0
def mixN:Nat→Nat:=n4 2 3 1 1
theorem n4_b8 {a b c d:Nat} (ha:a<256) (hb:b<256) (hc:c<256) (hd:d<256):B8 (n4 a b c d):=fun i=>by
 unfold n4;split<;>first|assumption|omega
def round (b k:Nat→Nat) (last:Bool) (i:Nat):Nat:=(if last then sr b else mx mixN (sr b)) i ^^^ k i
theorem round_b8 {b k:Nat→Nat} (hb:B8 b) (hk:B8 k) (last:Bool):B8 (round b k last):=fun i=>Fld.xor_lt _ _ (by split;exact sr_b8 hb i;exact mx_b8 (sr_b8 hb) i) (hk i)
def c0 (b:Nat→Nat) (p r:Nat):Nat:=match r with|0=>Fld.sb (b 13) ^^^ p|1=>Fld.sb (b 14)|2=>Fld.sb (b 15)|_=>Fld.sb (b 12)
def kc (b:Nat→Nat) (p j:Nat):Nat:=
 if j<4 then c0 b p j ^^^ b j else if j<8 then c0 b p (j - 4) ^^^ b (j - 4) ^^^ b j else if j<12 then c0 b p (j - 8) ^^^ b (j - 8) ^^^ b (j - 4) ^^^ b j else if j<16 then c0 b p (j - 12) ^^^ b (j - 12) ^^^ b (j - 8) ^^^ b (j - 4) ^^^ b j else 0
def pwr:Nat→Nat
 |0=>1
 |i+1=>Fld.gm (pwr i) 2
theorem pwr_lt (i:Nat):pwr i<256:=by
 induction i with
 |zero=>decide
 |succ i ih=>exact Fld.gm_lt _ _ ih
def ks (key:Nat→Nat):Nat→Nat→Nat
 |0=>key
 |i+1=>kc (ks key i) (pwr i)
theorem c0_lt {b:Nat→Nat} (hb:B8 b) {p:Nat} (hp:p<256) (r:Nat):c0 b p r<256:=by
 unfold c0;split
 ·exact Fld.xor_lt _ _ (Fld.sb_lt _ (hb _)) hp
 all_goals exact Fld.sb_lt _ (hb _)
theorem kc_b8 {b:Nat→Nat} (hb:B8 b) {p:Nat} (hp:p<256):B8 (kc b p):=fun j=>by
 have hc:=c0_lt hb hp;unfold kc;split
 ·exact Fld.xor_lt _ _ (hc _) (hb _)
 split
 ·exact Fld.xor_lt _ _ (Fld.xor_lt _ _ (hc _) (hb _)) (hb _)
 split
 ·exact Fld.xor_lt _ _ (Fld.xor_lt _ _ (Fld.xor_lt _ _ (hc _) (hb _)) (hb _)) (hb _)
 split
 ·exact Fld.xor_lt _ _ (Fld.xor_lt _ _ (Fld.xor_lt _ _ (Fld.xor_lt _ _ (hc _) (hb _)) (hb _)) (hb _)) (hb _)
 ·omega
theorem ks_b8 {key:Nat→Nat} (hk:B8 key):∀i,B8 (ks key i)
 |0=>hk
 |i+1=>kc_b8 (ks_b8 hk i) (pwr_lt i)
theorem kc_low (b:Nat→Nat) (p j:Nat) (h:j<4):kc b p j=c0 b p j ^^^ b j:=by unfold kc;rw[if_pos h]
theorem kc_high (b:Nat→Nat) (p j:Nat) (h:4≤j) (h':j<16):kc b p j=kc b p (j - 4) ^^^ b j:=by
 unfold kc;have n4:¬j<4:=by omega
 by_cases h8:j<8
 ·have a:j - 4<4:=by omega
  simp only[n4,h8,a,if_true,if_false]
 ·have a:¬j - 4<4:=by omega
  by_cases h12:j<12
  ·have b:j - 4<8:=by omega
   have e:j - 4 - 4=j - 8:=by omega
   simp only[n4,h8,h12,a,b,e,if_true,if_false]
  ·have b:¬j - 4<8:=by omega
   have c:j - 4<12:=by omega
   have e:j - 4 - 4=j - 8:=by omega
   have f:j - 4 - 8=j - 12:=by omega
   simp only[n4,h8,h12,h',a,b,c,e,f,if_true,if_false]
def st (key block:Nat→Nat):Nat→Nat→Nat
 |0=>xor block (ks key 0)
 |i+1=>round (st key block i) (ks key (i+1)) (i+1==10)
def enc (key block:Nat→Nat):Nat→Nat:=st key block 10
theorem st_b8 {key block:Nat→Nat} (hk:B8 key) (hb:B8 block):∀i,B8 (st key block i)
 |0=>xor_b8 hb (ks_b8 hk 0)
 |i+1=>round_b8 (st_b8 hk hb i) (ks_b8 hk (i+1)) _
theorem enc_b8 {key block:Nat→Nat} (hk:B8 key) (hb:B8 block):B8 (enc key block):=st_b8 hk hb 10
theorem gm_2:∀a,a<256→Fld.gm a 2=Fld.xt a:=by
 have h:((List.range 256).all fun a=>Fld.gm a 2==Fld.xt a)=true:=by decide+kernel
 intro a ha
 simpa using List.all_eq_true.1 h a (by simpa using ha)
theorem gm_3 (a:Nat) (ha:a<256):Fld.gm a 3=Fld.xt a ^^^ a:=by
 rw[show 3=2 ^^^ 1 by rfl,Fld.gm_right a 2 1 ha,gm_2 a ha,Fld.gm_one a ha]
end Aes
end Go.Proofs.YtcoolgnlhheaiaaGreatDoor
namespace Go.Proofs.YtcoolgnlhheaiaaGreatDoor
set_option linter.all false
set_option maxRecDepth 100000
set_option maxHeartbeats 4000000
namespace Aes
end Aes
end Go.Proofs.YtcoolgnlhheaiaaGreatDoor
namespace Go.Proofs.YtcoolgnlhheaiaaGreatDoor
open Go.RowKit Go.Deep
set_option linter.all false
set_option maxRecDepth 100000
set_option maxHeartbeats 4000000
theorem a8 (f:Nat→Nat):((Tryz.prog).info? 22).map (·.size)=some (aH .u8 16 f).size:=by rw[aA];rfl
def dR (f g:Nat→Nat) (j t:Nat):Nat:=if t<j then g t else f t
def XI (f g:Nat→Nat) (w wr:World) (j:Nat):Prop:=
 Below w.heap.size w wr∧isArr wr w.heap.size 22 .u8 16 (dR f (Aes.xor f g) j)∧isArr wr (w.heap.size+1) 22 .u8 16 g∧isArr wr (w.heap.size+2) 22 .u8 16 (fun _=>0)
theorem lW (f g:Nat→Nat) (j:Nat) (t:Nat):(if t=j then g j else dR f g j t)=dR f g (j+1) t:=by
 unfold dR
 by_cases e:t=j
 ·subst e;simp
 ·rw[if_neg e]
  by_cases e2:t<j
  ·rw[if_pos e2,if_pos (by omega)]
  ·rw[if_neg e2,if_neg (by omega)]
theorem XI.set {f g:Nat→Nat} {w wr:World} {j:Nat} (h:XI f g w wr j) (n:Nat):XI f g w ((wr.drewN n).setCell ⟨w.heap.size,j,none⟩ (.int .u8 ((f j ^^^ g j:Nat):Int))) (j+1):=
 ⟨bM (aU h.1 n) (Nat.le_refl _) _ _,((h.2.1.drewN n).set j _).congr fun t _=>lW f (Aes.xor f g) j t,(h.2.2.1.drewN n).setOther (by omega) _ _,(h.2.2.2.drewN n).setOther (by omega) _ _⟩
theorem lR (k:IntKind) (n i:Nat) (h:i<n):(Array.replicate n (Value.int k 0))[i]? =some (.int k ((0:Nat):Int)):=by simp[h]
theorem j9 (f g:Nat→Nat) (w:World) (hf:Aes.B8 f) (hg:Aes.B8 g):Calls Tryz.prog 316 #[.agg (aH .u8 16 f),.agg (aH .u8 16 g)] w fun e w'=>e= .returned (.agg (aH .u8 16 (Aes.xor f g)))∧Below w.heap.size w w':=by
 have HF:=aD hf;clear hf;have HG:=aD hg;clear hg;have hsz:=aA .u8 16 f;have hsz2:=aA .u8 16 g;go_enter Tryz.func316,Tryz.ntmps316;go_upto_region 1 with fail;generalize hW:((World.alloc _ _).alloc _:World)=W;have INV:XI f g w W 0:=by
  rw[←hW];have z1:w.heap.size+1=(w.alloc (Obj.cells (aH IntKind.u8 16 f) 22)).heap.size:=by simp
  have z2:w.heap.size+2=((w.alloc (Obj.cells (aH IntKind.u8 16 f) 22)).alloc (Obj.cells (aH IntKind.u8 16 g) 22)).heap.size:=by simp
  refine⟨(((Below.refl _ _).alloc (Nat.le_refl _) _).alloc (by simp) _).alloc (by simp;omega) _,?_,?_,?_⟩
  ·exact(((aN w _ _ _ _).alloc _).alloc _).congr fun i _=>by unfold dR;rw[if_neg (Nat.not_lt_zero _)]
  ·rw[z1];exact(aN _ _ _ _ _).alloc _
  ·rw[z2];exact cM _ _ _ _ _ _ (by first|rfl|simp) (fun i hi=>by first|exact lR _ _ _ hi|(obtain rfl|rfl|rfl|rfl|rfl|rfl|rfl|rfl|rfl|rfl|rfl|rfl|rfl|rfl|rfl|rfl:i=0∨i=1∨i=2∨i=3∨i=4∨i=5∨i=6∨i=7∨i=8∨i=9∨i=10∨i=11∨i=12∨i=13∨i=14∨i=15:=by omega)<;>rfl)
 have I0:=aD INV;clear hW INV;go_wp2_with fail
 go_loopw [5,6] (fun _ i wr=>∃j:Nat,j≤16∧i= .int .i64 j∧XI f g w wr j) (fun _ i _=>16 - (intOf i).toNat)
 case atStart=>exact⟨0,by omega,rfl,I0.out⟩
 case round=>
  clear I0;obtain⟨j,hj,rfl,hinv⟩:=hrel
  by_cases hlt:j<16
  ·have hd:decide ((j:Int)<16)=true:=by simp;omega
   have c0:=hinv.2.1.cell (i:=j) hlt;have f0:=hinv.2.1.frozen j;have c1:=hinv.2.2.1.cell (i:=j) hlt;rw[show dR f (Aes.xor f g) j j=f j by unfold dR;rw[if_neg (Nat.lt_irrefl _)]] at c0;have I7:=aD (fun n=>hinv.set n);have hx:=u8_xor_nat _ _ (HF.out j) (HG.out j);clear hinv;generalize f j=p at c0 I7 hx;generalize g j=q at c1 I7 hx;have lm:(j:Int)<16:=by omega
   have nm:0≤(j:Int):=by omega
   have HX:=aD hx;clear hx;go_wp2_with fail;go_still_tail 8,(by kernel_rfl);change wpList _ _ _ _ _ (wr.drewN 1);have c2:(wr.drewN 1).cell? ⟨w.heap.size,j,none⟩=some (.int .u8 (p:Int)):=c0;have f2:(wr.drewN 1).frozen? ⟨w.heap.size,j,none⟩=false:=f0;have I8:=aD (I7.out 1);clear I7 c0 f0 c1;generalize wr.drewN 1=wd at c2 f2 I8 ⊢;rw[HX.out];go_wp2_with fail;go_roundw
   case rel=>exact⟨j+1,by omega,by go_num,I8.out⟩
   case measure=>simp[intOf];omega
  ·obtain rfl:j=16:=by omega
   have hd:decide (((16:Nat):Int)<16)=false:=by decide
   have k1:=hinv.1;have k2:isArr wr w.heap.size 22 .u8 16 (Aes.xor f g):=hinv.2.1.congr fun t ht=>by unfold dR;rw[if_pos ht]
   have k3:=hinv.2.2.2;clear hinv hlt;go_wp2_with (first|refine wpList_load_row rfl _ _ rfl w.heap.size rfl _ _ (0,0) _ k2 rfl rfl (a8 _) ?_|(refine wpList_store_row rfl _ _ _ rfl (w.heap.size+2) _ rfl rfl _ _ k3 (a8 _) ((aA _ _ _).trans (aA _ _ _).symm) (aL _ _ _) ?_));exact bodyPost_ret (results_cell_row rfl _ _ (w.heap.size+2) _ _ (0,0) _ rfl (setRow_heap wr (w.heap.size+2) _ _ _ (0,0) k3) rfl rfl (a8 _)) rfl ⟨rfl,below_setRow k1 (by omega) _⟩
end Go.Proofs.YtcoolgnlhheaiaaGreatDoor
namespace Go.Proofs.YtcoolgnlhheaiaaGreatDoor
open Go.RowKit Go.Deep
set_option linter.all false
set_option maxRecDepth 100000
set_option maxHeartbeats 4000000
theorem mI (f:Nat→Nat):((Tryz.prog).info? 428).map (·.size)=some (aH .u8 4 f).size:=by rw[aA];rfl
theorem aEC (f:Nat→Nat):aH .u8 4 f=#[.int .u8 ↑(f 0),.int .u8 ↑(f 1),.int .u8 ↑(f 2),.int .u8 ↑(f 3)]:=by
 refine(bY .u8 4 f #[.int .u8 ↑(f 0),.int .u8 ↑(f 1),.int .u8 ↑(f 2),.int .u8 ↑(f 3)] rfl fun i hi=>?_).symm;obtain rfl|rfl|rfl|rfl:i=0∨i=1∨i=2∨i=3:=by omega
 all_goals rfl
theorem aGV (a b:Nat→Nat) (w:World) (ha:∀i,a i<256) (hb:∀i,b i<256):Calls Tryz.prog 323 #[.agg (aH .u8 4 a),.agg (aH .u8 4 b)] w fun e w'=>e= .returned (.int .u8 ↑(uL a b 4))∧Below w.heap.size w w':=by
 rw[aEC,aEC];exact aG7 a b w ha hb
def rV (m x:Nat→Nat) (c r t:Nat):Nat:=if 4*c≤t∧t<4*c+r then x t else m t
theorem aCQ (m x:Nat→Nat) (c t:Nat):rV m x c 0 t=m t:=by unfold rV;rw[if_neg (by omega)]
theorem aB7 (m x:Nat→Nat) (c r t v:Nat) (hv:v=x (r+4*c)):(if t=r+4*c then v else rV m x c r t)=rV m x c (r+1) t:=by
 unfold rV
 by_cases e:t=r+4*c
 ·subst e;rw[if_pos rfl,if_pos (by omega),hv]
 ·rw[if_neg e]
  by_cases e2:4*c≤t∧t<4*c+r
  ·rw[if_pos e2,if_pos (by omega)]
  ·rw[if_neg e2,if_neg (by omega)]
theorem zH (n b m:Nat→Nat) (bp np mp c:Nat) (w:World) (hc:c<4) (hn:Aes.B8 n) (hb:Aes.B8 b) (h1:isArr w bp 22 .u8 16 b) (h2:isArr w np 428 .u8 4 n) (h3:isArr w mp 22 .u8 16 m) (d1:bp≠mp) (d2:np≠mp):
 Calls Tryz.prog 322 #[.int .i64 c,.pointer (some ⟨bp,0,none⟩),.pointer (some ⟨np,0,none⟩),.pointer (some ⟨mp,0,none⟩)] w fun e w'=>e= .returned (.tuple #[])∧isArr w' mp 22 .u8 16 (rV m (Aes.mx n b) c 4)∧w.grownBy w' (some mp):=by
 have HN:=aD hn;clear hn;have HB:=aD hb;clear hb;have H1:=aD h1;have H2:=aD h2;have H3:=aD h3;have HD:=aD (aQ d1 d2);clear h1 h2 h3 d1 d2;have lc:(c:Int)<4:=by omega
 have nc:0≤(c:Int):=by omega
 go_enter Tryz.func322,Tryz.ntmps322;go_wp2_with fail
 go_loopw [5,6,7,8] (fun _ _ _ i wr=>∃r:Nat,r≤4∧i= .int .i64 r∧isArr wr mp 22 .u8 16 (rV m (Aes.mx n b) c r)∧w.grownBy wr (some mp)) (fun _ _ _ i _=>4 - (intOf i).toNat)
 case atStart=>exact⟨0,by omega,rfl,H3.out.congr fun t _=>(aCQ _ _ _ _).symm,aE _ _⟩
 case round=>
  obtain⟨r,hr,rfl,hm,hg⟩:=hrel
  by_cases hlt:r<4
  ·have hd:decide ((r:Int)<4)=true:=by simp;omega
   have HM:=aD (aQ hm hg);clear hm hg;have lr:(r:Int)<4:=by omega
   have nr:0≤(r:Int):=by omega
   obtain⟨wo,rfl⟩:∃wo:World,wo=wr:=⟨_,rfl⟩;go_wp2_with fail
   go_loopw [7,11] (fun _ i wr=>∃k:Nat,k≤4∧i= .int .i64 k∧isArr wr wo.heap.size 428 .u8 4 (fun t=>if t<k then b ((r+t) % 4+4*c) else 0)∧Below wo.heap.size wo wr) (fun _ i _=>4 - (intOf i).toNat)
   case atStart=>exact⟨0,by omega,rfl,cM _ _ _ _ _ _ (by first|rfl|simp) (fun i hi=>by(obtain rfl|rfl|rfl|rfl:i=0∨i=1∨i=2∨i=3:=by omega)<;>rfl),(Below.refl _ _).alloc (Nat.le_refl _) _⟩
   case round=>
    obtain⟨k,hk,rfl,ha,hbl⟩:=hrel;have hb0:isArr wr bp 22 .u8 16 b:=(H1.out.of_block (HM.out.2.block bp H1.out.lt (by rintro e;injection e with e;exact HD.out.1 e))).below hbl (Nat.lt_of_lt_of_le H1.out.lt HM.out.2.size)
    by_cases hlk:k<4
    ·have hdk:decide ((k:Int)<4)=true:=by simp;omega
     have cb:=hb0.cell (i:=(r+k) % 4+4*c) (by omega);have ca:=ha.cell (i:=k) hlk;have fa:=ha.frozen k;rw[if_neg (Nat.lt_irrefl _)] at ca
     have J:=aD (show isArr (wr.setCell ⟨wo.heap.size,k,none⟩ (.int .u8 ((b ((r+k) % 4+4*c):Nat):Int))) wo.heap.size 428 .u8 4 (fun t=>if t<k+1 then b ((r+t) % 4+4*c) else 0)∧Below wo.heap.size wo (wr.setCell ⟨wo.heap.size,k,none⟩ (.int .u8 ((b ((r+k) % 4+4*c):Nat):Int))) from ⟨(ha.set k _).congr fun t _=>by
      by_cases e:t=k
      ·subst e;rw[if_pos rfl,if_pos (by omega)]
      ·rw[if_neg e]
       by_cases e2:t<k
       ·rw[if_pos e2,if_pos (by omega)]
       ·rw[if_neg e2,if_neg (by omega)],bM hbl (Nat.le_refl _) _ _⟩)
     clear ha hbl hb0;generalize b ((r+k) % 4+4*c)=y at cb J;have nk:0≤(k:Int):=by omega
     have lk:(k:Int)<4:=by omega
     go_wp2_with fail;go_roundw
     case rel=>exact⟨k+1,by omega,by go_num,J.out.1,J.out.2⟩
     case measure=>simp[intOf];omega
    ·obtain rfl:k=4:=by omega
     have hd4:decide (((4:Nat):Int)<4)=false:=by decide
     have hzo:wo.heap.size<wr.heap.size:=ha.lt;have hk2:isArr wr np 428 .u8 4 n:=(H2.out.of_block (HM.out.2.block np H2.out.lt (by rintro e;injection e with e;exact HD.out.2 e))).below hbl (Nat.lt_of_lt_of_le H2.out.lt HM.out.2.size);have hk3:isArr wr wo.heap.size 428 .u8 4 (fun t=>b ((r+t) % 4+4*c)):=ha.congr fun t ht=>if_pos ht
     have hk4:isArr wr mp 22 .u8 16 (rV m (Aes.mx n b) c r):=HM.out.1.below hbl HM.out.1.lt;have hgr:w.grownBy wr (some mp):=fC HM.out.2 hbl;have hv:uL n (fun t=>b ((r+t) % 4+4*c)) 4=Aes.mx n b (r+4*c):=by
      unfold Aes.mx;rw[show(r+4*c) % 4=r by omega,show(r+4*c) / 4=c by omega]
     have HV:=aD hv;have HG:=aD hgr;have K4:=aD hk4;clear ha hbl hb0 hv hgr hk4;have iv:((r:Int)+4*(c:Int)).toNat=r+4*c:=by omega
     go_wp2_with (first|refine wpList_load_row rfl _ _ rfl np rfl _ _ (0,0) _ hk2 rfl rfl (mI _) ?_|refine wpList_load_row rfl _ _ rfl wo.heap.size rfl _ _ (0,0) _ hk3 rfl rfl (mI _) ?_|(go_at_call 323;refine(aGV _ _ _ HN.out (fun _=>HB.out _)).mono ?_;rintro e w3 ⟨rfl,hb3⟩;have c3:=(K4.out.below hb3 K4.out.lt).cell (i:=r+4*c) (by omega);have f3:=(K4.out.below hb3 K4.out.lt).frozen (r+4*c);have B3:=aD hb3;clear hb3));go_roundw
     case rel=>
      refine⟨r+1,by omega,by go_num,?_,?_⟩
      ·refine((K4.out.below B3.out K4.out.lt).set (r+4*c) _).congr fun t _=>aB7 _ _ _ _ _ _ HV.out
      ·exact bA (fC HG.out B3.out) _ _
     case measure=>simp[intOf];omega
  ·obtain rfl:r=4:=by omega
   have hd:decide (((4:Nat):Int)<4)=false:=by decide
   have HM:=aD (aQ hm hg);clear hm hg hlt;go_wp2_with fail;go_end0;exact⟨rfl,HM.out.1,HM.out.2⟩
end Go.Proofs.YtcoolgnlhheaiaaGreatDoor
namespace Go.Proofs.YtcoolgnlhheaiaaGreatDoor
open Go.RowKit Go.Deep
set_option linter.all false
set_option maxRecDepth 100000
set_option maxHeartbeats 4000000
theorem uY {w:World} (t:TypeId) (cs:Array Value) (n:Nat) (hs:cs.size=n) (h:∀i,i<n→cs[i]? =some (.int .u8 0)):isArr (w.alloc (.cells cs t)) w.heap.size t .u8 n (fun _=>0):=cM _ _ _ _ _ _ hs h
theorem aH4 (P:Nat→Prop) (h0:P 0) (h1:P 1) (h2:P 2) (h3:P 3) (h4:P 4) (h5:P 5) (h6:P 6) (h7:P 7) (h8:P 8) (h9:P 9) (h10:P 10) (h11:P 11) (h12:P 12) (h13:P 13) (h14:P 14) (h15:P 15) (i:Nat) (hi:i<16):P i:=by
 obtain rfl|rfl|rfl|rfl|rfl|rfl|rfl|rfl|rfl|rfl|rfl|rfl|rfl|rfl|rfl|rfl:i=0∨i=1∨i=2∨i=3∨i=4∨i=5∨i=6∨i=7∨i=8∨i=9∨i=10∨i=11∨i=12∨i=13∨i=14∨i=15:=by omega
 all_goals assumption
theorem dY {w:World}:isArr (w.alloc (.cells #[.int .u8 0,.int .u8 0,.int .u8 0,.int .u8 0,.int .u8 0,.int .u8 0,.int .u8 0,.int .u8 0,.int .u8 0,.int .u8 0,.int .u8 0,.int .u8 0,.int .u8 0,.int .u8 0,.int .u8 0,.int .u8 0] 22)) w.heap.size 22 .u8 16 (fun _=>0):=
 uY _ _ _ rfl (aH4 _ rfl rfl rfl rfl rfl rfl rfl rfl rfl rfl rfl rfl rfl rfl rfl rfl)
def MI (n b x:Nat→Nat) (w wr:World):Prop:=
 Below w.heap.size w wr∧isArr wr w.heap.size 22 .u8 16 b∧isArr wr (w.heap.size+1) 428 .u8 4 n∧isArr wr (w.heap.size+2) 22 .u8 16 (fun _=>0)∧isArr wr (w.heap.size+3) 22 .u8 16 x
theorem MI.step {n b x y:Nat→Nat} {w wr w':World} (h:MI n b x w wr) (k:wr.grownBy w' (some (w.heap.size+3))) (hy:isArr w' (w.heap.size+3) 22 .u8 16 y):MI n b y w w':=
 ⟨aP h.1 (Nat.le_refl _) k (fun g hg=>by injection hg with hg;omega),h.2.1.of_block (k.block _ h.2.1.lt (by simp)),h.2.2.1.of_block (k.block _ h.2.2.1.lt (by simp)),h.2.2.2.1.of_block (k.block _ h.2.2.2.1.lt (by simp)),hy⟩
theorem yF (n b:Nat→Nat) (w:World) (hn:Aes.B8 n) (hb:Aes.B8 b):Calls Tryz.prog 320 #[.agg (aH .u8 16 b),.agg (aH .u8 4 n)] w fun e w'=>e= .returned (.agg (aH .u8 16 (Aes.mx n b)))∧Below w.heap.size w w':=by
 have hsz:=aA .u8 16 b;have hsz2:=aA .u8 4 n;go_enter Tryz.func320,Tryz.ntmps320;go_upto_region 2 with fail;generalize hW:(((World.alloc _ _).alloc _).alloc _:World)=W;have INV:MI n b (fun t=>if t<4*0 then Aes.mx n b t else 0) w W:=by
  rw[←hW];have z1:w.heap.size+1=(w.alloc (Obj.cells (aH IntKind.u8 16 b) 22)).heap.size:=by simp
  have z2:w.heap.size+2=((w.alloc (Obj.cells (aH IntKind.u8 16 b) 22)).alloc (Obj.cells (aH IntKind.u8 4 n) 428)).heap.size:=by simp
  refine⟨((((Below.refl _ _).alloc (Nat.le_refl _) _).alloc (by simp) _).alloc (by simp;omega) _).alloc (by simp;omega) _,?_,?_,?_,?_⟩
  ·exact(((aN w _ _ _ _).alloc _).alloc _).alloc _
  ·rw[z1];exact((aN _ _ _ _ _).alloc _).alloc _
  ·rw[z2];first|exact dY.alloc _|exact zero16r.alloc _
  ·have z3:∀o:Obj,w.heap.size+3=(((w.alloc (Obj.cells (aH IntKind.u8 16 b) 22)).alloc (Obj.cells (aH IntKind.u8 4 n) 428)).alloc o).heap.size:=fun _=>by simp
   rw[z3];first|exact dY.congr fun t _=>(if_neg (by omega)).symm|exact zero16r.congr fun t _=>(if_neg (by omega)).symm
 have I0:=aD INV;clear hW INV;have HN:=aD hn;clear hn;have HB:=aD hb;clear hb;go_wp2_with fail
 go_loopw [7,9] (fun _ i wr=>∃c:Nat,c≤4∧i= .int .i64 c∧MI n b (fun t=>if t<4*c then Aes.mx n b t else 0) w wr) (fun _ i _=>4 - (intOf i).toNat)
 case atStart=>exact⟨0,by omega,rfl,I0.out⟩
 case round=>
  clear I0;obtain⟨c,hc,rfl,hm⟩:=hrel;have HM:=aD hm;clear hm
  by_cases hlt:c<4
  ·have hd:decide ((c:Int)<4)=true:=by simp;omega
   go_wp2_with fail;refine(zH n b _ _ _ _ c _ hlt HN.out HB.out HM.out.2.1 HM.out.2.2.1 HM.out.2.2.2.2 (by omega) (by omega)).mono ?_;rintro e w2 ⟨rfl,ha,hg⟩
   have hI:=HM.out.step hg (ha.congr (g:=fun t=>if t<4*(c+1) then Aes.mx n b t else 0) fun t _=>by
    unfold rV;dsimp only
    by_cases e1:t<4*c
    ·rw[if_neg (by omega),if_pos e1,if_pos (by omega)]
    ·by_cases e2:t<4*c+4
     ·rw[if_pos (by omega),if_pos (by omega)]
     ·rw[if_neg (by omega),if_neg e1,if_neg (by omega)])
   have HI:=aD hI;clear hI ha hg;go_wp2_with fail;go_roundw
   case rel=>exact⟨c+1,by omega,by go_num,HI.out⟩
   case measure=>simp[intOf];omega
  ·obtain rfl:c=4:=by omega
   have hd:decide (((4:Nat):Int)<4)=false:=by decide
   have k5:isArr wr (w.heap.size+3) 22 .u8 16 (Aes.mx n b):=HM.out.2.2.2.2.congr fun t ht=>if_pos (by omega)
   have k3:=HM.out.2.2.2.1;clear hlt;go_wp2_with (first|refine wpList_load_row rfl _ _ rfl (w.heap.size+3) rfl _ _ (0,0) _ k5 rfl rfl (a8 _) ?_|(refine wpList_store_row rfl _ _ _ rfl (w.heap.size+2) _ rfl rfl _ _ k3 (a8 _) ((aA _ _ _).trans (aA _ _ _).symm) (aL _ _ _) ?_));exact bodyPost_ret (results_cell_row rfl _ _ (w.heap.size+2) _ _ (0,0) _ rfl (setRow_heap wr (w.heap.size+2) _ _ _ (0,0) k3) rfl rfl (a8 _)) rfl ⟨rfl,below_setRow HM.out.1 (by omega) _⟩
end Go.Proofs.YtcoolgnlhheaiaaGreatDoor
namespace Go.Proofs.YtcoolgnlhheaiaaGreatDoor
open Go.RowKit Go.Deep
set_option linter.all false
set_option maxRecDepth 100000
set_option maxHeartbeats 4000000
theorem aG5 (b:Nat→Nat) (w:World) (hb:Aes.B8 b):Calls Tryz.prog 320 #[.agg (aH .u8 16 b),.agg #[.int .u8 2,.int .u8 3,.int .u8 1,.int .u8 1]] w fun e w'=>e= .returned (.agg (aH .u8 16 (Aes.mx Aes.mixN b)))∧Below w.heap.size w w':=by
 have:=yF Aes.mixN b w (Aes.n4_b8 (by omega) (by omega) (by omega) (by omega)) hb
 rwa [aEC] at this
def RI (b k x:Nat→Nat) (w wr:World):Prop:=
 Below w.heap.size w wr∧isArr wr w.heap.size 22 .u8 16 b∧isArr wr (w.heap.size+1) 22 .u8 16 k∧isArr wr (w.heap.size+2) 22 .u8 16 (fun _=>0)∧isArr wr (w.heap.size+3) 22 .u8 16 x
theorem RI.set {b k x y:Nat→Nat} {w wr:World} (h:RI b k x w wr) (i v:Nat) (hy:∀t,t<16→(if t=i then v else x t)=y t):RI b k y w (wr.setCell ⟨w.heap.size+3,i,none⟩ (.int .u8 (v:Int))):=
 ⟨bM h.1 (by omega) _ _,h.2.1.setOther (by omega) _ _,h.2.2.1.setOther (by omega) _ _,h.2.2.2.1.setOther (by omega) _ _,(h.2.2.2.2.set i v).congr hy⟩
theorem RI.congr {b k x y:Nat→Nat} {w wr:World} (h:RI b k x w wr) (e:∀t,t<16→x t=y t):RI b k y w wr:=⟨h.1,h.2.1,h.2.2.1,h.2.2.2.1,h.2.2.2.2.congr e⟩
theorem RI.below {b k x:Nat→Nat} {w wr w':World} (h:RI b k x w wr) (e:Below wr.heap.size wr w'):RI b k x w w':=
 ⟨h.1.trans (e.mono h.1.size),h.2.1.below e h.2.1.lt,h.2.2.1.below e h.2.2.1.lt,h.2.2.2.1.below e h.2.2.2.1.lt,h.2.2.2.2.below e h.2.2.2.2.lt⟩
theorem RI.row {b k x y:Nat→Nat} {w wr:World} (h:RI b k x w wr):RI b k y w (wr.setRow (w.heap.size+3) (aH .u8 16 y)):=by
 have hne:∀i,i≠w.heap.size+3→(wr.setRow (w.heap.size+3) (aH .u8 16 y)).heap[i]? =wr.heap[i]? :=fun i hi=>by
  unfold World.setRow;simp[Array.getElem?_modify,Ne.symm hi]
 exact⟨below_setRow h.1 (by omega) _,h.2.1.of_block (hne _ (by omega)),h.2.2.1.of_block (hne _ (by omega)),h.2.2.2.1.of_block (hne _ (by omega)),setRow_heap _ _ _ _ _ (0,0) h.2.2.2.2⟩
def two (x:Nat→Nat) (r c t:Nat):Nat:=if t % 4<r∨(t % 4=r∧t / 4<c) then x t else 0
theorem aEU (x:Nat→Nat) (r c:Nat) (hr:r<4) (t:Nat):(if t=r+4*c then x (r+4*c) else two x r c t)=two x r (c+1) t:=by
 unfold two
 by_cases e:t=r+4*c
 ·rw[if_pos e,if_pos (by omega),e]
 ·rw[if_neg e]
  by_cases e2:t % 4<r∨(t % 4=r∧t / 4<c)
  ·rw[if_pos e2,if_pos (by omega)]
  ·rw[if_neg e2,if_neg (by omega)]
theorem aHC (x:Nat→Nat) (r t:Nat) (h:t<16):two x r 4 t=two x (r+1) 0 t:=by
 unfold two
 by_cases e:t % 4<r+1
 ·rw[if_pos (by omega),if_pos (by omega)]
 ·rw[if_neg (by omega),if_neg (by omega)]
theorem rB (b k:Nat→Nat) (last:Bool) (w:World) (hb:Aes.B8 b) (hk:Aes.B8 k):Calls Tryz.prog 317 #[.agg (aH .u8 16 b),.agg (aH .u8 16 k),.bool last] w fun e w'=>e= .returned (.agg (aH .u8 16 (Aes.round b k last)))∧Below w.heap.size w w':=by
 have hsz:=aA .u8 16 b;have hsz2:=aA .u8 16 k;have HB:=aD hb;clear hb;have HK:=aD hk;clear hk;go_enter Tryz.func317,Tryz.ntmps317;go_upto_region 2 with fail;generalize hW:(((World.alloc _ _).alloc _).alloc _:World)=W;have INV:RI b k (two (Aes.sr b) 0 0) w W:=by
  rw[←hW];have z1:w.heap.size+1=(w.alloc (Obj.cells (aH IntKind.u8 16 b) 22)).heap.size:=by simp
  have z2:w.heap.size+2=((w.alloc (Obj.cells (aH IntKind.u8 16 b) 22)).alloc (Obj.cells (aH IntKind.u8 16 k) 22)).heap.size:=by simp
  have hz:∀t,t<16→(0:Nat)=two (Aes.sr b) 0 0 t:=fun t _=>by unfold two;rw[if_neg (by omega)]
  refine⟨((((Below.refl _ _).alloc (Nat.le_refl _) _).alloc (by simp) _).alloc (by simp;omega) _).alloc (by simp;omega) _,?_,?_,?_,?_⟩
  ·exact(((aN w _ _ _ _).alloc _).alloc _).alloc _
  ·rw[z1];exact((aN _ _ _ _ _).alloc _).alloc _
  ·rw[z2];first|exact dY.alloc _|exact zero16r.alloc _
  ·have z3:∀o:Obj,w.heap.size+3=(((w.alloc (Obj.cells (aH IntKind.u8 16 b) 22)).alloc (Obj.cells (aH IntKind.u8 16 k) 22)).alloc o).heap.size:=fun _=>by simp
   rw[z3];first|exact dY.congr hz|exact zero16r.congr hz
 have I0:=aD INV;clear hW INV;go_wp2_with fail
 go_loopw [8,9,10] (fun _ _ i wr=>∃r:Nat,r≤4∧i= .int .i64 r∧RI b k (two (Aes.sr b) r 0) w wr) (fun _ _ i _=>4 - (intOf i).toNat)
 case atStart=>exact⟨0,by omega,rfl,I0.out⟩
 case round=>
  clear I0;obtain⟨r,hr,rfl,hm⟩:=hrel;have HM:=aD hm;clear hm
  by_cases hlt:r<4
  ·have hd:decide ((r:Int)<4)=true:=by simp;omega
   have lr:(r:Int)<4:=by omega
   have nr:0≤(r:Int):=by omega
   go_wp2_with fail
   go_loopw [9,13] (fun _ i wr=>∃c:Nat,c≤4∧i= .int .i64 c∧RI b k (two (Aes.sr b) r c) w wr) (fun _ i _=>4 - (intOf i).toNat)
   case atStart=>exact⟨0,by omega,rfl,HM.out⟩
   case round=>
    clear HM;obtain⟨c,hc,rfl,hm⟩:=hrel
    by_cases hlc:c<4
    ·have hdc:decide ((c:Int)<4)=true:=by simp;omega
     have lc:(c:Int)<4:=by omega
     have nc:0≤(c:Int):=by omega
     have cb:=hm.2.1.cell (i:=r+4*((c+r) % 4)) (by omega);have cm:=hm.2.2.2.2.cell (i:=r+4*c) (by omega);have fm:=hm.2.2.2.2.frozen (r+4*c);have hv:Fld.sb (b (r+4*((c+r) % 4)))=Aes.sr b (r+4*c):=by
      unfold Aes.sr;rw[show(r+4*c) % 4=r by omega,show(r+4*c) / 4=c by omega]
     have J:=aD (hm.set (r+4*c) (Fld.sb (b (r+4*((c+r) % 4)))) (y:=two (Aes.sr b) r (c+1)) (fun t _=>by rw[hv];exact aEU _ _ _ hlt t));have hy:=HB.out (r+4*((c+r) % 4));clear hm hv;generalize b (r+4*((c+r) % 4))=y at cb J hy;go_wp2_with (go_at_call 318;refine(aAP _ _ (by omega)).mono ?_;rintro e w' ⟨rfl,rfl⟩;rw[Int.toNat_natCast]);go_roundw
     case rel=>exact⟨c+1,by omega,by go_num,J.out⟩
     case measure=>simp[intOf];omega
    ·obtain rfl:c=4:=by omega
     have hd4:decide (((4:Nat):Int)<4)=false:=by decide
     have HM:=aD (hm.congr (fun t ht=>aHC _ _ t ht));clear hm hlc;go_wp2_with fail;go_roundw
     case rel=>exact⟨r+1,by omega,by go_num,HM.out⟩
     case measure=>simp[intOf];omega
  ·obtain rfl:r=4:=by omega
   have hd:decide (((4:Nat):Int)<4)=false:=by decide
   have hm:RI b k (Aes.sr b) w wr:=HM.out.congr fun t _=>by unfold two;rw[if_pos (by omega)]
   clear HM hlt
   cases last
   ·have k1:=hm.2.2.2.2
    have HM:=aD hm;clear hm;go_wp2_with (first|refine wpList_load_row rfl _ _ rfl (w.heap.size+3) rfl _ _ (0,0) _ k1 rfl rfl (a8 _) ?_|(go_at_call 320;refine(aG5 _ _ (Aes.sr_b8 HB.out)).mono ?_;rintro e w2 ⟨rfl,hb2⟩;have M2:=aD (HM.out.below hb2);have k2:=M2.out.2.2.2.2;clear hb2)|(refine wpList_store_row rfl _ _ _ rfl (w.heap.size+3) _ rfl rfl _ _ k2 (a8 _) ((aA _ _ _).trans (aA _ _ _).symm) (aL _ _ _) ?_;have M3:=aD (M2.out.row (y:=Aes.mx Aes.mixN (Aes.sr b)));clear k1 k2;generalize World.setRow _ (w.heap.size+3) _=V at M3 ⊢;have k5:=M3.out.2.2.2.2;have k6:=M3.out.2.2.1)|refine wpList_load_row rfl _ _ rfl (w.heap.size+3) rfl _ _ (0,0) _ k5 rfl rfl (a8 _) ?_|refine wpList_load_row rfl _ _ rfl (w.heap.size+1) rfl _ _ (0,0) _ k6 rfl rfl (a8 _) ?_|(go_at_call 316;refine(j9 _ _ _ (Aes.mx_b8 (Aes.sr_b8 HB.out)) HK.out).mono ?_;rintro e w5 ⟨rfl,hb5⟩;have M5:=aD (M3.out.below hb5);have k7:=M5.out.2.2.2.1;clear hb5)|(refine wpList_store_row rfl _ _ _ rfl (w.heap.size+2) _ rfl rfl _ _ k7 (a8 _) ((aA _ _ _).trans (aA _ _ _).symm) (aL _ _ _) ?_));exact bodyPost_ret (results_cell_row rfl _ _ (w.heap.size+2) _ _ (0,0) _ rfl (setRow_heap _ (w.heap.size+2) _ _ _ (0,0) k7) rfl rfl (a8 _)) rfl ⟨rfl,below_setRow M5.out.1 (by omega) _⟩
   ·have M3:=aD hm;clear hm
    have k5:=M3.out.2.2.2.2;have k6:=M3.out.2.2.1;go_wp2_with (first|refine wpList_load_row rfl _ _ rfl (w.heap.size+3) rfl _ _ (0,0) _ k5 rfl rfl (a8 _) ?_|refine wpList_load_row rfl _ _ rfl (w.heap.size+1) rfl _ _ (0,0) _ k6 rfl rfl (a8 _) ?_|(go_at_call 316;refine(j9 _ _ _ (Aes.sr_b8 HB.out) HK.out).mono ?_;rintro e w5 ⟨rfl,hb5⟩;have M5:=aD (M3.out.below hb5);have k7:=M5.out.2.2.2.1;clear hb5)|(refine wpList_store_row rfl _ _ _ rfl (w.heap.size+2) _ rfl rfl _ _ k7 (a8 _) ((aA _ _ _).trans (aA _ _ _).symm) (aL _ _ _) ?_));exact bodyPost_ret (results_cell_row rfl _ _ (w.heap.size+2) _ _ (0,0) _ rfl (setRow_heap _ (w.heap.size+2) _ _ _ (0,0) k7) rfl rfl (a8 _)) rfl ⟨rfl,below_setRow M5.out.1 (by omega) _⟩
end Go.Proofs.YtcoolgnlhheaiaaGreatDoor
