import Derived.Deep.Cut
import Derived.Great.BuildSlice
import Derived.IntWalk
import Derived.OneCell
import Derived.Test.YtcoolgnlhheaiaaGreatDoorG00
namespace Sha
def rotr (w n:Nat):Nat:=(w*2 ^ (32 - n)) % 4294967296 ||| w / 2 ^ n
def s0 (x:Nat):Nat:=rotr x 7 ^^^ rotr x 18 ^^^ x / 8
def s1 (y:Nat):Nat:=rotr y 17 ^^^ rotr y 19 ^^^ y / 1024
theorem aKR (a b:Nat) (ha:a<4294967296) (hb:b<4294967296):a ||| b<4294967296:=Nat.or_lt_two_pow (n:=32) ha hb
theorem xor32 (a b:Nat) (ha:a<4294967296) (hb:b<4294967296):a ^^^ b<4294967296:=Nat.xor_lt_two_pow (n:=32) ha hb
theorem and32 (a b:Nat) (hb:b<4294967296):a &&& b<4294967296:=Nat.and_lt_two_pow (n:=32) a hb
theorem rotr_lt (w n:Nat) (h:w<4294967296):rotr w n<4294967296:=
 aKR _ _ (Nat.mod_lt _ (by omega)) (Nat.lt_of_le_of_lt (Nat.div_le_self _ _) h)
theorem s0_lt (x:Nat) (h:x<4294967296):s0 x<4294967296:=xor32 _ _ (xor32 _ _ (rotr_lt _ _ h) (rotr_lt _ _ h)) (by omega)
theorem s1_lt (x:Nat) (h:x<4294967296):s1 x<4294967296:=xor32 _ _ (xor32 _ _ (rotr_lt _ _ h) (rotr_lt _ _ h)) (by omega)
def pw (b:Nat→Nat) (i:Nat):Nat→Nat
 |0=>0
 |k+1=>pw b i k*256+b (4*i+k)
def nextw (l:List Nat) (m:Nat):Nat:=(l.getD m 0+s0 (l.getD (m+1) 0)+l.getD (m+9) 0+s1 (l.getD (m+14) 0)) % 4294967296
def first (b:Nat→Nat) (i:Nat):List Nat:=(List.range i).map fun j=>pw b j 4
def ext (b:Nat→Nat):Nat→List Nat
 |0=>first b 16
 |m+1=>ext b m++[nextw (ext b m) m]
def words (b:Nat→Nat):List Nat:=ext b 48
structure St where
 a:Nat
 b:Nat
 c:Nat
 d:Nat
 e:Nat
 f:Nat
 g:Nat
 h:Nat
def big0 (a:Nat):Nat:=rotr a 2 ^^^ rotr a 13 ^^^ rotr a 22
def big1 (e:Nat):Nat:=rotr e 6 ^^^ rotr e 11 ^^^ rotr e 25
def ch (e f g:Nat):Nat:=(e &&& f) ^^^ ((4294967295 ^^^ e) &&& g)
def maj (a b c:Nat):Nat:=(a &&& b) ^^^ (a &&& c) ^^^ (b &&& c)
def t1 (s:St) (k w:Nat):Nat:=(s.h+big1 s.e+ch s.e s.f s.g+k+w) % 4294967296
def t2 (s:St):Nat:=(big0 s.a+maj s.a s.b s.c) % 4294967296
def round (s:St) (k w:Nat):St:=
 ⟨(t1 s k w+t2 s) % 4294967296,s.a,s.b,s.c,(s.d+t1 s k w) % 4294967296,s.e,s.f,s.g⟩
theorem pw_lt (b:Nat→Nat) (hb:∀i,b i<256) (i k:Nat):pw b i k<256 ^ k:=by
 induction k with
 |zero=>simp[pw]
 |succ k ih=>
  unfold pw;rw[Nat.pow_succ];have:=hb (4*i+k);omega
theorem first_length (b:Nat→Nat) (i:Nat):(first b i).length=i:=by simp[first]
theorem first_succ (b:Nat→Nat) (i:Nat):first b (i+1)=first b i++[pw b i 4]:=by
 unfold first;rw[List.range_succ,List.map_append];rfl
theorem ext_length (b:Nat→Nat) (m:Nat):(ext b m).length=16+m:=by
 induction m with
 |zero=>simp[ext,first_length]
 |succ m ih=>unfold ext;rw[List.length_append,ih];simp;omega
theorem getD_app_zero (l:List Nat) (j:Nat):(l++[0]).getD j 0=l.getD j 0:=by
 by_cases h:j<l.length
 ·simp[List.getD,List.getElem?_append_left h]
 ·rw[List.getD,List.getD,List.getElem?_append_right (by omega),List.getElem?_eq_none (l:=l) (by omega)]
  rcases Nat.eq_zero_or_pos (j - l.length) with h0|h0
  ·rw[h0];rfl
  ·rw[List.getElem?_eq_none (by simp;omega)]
theorem getD_last (l:List Nat) (x:Nat):(l++[x]).getD l.length 0=x:=by simp[List.getD]
theorem getD_set_last (l:List Nat) (x y j:Nat):(if j=l.length then y else (l++[x]).getD j 0)=(l++[y]).getD j 0:=by
 split
 ·rename_i h;rw[h,getD_last]
 ·rename_i h
  by_cases hl:j<l.length
  ·simp[List.getD,List.getElem?_append_left hl]
  ·rw[List.getD,List.getD,List.getElem?_eq_none (l:=l++[x]) (by simp;omega),List.getElem?_eq_none (l:=l++[y]) (by simp;omega)]
theorem getD_set_new (l:List Nat) (y j:Nat):(if j=l.length then y else l.getD j 0)=(l++[y]).getD j 0:=by
 rw[←getD_set_last l 0 y j,getD_app_zero]
theorem aD1 (b:Nat→Nat) (hb:∀i,b i<256) (i:Nat):∀x,x∈first b i→x<4294967296:=by
 intro x hx;obtain⟨j,_,rfl⟩:=List.mem_map.1 hx;exact pw_lt b hb j 4
theorem ext_lt (b:Nat→Nat) (hb:∀i,b i<256) (m:Nat):∀x,x∈ext b m→x<4294967296:=by
 induction m with
 |zero=>exact aD1 b hb 16
 |succ m ih=>
  intro x hx;unfold ext at hx;rcases List.mem_append.1 hx with h|h
  ·exact ih x h
  ·rw[List.mem_singleton] at h;rw[h];exact Nat.mod_lt _ (by omega)
theorem getD_lt (l:List Nat) (h:∀x,x∈l→x<4294967296) (j:Nat):l.getD j 0<4294967296:=by
 by_cases hl:j<l.length
 ·have e:l.getD j 0=l[j]:=by simp[List.getD,hl]
  rw[e];exact h _ (List.getElem_mem hl)
 ·have e:l.getD j 0=0:=by simp[List.getD,List.getElem?_eq_none (Nat.le_of_not_lt hl)]
  rw[e];omega
end Sha
namespace Sha
def tableL:List Nat:=[0x428a2f98,0x71374491,0xb5c0fbcf,0xe9b5dba5,0x3956c25b,0x59f111f1,0x923f82a4,0xab1c5ed5,
 0xd807aa98,0x12835b01,0x243185be,0x550c7dc3,0x72be5d74,0x80deb1fe,0x9bdc06a7,0xc19bf174,
 0xe49b69c1,0xefbe4786,0x0fc19dc6,0x240ca1cc,0x2de92c6f,0x4a7484aa,0x5cb0a9dc,0x76f988da,
 0x983e5152,0xa831c66d,0xb00327c8,0xbf597fc7,0xc6e00bf3,0xd5a79147,0x06ca6351,0x14292967,
 0x27b70a85,0x2e1b2138,0x4d2c6dfc,0x53380d13,0x650a7354,0x766a0abb,0x81c2c92e,0x92722c85,
 0xa2bfe8a1,0xa81a664b,0xc24b8b70,0xc76c51a3,0xd192e819,0xd6990624,0xf40e3585,0x106aa070,
 0x19a4c116,0x1e376c08,0x2748774c,0x34b0bcb5,0x391c0cb3,0x4ed8aa4a,0x5b9cca4f,0x682e6ff3,
 0x748f82ee,0x78a5636f,0x84c87814,0x8cc70208,0x90befffa,0xa4506ceb,0xbef9a3f7,0xc67178f2]
def tab (i:Nat):Nat:=tableL.getD i 0
def St.at (x:St) (i:Nat):Nat:=if i=0 then x.a else if i=1 then x.b else if i=2 then x.c else if i=3 then x.d else if i=4 then x.e else if i=5 then x.f else if i=6 then x.g else x.h
def start:St:=⟨0x6a09e667,0xbb67ae85,0x3c6ef372,0xa54ff53a,0x510e527f,0x9b05688c,0x1f83d9ab,0x5be0cd19⟩
def wd (b:Nat→Nat) (i:Nat):Nat:=(words b).getD i 0
def rd (K:Nat→Nat) (s:St) (b:Nat→Nat):Nat→St
 |0=>s
 |k+1=>round (rd K s b k) (K k) (wd b k)
def plus (s t:St):St:=⟨(s.a+t.a) % 4294967296,(s.b+t.b) % 4294967296,(s.c+t.c) % 4294967296,(s.d+t.d) % 4294967296,(s.e+t.e) % 4294967296,(s.f+t.f) % 4294967296,(s.g+t.g) % 4294967296,(s.h+t.h) % 4294967296⟩
def blk (K:Nat→Nat) (s:St) (b:Nat→Nat):St:=plus s (rd K s b 64)
def pad (n:Nat):List Nat:=128::(List.replicate ((119 - n % 64) % 64) 0++Wir.enc 8 (8*n))
def bl (l:List Nat) (j i:Nat):Nat:=l.getD (64*j+i) 0
def run (K:Nat→Nat) (l:List Nat):Nat→St
 |0=>start
 |j+1=>blk K (run K l j) (bl l j)
def out (s:St) (i:Nat):Nat:=s.at (i / 4) / 2 ^ (24 - 8*(i % 4)) % 256
def digK (K:Nat→Nat) (l:List Nat):Nat→Nat:=out (run K (l++pad l.length) ((l++pad l.length).length / 64))
def dig (l:List Nat):Nat→Nat:=digK tab l
theorem aCI (d j x:Nat) (h:x / 256 ^ j=0):Wir.enc (j+d) x=List.replicate d 0++Wir.enc j x:=by
 induction d with
 |zero=>rfl
 |succ d ih=>
  rw[←Nat.add_assoc,Wir.enc_cons,ih,List.replicate_succ,Nat.pow_add,←Nat.div_div_eq_div_mul,h];simp
theorem pad_step (z j x:Nat) (h:j<8):(128::(List.replicate (z+8 - j) 0++Wir.enc j x)).set (z+8 - j) (x / 256 ^ j % 256)=128::(List.replicate (z+8 - (j+1)) 0++Wir.enc (j+1) x):=by
 have:=Wir.enc_step (z+8) j x (by omega);rw[show z+8 - j=(z+8 - j - 1)+1 by omega,List.set_cons_succ,show z+8 - j - 1+1=z+8 - j by omega,this]
theorem pad_done (z j x:Nat) (hj:j≤8) (h:x / 256 ^ j=0):(128::(List.replicate (z+8 - j) 0++Wir.enc j x))=128::(List.replicate z 0++Wir.enc 8 x):=by
 have:=aCI (8 - j) j x h;rw[show j+(8 - j)=8 by omega] at this;rw[this,←List.append_assoc,List.replicate_append_replicate,show z+(8 - j)=z+8 - j by omega]
theorem pad_length (n:Nat):(pad n).length=9+(119 - n % 64) % 64:=by
 unfold pad;rw[List.length_cons,List.length_append,List.length_replicate,Wir.enc_length];omega
theorem pad_whole (n:Nat):(n+(pad n).length) % 64=0:=by rw[pad_length];omega
end Sha
namespace Sha
theorem aFS {b c:Nat→Nat} (i:Nat):∀k,(∀j,j<k→b (4*i+j)=c (4*i+j))→pw b i k=pw c i k:=by
 intro k
 induction k with
 |zero=>intro _;rfl
 |succ k ih=>
  intro h;unfold pw;rw[ih (fun j hj=>h j (by omega)),h k (by omega)]
theorem uM {b c:Nat→Nat} (h:∀i,i<64→b i=c i):first b 16=first c 16:=by
 unfold first;apply List.map_congr_left;intro j hj;rw[List.mem_range] at hj;exact aFS j 4 fun k hk=>h _ (by omega)
theorem aC5 {b c:Nat→Nat} (h:∀i,i<64→b i=c i) (m:Nat):ext b m=ext c m:=by
 induction m with
 |zero=>exact uM h
 |succ m ih=>unfold ext;rw[ih]
theorem aDS {b c:Nat→Nat} (h:∀i,i<64→b i=c i):wd b=wd c:=by
 funext i;unfold wd words;rw[aC5 h]
theorem aFJ {b c:Nat→Nat} (K:Nat→Nat) (s:St) (h:∀i,i<64→b i=c i) (k:Nat):rd K s b k=rd K s c k:=by
 induction k with
 |zero=>rfl
 |succ k ih=>unfold rd;rw[ih,aDS h]
theorem qC {b c:Nat→Nat} (K:Nat→Nat) (s:St) (h:∀i,i<64→b i=c i):blk K s b=blk K s c:=by
 unfold blk;rw[aFJ K s h]
theorem aJB (l m:List Nat) (j i:Nat) (h:64*j+i<l.length):bl (l++m) j i=bl l j i:=by
 unfold bl;simp[List.getD,List.getElem?_append_left h]
theorem run_app (K:Nat→Nat) (l m:List Nat) (j:Nat):64*j≤l.length→run K (l++m) j=run K l j:=by
 induction j with
 |zero=>intro _;rfl
 |succ j ih=>
  intro h;unfold run;rw[ih (by omega)];exact qC K _ fun i hi=>aJB l m j i (by omega)
def St32 (x:St):Prop:=x.a<4294967296∧x.b<4294967296∧x.c<4294967296∧x.d<4294967296∧x.e<4294967296∧x.f<4294967296∧x.g<4294967296∧x.h<4294967296
theorem aH9 (s t:St):St32 (plus s t):=⟨Nat.mod_lt _ (by omega),Nat.mod_lt _ (by omega),Nat.mod_lt _ (by omega),Nat.mod_lt _ (by omega),Nat.mod_lt _ (by omega),Nat.mod_lt _ (by omega),Nat.mod_lt _ (by omega),Nat.mod_lt _ (by omega)⟩
theorem aGK:St32 start:=by unfold St32 start;simp
theorem run_32 (K:Nat→Nat) (l:List Nat) (j:Nat):St32 (run K l j):=by
 cases j with
 |zero=>exact aGK
 |succ j=>exact aH9 _ _
theorem at_32 (s:St) (h:St32 s) (j:Nat):s.at j<4294967296:=by
 obtain⟨h1,h2,h3,h4,h5,h6,h7,h8⟩:=h;unfold St.at
 repeat' split
 all_goals assumption
theorem run_full (K:Nat→Nat) (l:List Nat) (j:Nat) (f:Nat→Nat) (hf:∀i,i<64→f i=l.getD (64*j+i) 0):blk K (run K l j) f=run K l (j+1):=by
 show _=blk K (run K l j) (bl l j);exact qC K _ hf
theorem aJM (s:St) (i:Nat):out s i<256:=Nat.mod_lt _ (by omega)
theorem dig_lt (l:List Nat) (i:Nat):dig l i<256:=aJM _ _
end Sha
namespace Go.Proofs.YtcoolgnlhheaiaaGreatDoor
open Go.RowKit Go.Deep
set_option linter.all false
set_option maxRecDepth 100000
set_option maxHeartbeats 2000000
theorem pQ {k:IntKind} {a b:Int} (h:a=b):Ending.returned (.int k a)= .returned (.int k b):=by rw[h]
theorem aGP (n:Nat) (h1:1≤n) (h:n<32):bits BinOp.and IntKind.u64 (IntKind.u64.wrap (-(n:Int))) 31=((32 - n:Nat):Int):=by
 have:∀n:Nat,n<32→1≤n→bits BinOp.and IntKind.u64 (IntKind.u64.wrap (-(n:Int))) 31=((32 - n:Nat):Int):=by decide+kernel
 exact this n h h1
theorem aDZ (a n:Nat) (ha:a<4294967296) (h1:1≤n) (h:n<32):bits BinOp.or IntKind.u32 (↑a*2 ^ (32 - n) % 4294967296) (↑a / 2 ^ (32 - (32 - n)))=((Sha.rotr a n:Nat):Int):=by
 have e1:((a:Int)*2 ^ (32 - n) % 4294967296)=((a*2 ^ (32 - n) % 4294967296:Nat):Int):=by
  rw[Int.natCast_emod,Int.natCast_mul,Int.natCast_pow];rfl
 have e2:((a:Int) / 2 ^ (32 - (32 - n)))=((a / 2 ^ n:Nat):Int):=by
  rw[show 32 - (32 - n)=n by omega,Int.natCast_ediv,Int.natCast_pow];rfl
 rw[e1,e2,u32_or_nat _ _ (Nat.mod_lt _ (by omega)) (Nat.lt_of_le_of_lt (Nat.div_le_self _ _) ha)];rfl
theorem tY (a n:Nat) (ha:a<4294967296):bits BinOp.or IntKind.u32 (↑a / 2 ^ n) (↑a*2 ^ (32 - n) % 4294967296)=((Sha.rotr a n:Nat):Int):=by
 have e1:((a:Int)*2 ^ (32 - n) % 4294967296)=((a*2 ^ (32 - n) % 4294967296:Nat):Int):=by
  rw[Int.natCast_emod,Int.natCast_mul,Int.natCast_pow];rfl
 have e2:((a:Int) / 2 ^ n)=((a / 2 ^ n:Nat):Int):=by
  rw[Int.natCast_ediv,Int.natCast_pow];rfl
 rw[e1,e2,u32_or_nat _ _ (Nat.lt_of_le_of_lt (Nat.div_le_self _ _) ha) (Nat.mod_lt _ (by omega)),Nat.or_comm];rfl
theorem aGQ (x:Int) (n:Nat) (w:World) (hx:0≤x∧x<4294967296) (h1:1≤n) (h:n<32):
 Calls Tryz.prog 237 #[.int .u32 x,.int .i64 n] w fun e w'=>e= .returned (.int .u32 ↑(Sha.rotr x.toNat n))∧w=w':=by
 obtain⟨a,rfl⟩:=Int.eq_ofNat_of_zero_le hx.1;rw[Int.toNat_natCast];have ha:a<4294967296:=by omega
 have hn:=aGP n h1 h;clear hx;go_enter Tryz.func237,Tryz.ntmps237;go_wp2;go_ret;exact⟨pQ (aDZ a n ha h1 h),rfl⟩
theorem yY (x:Int) (n:Nat) (w:World) (hx:0≤x∧x<4294967296) (h1:1≤n) (h:n<32):
 Calls Tryz.prog 148 #[.int .u32 x,.int .u64 n] w fun e w'=>e= .returned (.int .u32 ↑(Sha.rotr x.toNat n))∧w=w':=by
 obtain⟨a,rfl⟩:=Int.eq_ofNat_of_zero_le hx.1;rw[Int.toNat_natCast];have ha:a<4294967296:=by omega
 clear hx;go_enter Tryz.func148,Tryz.ntmps148;go_wp2;go_ret;exact⟨pQ (tY a n ha),rfl⟩
end Go.Proofs.YtcoolgnlhheaiaaGreatDoor
namespace Go.Proofs.YtcoolgnlhheaiaaGreatDoor
open Go.RowKit Go.Deep
set_option linter.all false
set_option maxRecDepth 100000
set_option maxHeartbeats 2000000
theorem dG (k:IntKind) (n i:Nat) (h:i<n):(Array.replicate n (Value.int k 0))[i]? =some (.int k ((0:Nat):Int)):=by simp[h]
theorem aA5 (x c:Nat) (hx:x<16777216) (hc:c<256):bits .or .u32 ((x:Int)*256) (c:Int)=((x*256+c:Nat):Int):=by
 have e:(x:Int)*256=((x*256:Nat):Int):=by omega
 rw[e,u32_or_nat _ _ (by omega) (by omega)];congr 1;have:=Nat.two_pow_add_eq_or_of_lt (i:=8) (b:=c) (by omega) x;rw[Nat.mul_comm] at this;exact this.symm
theorem aIH (k:Nat) (h:k≤3):256 ^ k≤16777216:=by
 have:=Nat.pow_le_pow_right (n:=256) (by omega) h
 simpa using this
theorem aKM (w:World) (b i:Nat) (hi:i<16):(Instr.sliceAt 191 (.pointer (some ⟨b,0,none⟩)) (some (.int .i64 (4*(i:Int)))) (some (.int .i64 (4*(i:Int)+4))) none).run Tryz.prog w= .ok (.slice (some ⟨b,4*i,none⟩) 4 (64 - 4*i)) w:=by
 have hal:(Tryz.prog).arrayLen 191=64:=by go_simp
 rw[run_sliceAt_array_lh w _ ⟨b,0,none⟩ (by go_simp) .i64 .i64 _ _ (by omega) (by omega) (by rw[hal];omega)]
 go_simp
 have e:(4*(i:Int)).toNat=4*i:=by omega
 rw[e,if_neg (by omega)];exact⟨rfl,by omega,rfl⟩
theorem rA (x k:Int) (w:World) (hx:0≤x∧x<4294967296) (hk:1≤k∧k<32):
 Calls Tryz.prog 237 #[.int .u32 x,.int .i64 k] w fun e w'=>e= .returned (.int .u32 ↑(Sha.rotr x.toNat k.toNat))∧w=w':=by
 obtain⟨n,rfl⟩:=Int.eq_ofNat_of_zero_le (show 0≤k by omega);exact aGQ x n w hx (by omega) (by omega)
theorem zM (x:Nat) (h:x<4294967296):bits .xor .u32 (bits .xor .u32 (Sha.rotr x 7:Int) (Sha.rotr x 18:Int)) ((x:Int) / 8)=((Sha.s0 x:Nat):Int):=by
 rw[show(x:Int) / 8=((x / 8:Nat):Int) by omega,u32_xor_nat _ _ (Sha.rotr_lt _ _ h) (Sha.rotr_lt _ _ h),u32_xor_nat _ _ (Sha.xor32 _ _ (Sha.rotr_lt _ _ h) (Sha.rotr_lt _ _ h)) (by omega)];rfl
theorem aAN (x:Nat) (h:x<4294967296):bits .xor .u32 (bits .xor .u32 (Sha.rotr x 17:Int) (Sha.rotr x 19:Int)) ((x:Int) / 1024)=((Sha.s1 x:Nat):Int):=by
 rw[show(x:Int) / 1024=((x / 1024:Nat):Int) by omega,u32_xor_nat _ _ (Sha.rotr_lt _ _ h) (Sha.rotr_lt _ _ h),u32_xor_nat _ _ (Sha.xor32 _ _ (Sha.rotr_lt _ _ h) (Sha.rotr_lt _ _ h)) (by omega)];rfl
def SchedInv (b:Nat→Nat) (w wr:World) (l:List Nat):Prop:=
 Below w.heap.size w wr∧isArr wr w.heap.size 191 .u8 64 b∧isArr wr (w.heap.size+2) 188 .u32 64 (fun j=>l.getD j 0)∧∃c:Array Value,wr.heap[w.heap.size+1]? =some (.cells c 188 (0,0))∧c.size=64
theorem SchedInv.congr {b:Nat→Nat} {w wr:World} {l m:List Nat} (h:SchedInv b w wr l) (e:∀j,l.getD j 0=m.getD j 0):SchedInv b w wr m:=
 ⟨h.1,h.2.1,h.2.2.1.congr fun j _=>e j,h.2.2.2⟩
theorem SchedInv.drewN {b:Nat→Nat} {w wr:World} {l:List Nat} (h:SchedInv b w wr l) (n:Nat):SchedInv b w (wr.drewN n) l:=
 ⟨aU h.1 n,h.2.1,h.2.2.1,h.2.2.2⟩
theorem SchedInv.set {b:Nat→Nat} {w wr:World} {l m:List Nat} (h:SchedInv b w wr l) (i x:Nat) (e:∀j,(if j=i then x else l.getD j 0)=m.getD j 0):SchedInv b w (wr.setCell ⟨w.heap.size+2,i,none⟩ (.int .u32 (x:Int))) m:=by
 obtain⟨h1,h2,h3,c,h4,h5⟩:=h;exact⟨bM h1 (by omega) _ _,h2.setOther (by omega) _ _,(h3.set i x).congr fun j _=>e j,c,(Below.heap_setCell _ _ _ _ (by show w.heap.size+1≠w.heap.size+2;omega)).trans h4,h5⟩
theorem sF (b:Nat→Nat) (w:World) (hb:∀i,b i<256):
 Calls Tryz.prog 236 #[.agg (aH .u8 64 b)] w fun e w'=>e= .returned (.agg (aH .u32 64 (fun i=>(Sha.words b).getD i 0)))∧Below w.heap.size w w':=by
 have HB:=aD hb;clear hb;have hsz:=aA .u8 64 b;go_enter Tryz.func236,Tryz.ntmps236;go_wp2;generalize hW:((w.alloc (Obj.cells (aH IntKind.u8 64 b) 191)).alloc _).alloc _=W;have hWz:W.heap.size=w.heap.size+3:=by rw[←hW];simp
 have hbel:Below w.heap.size w W:=by rw[←hW];exact(((Below.refl _ _).alloc (Nat.le_refl _) _).alloc (by simp) _).alloc (by simp;omega) _
 have hA:isArr W w.heap.size 191 .u8 64 b:=by rw[←hW];exact((aN w _ _ _ _).alloc _).alloc _
 have hZ:isArr W (w.heap.size+2) 188 .u32 64 (fun j=>(Sha.first b 0).getD j 0):=by
  rw[←hW];have e:w.heap.size+2=((w.alloc (Obj.cells (aH IntKind.u8 64 b) 191)).alloc (.cells (Array.replicate 64 (.int .u32 0)) 188)).heap.size:=by simp
  rw[e];exact cM _ _ _ _ _ (Array.replicate 64 (.int .u32 0)) (by simp) (fun i hi=>by rw[dG _ _ _ hi];rfl)
 have hR:∃c:Array Value,W.heap[w.heap.size+1]? =some (.cells c 188 (0,0))∧c.size=64:=by
  rw[←hW];refine⟨Array.replicate 64 (.int .u32 0),?_,by simp⟩;rw[Below.heap_alloc _ _ _ (by simp)];have e:w.heap.size+1=(w.alloc (Obj.cells (aH IntKind.u8 64 b) 191)).heap.size:=by simp
  rw[e];exact heap_alloc_new _ _
 have INV:=aD (show SchedInv b w W (Sha.first b 0) from ⟨hbel,hA,hZ,hR⟩);clear hW hsz hWz hbel hA hZ hR
 go_loopw [4,6,12] (fun _ _ i wr=>∃k:Nat,k≤16∧i= .int .i64 k∧SchedInv b w wr (Sha.first b k)) (fun _ _ i _=>16 - (intOf i).toNat)
 case atStart=>exact⟨0,by omega,rfl,INV.out⟩
 case round=>
  clear INV;obtain⟨i,hi,rfl,hinv⟩:=hrel;have INV:=aD hinv;clear hinv
  by_cases hlt:i<16
  ·obtain⟨wo,hwo⟩:∃wo,wo=wr:=⟨_,rfl⟩
   subst hwo;have hsl:=fun wx=>aKM wx w.heap.size i hlt
   go_wp2_with fail
   go_loopw [6,22] (fun _ j wr=>∃k:Nat,k≤4∧j= .int .i64 k∧SchedInv b w wr (Sha.first b i++[Sha.pw b i k])) (fun _ j _=>4 - (intOf j).toNat)
   case atStart=>exact⟨0,by omega,rfl,INV.out.congr fun j=>(Sha.getD_app_zero _ _).symm⟩
   case round=>
    clear INV;obtain⟨k,hk,rfl,hinv⟩:=hrel;have INV:=aD hinv
    by_cases hlk:k<4
    ·have cb:=hinv.2.1.cell (i:=4*i+k) (by omega)
     have cw:=hinv.2.2.1.cell (i:=i) (by omega);have fw:=hinv.2.2.1.frozen i;have e1:(Sha.first b i++[Sha.pw b i k]).getD i 0=Sha.pw b i k:=by
      have:=Sha.getD_last (Sha.first b i) (Sha.pw b i k)
      rwa [Sha.first_length] at this
     rw[e1] at cw;have hx:Sha.pw b i k<16777216:=Nat.lt_of_lt_of_le (Sha.pw_lt b HB.out i k) (aIH k (by omega));have hbb:=HB.out (4*i+k);have hnext:∀j,(if j=i then Sha.pw b i k*256+b (4*i+k) else (Sha.first b i++[Sha.pw b i k]).getD j 0)=(Sha.first b i++[Sha.pw b i (k+1)]).getD j 0:=by
      intro j;have:=Sha.getD_set_last (Sha.first b i) (Sha.pw b i k) (Sha.pw b i (k+1)) j;rw[Sha.first_length] at this;exact this
     have INV2:=aD (INV.out.set i _ hnext);clear hinv e1 hnext INV;generalize Sha.pw b i k=x at cw hx INV2 ⊢;generalize b (4*i+k)=c at cb hbb INV2;have eor:=aA5 x c hx hbb;go_wp2_with fail;go_roundw
     case rel=>exact⟨k+1,by omega,by go_num,INV2.out⟩
     case measure=>simp[intOf];omega
    ·obtain rfl:k=4:=by omega
     clear hinv;go_wp2_with fail;go_roundw
     case rel=>exact⟨i+1,by omega,by go_num,by rw[Sha.first_succ];exact INV.out⟩
     case measure=>simp[intOf];omega
  ·obtain rfl:i=16:=by omega
   clear hlt hi;have INV3:=aD (show SchedInv b w wr (Sha.ext b 0) from INV.out);clear INV;go_wp2_with fail
   go_loopw [7] (fun i wr=>∃m:Nat,m≤48∧i= .int .i64 ((16+m:Nat):Int)∧SchedInv b w wr (Sha.ext b m)) (fun i _=>64 - (intOf i).toNat)
   case atStart=>exact⟨0,by omega,rfl,INV3.out⟩
   case round=>
    clear INV3;obtain⟨m,hm,rfl,hinv⟩:=hrel
    by_cases hlt:m<48
    ·have c0:=hinv.2.2.1.cell (i:=m) (by omega)
     have c1:=hinv.2.2.1.cell (i:=m+1) (by omega);have c9:=hinv.2.2.1.cell (i:=m+9) (by omega);have c14:=hinv.2.2.1.cell (i:=m+14) (by omega);have fw:=hinv.2.2.1.frozen (16+m);have cw:=hinv.2.2.1.cell (i:=16+m) (by omega);have h0:=Sha.getD_lt _ (Sha.ext_lt b HB.out m) m;have h1:=Sha.getD_lt _ (Sha.ext_lt b HB.out m) (m+1);have h9:=Sha.getD_lt _ (Sha.ext_lt b HB.out m) (m+9);have h14:=Sha.getD_lt _ (Sha.ext_lt b HB.out m) (m+14);have hnext:∀j,(if j=16+m then Sha.nextw (Sha.ext b m) m else (Sha.ext b m).getD j 0)=(Sha.ext b (m+1)).getD j 0:=by
      intro j;have:=Sha.getD_set_new (Sha.ext b m) (Sha.nextw (Sha.ext b m) m) j;rw[Sha.ext_length] at this;exact this
     have INV4:=aD (hinv.set (16+m) _ hnext);have hnw:Sha.nextw (Sha.ext b m) m=((Sha.ext b m).getD m 0+Sha.s0 ((Sha.ext b m).getD (m+1) 0)+(Sha.ext b m).getD (m+9) 0+Sha.s1 ((Sha.ext b m).getD (m+14) 0)) % 4294967296:=rfl;rw[hnw] at INV4;clear hinv hnext hnw;generalize (Sha.ext b m).getD m 0=x0 at c0 h0 INV4;generalize (Sha.ext b m).getD (m+1) 0=x1 at c1 h1 INV4;generalize (Sha.ext b m).getD (m+9) 0=x9 at c9 h9 INV4;generalize (Sha.ext b m).getD (m+14) 0=x14 at c14 h14 INV4;obtain⟨i,hi⟩:∃i:Nat,i=16+m:=⟨_,rfl⟩;rw[←hi] at INV4 fw cw ⊢;have hi16:16≤i:=by omega
     have hi64:i<64:=by omega
     have hd:decide ((i:Int)<64)=true:=by simp;omega
     obtain⟨p1,hp1⟩:∃p:Nat,p=m+1:=⟨_,rfl⟩;obtain⟨p9,hp9⟩:∃p:Nat,p=m+9:=⟨_,rfl⟩;obtain⟨p14,hp14⟩:∃p:Nat,p=m+14:=⟨_,rfl⟩;have w15:IntKind.i64.wrap ((i:Int) - 15)=(p1:Int):=(IntWalk.i64_in _ (by omega)).trans (by omega);have w2:IntKind.i64.wrap ((i:Int) - 2)=(p14:Int):=(IntWalk.i64_in _ (by omega)).trans (by omega);have w16:IntKind.i64.wrap ((i:Int) - 16)=(m:Int):=(IntWalk.i64_in _ (by omega)).trans (by omega);have w7:IntKind.i64.wrap ((i:Int) - 7)=(p9:Int):=(IntWalk.i64_in _ (by omega)).trans (by omega);have ne0:(⟨w.heap.size+1+1,i,none⟩:Addr)≠⟨w.heap.size+1+1,m,none⟩:=by intro h;have:=congrArg Addr.off h;clear w15 w2 w16 w7;simp at this;omega
     have ne9:(⟨w.heap.size+1+1,i,none⟩:Addr)≠⟨w.heap.size+1+1,p9,none⟩:=by intro h;have:=congrArg Addr.off h;clear w15 w2 w16 w7;simp at this;omega
     have l1:(p1:Int)<64:=by clear w15 w2 w16 w7;omega
     have l9:(p9:Int)<64:=by omega
     have l14:(p14:Int)<64:=by omega
     have lm:(m:Int)<64:=by omega
     have li:(i:Int)<64:=by omega
     have n1:0≤(p1:Int):=by omega
     have n9:0≤(p9:Int):=by omega
     have n14:0≤(p14:Int):=by omega
     rw[←hp1] at c1;rw[←hp9] at c9;rw[←hp14] at c14;have HI:=aD (aQ hi hm);clear hi hp1 hp9 hp14 hm;go_wp2_with fail;go_quiet (fail);have W16:=aD w16;have W7:=aD w7;have b1:0≤(x1:Int)∧(x1:Int)<4294967296:=by clear w15 w2 w16 w7;omega
     have b14:0≤(x14:Int)∧(x14:Int)<4294967296:=by clear w15 w2 w16 w7;omega
     clear w15 w2 w16 w7;go_wp2_with (go_at_call 237;refine(rA _ _ _ (by first|exact b1|exact b14) (by omega)).mono ?_;rintro e w' ⟨rfl,rfl⟩);rw[zM x1 h1,aAN x14 h14];have hy1:=Sha.s0_lt x1 h1;have hy14:=Sha.s1_lt x14 h14;generalize Sha.s0 x1=y1 at hy1 INV4 ⊢;generalize Sha.s1 x14=y14 at hy14 INV4 ⊢;clear b1 b14 h1 h14 c1 c14 l1 l14 n1 n14;obtain⟨wq,hwq⟩:∃wq,wq=wr.drewN nq:=⟨_,rfl⟩;have k0:wq.cell? ⟨w.heap.size+1+1,m,none⟩=some (.int .u32 (x0:Int)):=by rw[hwq];exact c0
     have k9:wq.cell? ⟨w.heap.size+1+1,p9,none⟩=some (.int .u32 (x9:Int)):=by rw[hwq];exact c9
     have INV5:=aD (show ∀n,SchedInv b w ((wq.drewN n).setCell ⟨w.heap.size+2,i,none⟩ (.int .u32 (((x0+y1+x9+y14) % 4294967296:Nat):Int))) (Sha.ext b (m+1)) by rw[hwq];exact fun n=>(INV4.out.drewN nq).drewN n);have kw:∃v,wq.cell? ⟨w.heap.size+1+1,i,none⟩=some v:=⟨_,by rw[hwq];exact cw⟩;have kf:wq.frozen? ⟨w.heap.size+1+1,i,none⟩=false:=by rw[hwq];exact fw
     rw[←hwq];clear hwq INV4 c0 c9 cw fw;obtain⟨vw,kw⟩:=kw;have w16:=W16.out;have w7:=W7.out;have nm:0≤(m:Int):=Int.natCast_nonneg _;have n9':0≤(p9:Int):=Int.natCast_nonneg _;have hv:IntKind.u32.wrap (IntKind.u32.wrap (IntKind.u32.wrap ((x0:Int)+y1)+x9)+y14)=(((x0+y1+x9+y14) % 4294967296:Nat):Int):=by clear w16 w7;simp only[IntKind.wrap_u32];omega
     have HV:=aD hv;clear hv
     go_region_held3 (fun w'=>w'.cell? ⟨w.heap.size+1+1,m,none⟩=some (.int .u32 (x0:Int))∧w'.cell? ⟨w.heap.size+1+1,p9,none⟩=some (.int .u32 (x9:Int))) (first|exact⟨k0,k9⟩|exact⟨(World.cell?_setCell_other (h:=ne0) ..).trans k0,(World.cell?_setCell_other (h:=ne9) ..).trans k9⟩) (fail)
     rw[HV.out];clear w16 w7 HV;go_wp2_with fail;refine⟨?_,?measure⟩
     ·(repeat apply Exists.intro)
      refine⟨?rel,rfl⟩
      case rel=>
       have e:((x0:Int)+y1+x9+y14) % 4294967296=(((x0+y1+x9+y14) % 4294967296:Nat):Int):=by omega
       refine⟨m+1,by have:=HI.out;omega,by have:=HI.out.1;congr 1;omega,?_⟩;rw[e];exact(INV5.out 0).drewN 1
     case measure=>simp[intOf];omega
    ·obtain rfl:m=48:=by omega
     have hd:decide (((16+48:Nat):Int)<64)=false:=by decide
     obtain⟨h1,h2,h3,c,h4,h5⟩:=hinv;clear hlt hm h2;have hi64:((Tryz.prog).info? 188).map (·.size)=some (aH .u32 64 (fun j=>(Sha.ext b 48).getD j 0)).size:=by rw[aA];rfl
     go_wp2_with (first|refine wpList_load_row rfl _ _ rfl (w.heap.size+1+1) rfl _ _ (0,0) _ h3 rfl rfl hi64 ?_|(refine wpList_store_row rfl _ _ _ rfl (w.heap.size+1) _ rfl rfl _ c h4 hi64 (h5.trans (aA _ _ _).symm) (aL _ _ _) ?_));exact bodyPost_ret (results_cell_row rfl _ _ (w.heap.size+1) _ _ (0,0) _ rfl (setRow_heap wr (w.heap.size+1) c _ _ (0,0) h4) rfl rfl hi64) rfl ⟨rfl,below_setRow h1 (by omega) _⟩
end Go.Proofs.YtcoolgnlhheaiaaGreatDoor
namespace Go.Proofs.YtcoolgnlhheaiaaGreatDoor
open Go.RowKit Go.Deep
set_option linter.all false
set_option maxRecDepth 100000
set_option maxHeartbeats 2000000
def Consts (w:World) (k:Nat→Nat):Prop:=∀i,i<64→w.cell? ⟨0,i,none⟩=some (.int .u32 (k i:Int))
theorem aAG (K b:Nat→Nat) (s:Sha.St) (hs:Sha.St32 s) (k:Nat):Sha.St32 (Sha.rd K s b k):=by
 induction k with
 |zero=>exact hs
 |succ k ih=>
  unfold Sha.rd;obtain⟨h1,h2,h3,h4,h5,h6,h7,h8⟩:=ih;exact⟨Nat.mod_lt _ (by omega),h1,h2,h3,Nat.mod_lt _ (by omega),h5,h6,h7⟩
theorem i7 (x i j k:Nat) (h:x<4294967296):bits .xor .u32 (bits .xor .u32 (Sha.rotr x i:Int) (Sha.rotr x j:Int)) (Sha.rotr x k:Int)=((Sha.rotr x i ^^^ Sha.rotr x j ^^^ Sha.rotr x k:Nat):Int):=by
 rw[u32_xor_nat _ _ (Sha.rotr_lt _ _ h) (Sha.rotr_lt _ _ h),u32_xor_nat _ _ (Sha.xor32 _ _ (Sha.rotr_lt _ _ h) (Sha.rotr_lt _ _ h)) (Sha.rotr_lt _ _ h)]
theorem rS (e f g:Nat) (he:e<4294967296) (hf:f<4294967296) (hg:g<4294967296):
 bits .xor .u32 (bits .and .u32 (e:Int) (f:Int)) (bits .and .u32 (bits .xor .u32 (if IntKind.u32.signed=true then -1 else IntKind.u32.max) (e:Int)) (g:Int))=((Sha.ch e f g:Nat):Int):=by
 have e1:(if IntKind.u32.signed=true then (-1:Int) else IntKind.u32.max)=((4294967295:Nat):Int):=by decide
 rw[e1,u32_xor_nat _ _ (by omega) he,u32_and_nat _ _ he hf,u32_and_nat _ _ (Sha.xor32 _ _ (by omega) he) hg,u32_xor_nat _ _ (Sha.and32 _ _ hf) (Sha.and32 _ _ hg)];rfl
theorem tO (a b c:Nat) (ha:a<4294967296) (hb:b<4294967296) (hc:c<4294967296):
 bits .xor .u32 (bits .xor .u32 (bits .and .u32 (a:Int) (b:Int)) (bits .and .u32 (a:Int) (c:Int))) (bits .and .u32 (b:Int) (c:Int))=((Sha.maj a b c:Nat):Int):=by
 rw[u32_and_nat _ _ ha hb,u32_and_nat _ _ ha hc,u32_and_nat _ _ hb hc,u32_xor_nat _ _ (Sha.and32 _ _ hb) (Sha.and32 _ _ hc),u32_xor_nat _ _ (Sha.xor32 _ _ (Sha.and32 _ _ hb) (Sha.and32 _ _ hc)) (Sha.and32 _ _ hc)];rfl
def BlkInv (f:Nat→Nat) (w wr:World):Prop:=
 Below w.heap.size w wr∧isArr wr w.heap.size 186 .u32 8 f∧isArr wr (w.heap.size+2) 186 .u32 8 (fun _=>0)
theorem BlkInv.drewN {f:Nat→Nat} {w wr:World} (h:BlkInv f w wr) (n:Nat):BlkInv f w (wr.drewN n):=⟨aU h.1 n,h.2.1,h.2.2⟩
def eU (s x:Sha.St) (m j:Nat):Nat:=if j<m then (s.at j+x.at j) % 4294967296 else s.at j
theorem BlkInv.set {s x:Sha.St} {w wr:World} {m:Nat} (h:BlkInv (eU s x m) w wr):BlkInv (eU s x (m+1)) w (wr.setCell ⟨w.heap.size,m,none⟩ (.int .u32 (((s.at m+x.at m) % 4294967296:Nat):Int))):=by
 obtain⟨h1,h2,h3⟩:=h;refine⟨bM h1 (Nat.le_refl _) _ _,(h2.set m _).congr fun j _=>?_,h3.setOther (by omega) _ _⟩;unfold eU
 by_cases e:j=m
 ·subst e;simp
 ·rw[if_neg e]
  by_cases e2:j<m
  ·rw[if_pos e2,if_pos (by omega)]
  ·rw[if_neg e2,if_neg (by omega)]
theorem vQ (s x:Sha.St) (m:Nat):eU s x m m=s.at m:=by unfold eU;rw[if_neg (Nat.lt_irrefl _)]
theorem pN (K:Nat→Nat) (s:Sha.St) (b:Nat→Nat) (j:Nat) (h:j<8):eU s (Sha.rd K s b 64) 8 j=(Sha.blk K s b).at j:=by
 unfold eU Sha.blk;rw[if_pos h];generalize Sha.rd K s b 64=x;rcases j with _|_|_|_|_|_|_|_|j
 all_goals first|omega|simp[Sha.St.at,Sha.plus]
theorem nO (s x:Sha.St):eU s x 0=s.at:=by funext j;unfold eU;rw[if_neg (Nat.not_lt_zero _)]
theorem tH (s:Sha.St) (h:Sha.St32 s) (j:Nat):s.at j<4294967296:=Sha.at_32 s h j
theorem aB3 (x:Sha.St):(#[.int .u32 ↑x.a,.int .u32 ↑x.b,.int .u32 ↑x.c,.int .u32 ↑x.d,.int .u32 ↑x.e,.int .u32 ↑x.f,.int .u32 ↑x.g,.int .u32 ↑x.h]:Array Value)=aH .u32 8 x.at:=
 bY _ _ _ _ rfl fun i hi=>by rcases i with _|_|_|_|_|_|_|_|i<;>first|rfl|omega
theorem Consts.below {w w':World} {K:Nat→Nat} (h:Consts w K) (hb:Below w.heap.size w w'):Consts w' K:=fun i hi=>by
 have c:=h i hi;exact(hb.cell (p:=⟨0,i,none⟩) (World.block_lt_of_cell? w _ c)).trans c
theorem uA (b:Nat→Nat) (w:World) (hb:∀i,b i<256):
 Calls Tryz.prog 236 #[.agg (aH .u8 64 b)] w fun e w'=>e= .returned (.agg (aH .u32 64 (Sha.wd b)))∧Below w.heap.size w w':=sF b w hb
def aAL (x:Sha.St) (va vb vc vd ve vf vg vh:Value):Prop:=
 va= .int .u32 ↑x.a∧vb= .int .u32 ↑x.b∧vc= .int .u32 ↑x.c∧vd= .int .u32 ↑x.d∧ve= .int .u32 ↑x.e∧vf= .int .u32 ↑x.f∧vg= .int .u32 ↑x.g∧vh= .int .u32 ↑x.h
theorem vA (K:Nat→Nat) (s:Sha.St) (b:Nat→Nat):aAL (Sha.rd K s b 0) (.int .u32 ↑(s.at 0)) (.int .u32 ↑(s.at 1)) (.int .u32 ↑(s.at 2)) (.int .u32 ↑(s.at 3)) (.int .u32 ↑(s.at 4)) (.int .u32 ↑(s.at 5)) (.int .u32 ↑(s.at 6)) (.int .u32 ↑(s.at 7)):=⟨rfl,rfl,rfl,rfl,rfl,rfl,rfl,rfl⟩
theorem yR {K:Nat→Nat} {s:Sha.St} {b:Nat→Nat} {k:Nat} {x:Sha.St} {va vb vc vd ve vf vg vh:Value} (e:Sha.rd K s b k=x) (h:aAL (Sha.round x (K k) (Sha.wd b k)) va vb vc vd ve vf vg vh):aAL (Sha.rd K s b (k+1)) va vb vc vd ve vf vg vh:=by
 unfold Sha.rd;rw[e];exact h
attribute [local irreducible] Sha.rd Sha.wd
theorem aCB (s:Sha.St) (b:Nat→Nat) (K:Nat→Nat) (w:World) (hs:Sha.St32 s) (hb:∀i,b i<256) (hk:Consts w K):
 Calls Tryz.prog 185 #[.agg (aH .u32 8 s.at),.agg (aH .u8 64 b)] w fun e w'=>e= .returned (.agg (aH .u32 8 (Sha.blk K s b).at))∧Below w.heap.size w w':=by
 have HS:=aD hs;clear hs;have HK:=aD hk;clear hk;have HB:=aD hb;clear hb;go_enter Tryz.func185,Tryz.ntmps185;have hi64:((Tryz.prog).info? 191).map (·.size)=some (aH .u8 64 b).size:=by rw[aA];rfl
 have hsz:=aA .u8 64 b;have hsz8:=aA .u32 8 s.at;go_upto_region 1 with (fail);generalize hW:((w.alloc _).alloc _).alloc _=W;have hWz:W.heap.size=w.heap.size+3:=by rw[←hW];simp
 have hbel:Below w.heap.size w W:=by rw[←hW];exact(((Below.refl _ _).alloc (Nat.le_refl _) _).alloc (by simp) _).alloc (by simp;omega) _
 have hS:isArr W w.heap.size 186 .u32 8 s.at:=by rw[←hW];exact((aN w _ _ _ _).alloc _).alloc _
 have hA:isArr W (w.heap.size+1) 191 .u8 64 b:=by
  rw[←hW];have e:w.heap.size+1=(w.alloc (Obj.cells (aH IntKind.u32 8 s.at) 186)).heap.size:=by simp
  rw[e];exact(aN _ _ _ _ _).alloc _
 have hR:isArr W (w.heap.size+2) 186 .u32 8 (fun _=>0):=by
  rw[←hW];have e:w.heap.size+2=((w.alloc (Obj.cells (aH IntKind.u32 8 s.at) 186)).alloc (Obj.cells (aH IntKind.u8 64 b) 191)).heap.size:=by simp
  rw[e];exact cM _ _ _ _ _ _ rfl (fun i hi=>by rcases i with _|_|_|_|_|_|_|_|i<;>first|rfl|omega)
 clear hW hsz hsz8;have hi37:∀f,((Tryz.prog).info? 188).map (·.size)=some (aH .u32 64 f).size:=by intro f;rw[aA];rfl
 go_wp2_with (first|refine wpList_load_row rfl _ _ rfl (w.heap.size+1) rfl _ _ (0,0) _ hA rfl rfl hi64 ?_|(go_at_call 236;refine(uA b _ HB.out).mono ?_;rintro e w2 ⟨rfl,hb2⟩)|(refine wpList_store_rowTo rfl _ _ _ rfl rfl w2.heap.size _ rfl rfl _ _ (heap_alloc_new _ _) (hi37 _) (by rw[aA];rfl) (aL _ _ _) ?_));generalize hV:World.setRow _ w2.heap.size _=V;have hWV:isArr V w2.heap.size 188 .u32 64 (Sha.wd b):=by rw[←hV];exact setRow_heap _ _ _ _ _ _ (heap_alloc_new _ _)
 have hz2:=hb2.size;have hbV:Below w.heap.size w V:=by rw[←hV];exact below_setRow ((hbel.trans (hb2.mono (by omega))).alloc (by omega) _) (by omega) _
 have hSV:isArr V w.heap.size 186 .u32 8 s.at:=by rw[←hV];exact isArr.of_block ((hS.below hb2 (by omega)).alloc _) (setRow_other _ _ _ _ (by omega))
 have hRV:isArr V (w.heap.size+2) 186 .u32 8 (fun _=>0):=by rw[←hV];exact isArr.of_block ((hR.below hb2 (by omega)).alloc _) (setRow_other _ _ _ _ (by omega))
 have INV:=aD (show BlkInv s.at w V from ⟨hbV,hSV,hRV⟩);have c0:=hSV.cell (i:=0) (by omega);have c1:=hSV.cell (i:=1) (by omega);have c2:=hSV.cell (i:=2) (by omega);have c3:=hSV.cell (i:=3) (by omega);have c4:=hSV.cell (i:=4) (by omega);have c5:=hSV.cell (i:=5) (by omega);have c6:=hSV.cell (i:=6) (by omega);have c7:=hSV.cell (i:=7) (by omega);clear hV hz2 hbV hSV hRV hWz hbel hS hA hR hb2;go_quiet (fail);go_wp2_with fail;go_quiet (fail);go_wp2_with (refine wpList_load_row rfl _ _ rfl w2.heap.size rfl _ _ (0,0) _ (show isArr _ w2.heap.size 188 .u32 64 (Sha.wd b) from hWV) rfl rfl (hi37 _) ?_);clear c0 c1 c2 c3 c4 c5 c6 c7 hWV;have INV2:=aD (show ∀n,BlkInv s.at w (V.drewN n) from fun n=>INV.out.drewN n);clear INV
 go_loopw [6,7,8,9,10,11,12,13,39] (fun va vb vc vd ve vf vg vh i wr=>∃k:Nat,k≤64∧i= .int .i64 k∧aAL (Sha.rd K s b k) va vb vc vd ve vf vg vh∧BlkInv s.at w wr) (fun _ _ _ _ _ _ _ _ i _=>64 - (intOf i).toNat)
 case atStart=>exact⟨0,by omega,rfl,vA K s b,INV2.out _⟩
 case round=>
  clear INV2;obtain⟨k,hk,rfl,⟨rfl,rfl,rfl,rfl,rfl,rfl,rfl,rfl⟩,hinv⟩:=hrel
  by_cases hlt:k<64
  ·have h32:=aAG K b s HS.out k
   have hkc:wr.cell? ⟨0,k,none⟩=some (.int .u32 ↑(K k)):=(HK.out.below hinv.1) k hlt;have hwk:(aH .u32 64 (Sha.wd b))[k]? =some (.int .u32 ↑(Sha.wd b k)):=cJ _ _ _ _ hlt;generalize hx:Sha.rd K s b k=x at h32 ⊢;have HX:=aD hx;clear hx;obtain⟨h1,h2,h3,h4,h5,h6,h7,h8⟩:=h32;have INV:=aD hinv;clear hinv;have hix:=fun wx=>fY (w:=wx) (k:=.i64) .u32 Tryz.underlying188 Tryz.underlying44 (by kernel_rfl) hlt hwk
   have ba:0≤(x.a:Int)∧(x.a:Int)<4294967296:=by omega
   have be:0≤(x.e:Int)∧(x.e:Int)<4294967296:=by omega
   go_wp2_with fail;go_quiet ((go_at_call 237;exact eH (rA _ _ _ be (by omega))));have INV3:=aD (INV.out.drewN nq);clear hkc hwk hix INV;generalize wr.drewN nq=wn at INV3 ⊢;go_wp2_with (go_at_call 237;refine(rA _ _ _ ba (by omega)).mono ?_;rintro e w' ⟨rfl,rfl⟩);go_roundw
   case rel=>
    refine⟨k+1,by omega,by go_num,yR HX.out ⟨?_,rfl,rfl,rfl,?_,rfl,rfl,rfl⟩,INV3.out⟩
    ·rw[i7 _ _ _ _ h5,rS _ _ _ h5 h6 h7,i7 _ _ _ _ h1,tO _ _ _ h1 h2 h3]
     refine congrArg (Value.int .u32) ?_;unfold Sha.round Sha.t1 Sha.t2 Sha.big0 Sha.big1;simp only;omega
    ·rw[i7 _ _ _ _ h5,rS _ _ _ h5 h6 h7]
     refine congrArg (Value.int .u32) ?_;unfold Sha.round Sha.t1 Sha.big1;simp only;omega
   case measure=>simp[intOf];omega
  ·obtain rfl:k=64:=by omega
   have hx:=aD (aAG K b s HS.out 64);have INV:=aD hinv;clear hinv hlt hk;go_wp2_with fail;rw[aB3];generalize hy:Sha.rd K s b 64=x at hx ⊢;have HY:=aD hy;clear hy;have INV4:=aD (show BlkInv (eU s x 0) w wr by rw[nO];exact INV.out);clear INV
   go_loopw [110] (fun i wr=>∃m:Nat,m≤8∧i= .int .i64 m∧BlkInv (eU s x m) w wr) (fun i _=>8 - (intOf i).toNat)
   case atStart=>exact⟨0,by omega,rfl,INV4.out⟩
   case round=>
    clear INV4;obtain⟨m,hm,rfl,hinv⟩:=hrel
    by_cases hlt:m<8
    ·have c0:=hinv.2.1.cell (i:=m) hlt
     have f0:=hinv.2.1.frozen m;rw[vQ] at c0;have hix:=fun wx=>fY (w:=wx) (k:=.i64) .u32 Tryz.underlying186 Tryz.underlying44 (by kernel_rfl) hlt (cJ .u32 8 x.at m hlt)
     have INV5:=aD hinv.set;have b1:=tH s HS.out m;have b2:=tH x hx.out m;clear hinv;generalize s.at m=p at c0 b1 INV5;generalize x.at m=q at hix b2 INV5;go_wp2_with fail;have e:((p:Int)+q) % 4294967296=(((p+q) % 4294967296:Nat):Int):=by omega
     go_roundw
     case rel=>exact⟨m+1,by omega,by go_num,by rw[e];exact INV5.out⟩
     case measure=>simp[intOf];omega
    ·obtain rfl:m=8:=by omega
     obtain⟨k1,k2,k3⟩:=hinv;have k4:isArr wr w.heap.size 186 .u32 8 (Sha.blk K s b).at:=k2.congr fun j hj=>by rw[←HY.out];exact pN K s b j hj
     clear hlt hm k2;have hi8:∀f,((Tryz.prog).info? 186).map (·.size)=some (aH .u32 8 f).size:=by intro f;rw[aA];rfl
     go_wp2_with (first|refine wpList_load_row rfl _ _ rfl (w.heap.size) rfl _ _ (0,0) _ k4 rfl rfl (hi8 _) ?_|(refine wpList_store_row rfl _ _ _ rfl (w.heap.size+2) _ rfl rfl _ _ k3 (hi8 _) ((aA _ _ _).trans (aA _ _ _).symm) (aL _ _ _) ?_));exact bodyPost_ret (results_cell_row rfl _ _ (w.heap.size+2) _ _ (0,0) _ rfl (setRow_heap wr (w.heap.size+2) _ _ _ (0,0) k3) rfl rfl (hi8 _)) rfl ⟨rfl,below_setRow k1 (by omega) _⟩
end Go.Proofs.YtcoolgnlhheaiaaGreatDoor
namespace Go.Proofs.YtcoolgnlhheaiaaGreatDoor
open Go.RowKit Go.Deep
set_option linter.all false
set_option maxRecDepth 100000
set_option maxHeartbeats 2000000
theorem aBW:(#[.int .u32 1779033703,.int .u32 3144134277,.int .u32 1013904242,.int .u32 2773480762,.int .u32 1359893119,.int .u32 2600822924,.int .u32 528734635,.int .u32 1541459225]:Array Value)=aH .u32 8 Sha.start.at:=
 bY _ _ _ _ rfl fun i hi=>by rcases i with _|_|_|_|_|_|_|_|i<;>first|rfl|omega
theorem aCW (w:World):Calls Tryz.prog 183 #[] w fun e w'=>e= .returned (.agg (aH .u32 8 Sha.start.at))∧Below w.heap.size w w':=by
 go_enter Tryz.func183,Tryz.ntmps183;go_wp2_with fail;rw[aBW];have hi8:∀f,((Tryz.prog).info? 186).map (·.size)=some (aH .u32 8 f).size:=by intro f;rw[aA];rfl
 exact bodyPost_ret (results_cell_row rfl _ _ w.heap.size _ _ (0,0) _ rfl (heap_alloc_new _ _) rfl rfl (hi8 _)) rfl ⟨rfl,(Below.refl _ _).alloc (Nat.le_refl _) _⟩
end Go.Proofs.YtcoolgnlhheaiaaGreatDoor
namespace Go.Proofs.YtcoolgnlhheaiaaGreatDoor
open Go.RowKit Go.Deep
set_option linter.all false
set_option maxRecDepth 100000
set_option maxHeartbeats 2000000
theorem sJ:(#[.int .u32 1779033703,.int .u32 3144134277,.int .u32 1013904242,.int .u32 2773480762,.int .u32 1359893119,.int .u32 2600822924,.int .u32 528734635,.int .u32 1541459225]:Array Value)=aH .u32 8 Sha.start.at:=
 bY _ _ _ _ rfl fun i hi=>by rcases i with _|_|_|_|_|_|_|_|i<;>first|rfl|omega
theorem rZ (w:World):Calls Tryz.prog 95 #[] w fun e w'=>e= .returned (.agg (aH .u32 8 Sha.start.at))∧Below w.heap.size w w':=by
 go_enter Tryz.func95,Tryz.ntmps95;go_wp2_with fail;rw[sJ];have hi8:∀f,((Tryz.prog).info? 186).map (·.size)=some (aH .u32 8 f).size:=by intro f;rw[aA];rfl
 exact bodyPost_ret (results_cell_row rfl _ _ w.heap.size _ _ (0,0) _ rfl (heap_alloc_new _ _) rfl rfl (hi8 _)) rfl ⟨rfl,(Below.refl _ _).alloc (Nat.le_refl _) _⟩
theorem xL (c:Array Value) (h:c.toList=Sha.tableL.map fun n:Nat=>Value.int .u32 (n:Int)):c=aH .u32 64 Sha.tab:=by
 have hs:c.size=64:=by rw[←Array.length_toList,h];rfl
 refine bY _ _ _ _ hs fun i hi=>?_
 have hl:i<Sha.tableL.length:=hi;rw[←Array.getElem?_toList,h,List.getElem?_map,List.getElem?_eq_getElem hl];simp[Sha.tab,List.getD,hl]
theorem aGN:(#[.int .u32 1116352408,.int .u32 1899447441,.int .u32 3049323471,.int .u32 3921009573,.int .u32 961987163,.int .u32 1508970993,.int .u32 2453635748,.int .u32 2870763221,.int .u32 3624381080,.int .u32 310598401,.int .u32 607225278,.int .u32 1426881987,.int .u32 1925078388,.int .u32 2162078206,.int .u32 2614888103,.int .u32 3248222580,.int .u32 3835390401,.int .u32 4022224774,.int .u32 264347078,.int .u32 604807628,.int .u32 770255983,.int .u32 1249150122,.int .u32 1555081692,.int .u32 1996064986,.int .u32 2554220882,.int .u32 2821834349,.int .u32 2952996808,.int .u32 3210313671,.int .u32 3336571891,.int .u32 3584528711,.int .u32 113926993,.int .u32 338241895,.int .u32 666307205,.int .u32 773529912,.int .u32 1294757372,.int .u32 1396182291,.int .u32 1695183700,.int .u32 1986661051,.int .u32 2177026350,.int .u32 2456956037,.int .u32 2730485921,.int .u32 2820302411,.int .u32 3259730800,.int .u32 3345764771,.int .u32 3516065817,.int .u32 3600352804,.int .u32 4094571909,.int .u32 275423344,.int .u32 430227734,.int .u32 506948616,.int .u32 659060556,.int .u32 883997877,.int .u32 958139571,.int .u32 1322822218,.int .u32 1537002063,.int .u32 1747873779,.int .u32 1955562222,.int .u32 2024104815,.int .u32 2227730452,.int .u32 2361852424,.int .u32 2428436474,.int .u32 2756734187,.int .u32 3204031479,.int .u32 3329325298]:Array Value)=aH .u32 64 Sha.tab:=xL _ (by simp[Sha.tableL])
theorem aBM (w:World):Calls Tryz.prog 96 #[] w fun e w'=>e= .returned (.agg (aH .u32 64 Sha.tab))∧Below w.heap.size w w':=by
 have hi64:∀f,((Tryz.prog).info? 188).map (·.size)=some (aH .u32 64 f).size:=by intro f;rw[aA];rfl
 go_enter Tryz.func96,Tryz.ntmps96;go_wp2_with (refine wpList_store_rowTo rfl _ _ _ rfl rfl w.heap.size _ rfl (congrArg Value.agg aGN) _ _ (heap_alloc_new _ _) (hi64 Sha.tab) (by rw[aA];rfl) (aL _ _ _) ?_);exact bodyPost_ret (results_cell_row rfl _ _ w.heap.size _ _ (0,0) _ rfl (setRow_heap _ w.heap.size _ _ _ (0,0) (heap_alloc_new _ _)) rfl rfl (hi64 _)) rfl ⟨rfl,below_setRow ((Below.refl _ _).alloc (Nat.le_refl _) _) (Nat.le_refl _) _⟩
end Go.Proofs.YtcoolgnlhheaiaaGreatDoor
namespace Go.Proofs.YtcoolgnlhheaiaaGreatDoor
open Go.RowKit Go.Deep
set_option linter.all false
set_option maxRecDepth 100000
set_option maxHeartbeats 2000000
theorem wC (n:Nat) (w:World) (hn:n≤140737488355328):
 Calls Tryz.prog 186 #[.int .i64 n] w (cG (Sha.pad n) w):=by
 obtain⟨z,hz⟩:∃z,z=(119 - n % 64) % 64:=⟨_,rfl⟩;have E:=aD (show Sha.pad n=128::(List.replicate z 0++Wir.enc 8 (8*n)) by rw[hz];rfl);have hzi:(119 - (n:Int) % 64) % 64=(z:Int):=by omega
 have hz64:z<64:=by omega
 have hx:(8:Int)*(n:Int)=((8*n:Nat):Int):=by omega
 have hx2:8*n<18446744073709551616:=by omega
 clear hz;generalize 8*n=x at E hx hx2;have HX:=aD hx2;go_enter Tryz.func186,Tryz.ntmps186;go_wp2_with (at_make;go_must (refine dE rfl _ _ rfl w.heap.size _ _ _ _ (1+z+8) rfl rfl (by omega) (by omega) (by omega) (Nat.le_refl _) ?_;intro w1 hown hgr;obtain⟨v0,c0⟩:∃v0,w1.cell? ⟨w.heap.size,0,none⟩=some v0:=⟨_,hown.cellAt (by simp)⟩;have f0:=hown.frozenAt 0));obtain⟨ho2,hg2⟩:=hown.set 0 128 (by omega);have hb1:=aB hgr;have hb2:=aP hb1 (Nat.le_refl _) hg2 (fun g hg=>by simp at hg;omega);have ho3:Own (w1.setCell ⟨w.heap.size,0,none⟩ (bv 128)) w.heap.size (.slice (some ⟨w.heap.size,0,none⟩) (1+z+8) (1+z+8)) (128::(List.replicate (z+8 - 0) 0++Wir.enc 0 x)):=by
  have e:(List.replicate (1+z+8) 0).set 0 128=128::(List.replicate (z+8 - 0) 0++Wir.enc 0 x):=by
   rw[show 1+z+8=(z+8)+1 by omega,List.replicate_succ];simp[Wir.enc]
  rw[←e];exact ho2
 clear hown hgr c0 f0 ho2 hg2 hb1 hzi hx;have O1:=aD ho3;clear ho3;have B1:=aD hb2;clear hb2
 go_loopw [5,6] (fun y i wr=>∃j:Nat,j≤8∧i= .int .i64 (1+↑z+8 - 1 - ↑j)∧y= .int .u64 ↑(x / 256 ^ j)∧Own wr w.heap.size (.slice (some ⟨w.heap.size,0,none⟩) (1+z+8) (1+z+8)) (128::(List.replicate (z+8 - j) 0++Wir.enc j x))∧Below w.heap.size w wr) (fun _ i _=>(intOf i+1).toNat)
 case atStart=>exact⟨0,by omega,by simp,by simp,O1.out,B1.out⟩
 case round=>
  clear O1 B1;obtain⟨j,hj,rfl,rfl,hown,hbel⟩:=hrel;have B:=aD hbel;clear hbel;have O:=aD hown;have hql:x / 256 ^ j≤x:=Nat.div_le_self _ _
  by_cases h0:x / 256 ^ j=0
  ·have P:=aD (Sha.pad_done z j x hj h0)
   rw[h0];clear hown h0 hql;go_wp2_with fail;go_ret;exact⟨_,rfl,by have:=O.out;rw[P.out] at this;rw[E.out];exact this,B.out⟩
  ·have hj8:j<8:=by
    rcases Nat.lt_or_ge j 8 with h|h
    ·exact h
    ·exfalso;apply h0
     have:j=8:=by omega
     subst this;exact Nat.div_eq_of_lt (by have:=HX.out;omega)
   have P:=aD (Sha.pad_step z j x hj8);have D:=aD (show x / 256 ^ (j+1)=x / 256 ^ j / 256 by rw[Nat.pow_succ,Nat.div_div_eq_div_mul]);obtain⟨v0,c0⟩:∃v0,wr.cell? ⟨w.heap.size,z+8 - j,none⟩=some v0:=⟨_,hown.cellAt (by simp[Wir.enc_length];omega)⟩;have f0:=hown.frozenAt (z+8 - j);have hpos:0<x / 256 ^ j:=Nat.pos_of_ne_zero h0;clear hown h0;generalize x / 256 ^ j=q at P D hql hpos ⊢;obtain⟨i,hi⟩:∃i,i=z+8 - j:=⟨_,rfl⟩;rw[←hi] at c0 f0;have hii:(1+(z:Int)+8 - 1 - j)=(i:Int):=by omega
   have hib:i<1+z+8:=by omega
   rw[hii];have HI:=aD (aQ hi hii);clear hi hii;go_wp2_with fail;obtain⟨ho2,hg2⟩:=O.out.set i (q % 256) (by omega);have hb2:=aP B.out (Nat.le_refl _) hg2 (fun g hg=>by simp at hg;omega);have P2:(128::(List.replicate (z+8 - j) 0++Wir.enc j x)).set i (q % 256)=128::(List.replicate (z+8 - (j+1)) 0++Wir.enc (j+1) x):=by rw[HI.out.1];exact P.out
   rw[P2] at ho2;go_roundw
   case rel=>
    have h1:(i:Int) - 1=1+↑z+8 - 1 - ↑(j+1):=by have:=HI.out.2;omega
    exact⟨j+1,by omega,congrArg (Value.int .i64) h1,by rw[D.out];rfl,ho2,hb2⟩
   case measure=>simp[intOf]
end Go.Proofs.YtcoolgnlhheaiaaGreatDoor
namespace Go.Proofs.YtcoolgnlhheaiaaGreatDoor
open Go.RowKit Go.Deep
set_option linter.all false
set_option maxRecDepth 100000
set_option maxHeartbeats 2000000
theorem aG6 {w:World} {b c:Nat} {v:Value} {t:TypeId} (h:w.heap[b]? =some (.cells #[v] t (0,0))) (hne:b≠c) (cs:Array Value):(w.setRow c cs).heap[b]? =some (.cells #[v] t (0,0)):=(setRow_other _ _ _ _ hne).trans h
theorem isArr.row_other {w:World} {b c:Nat} {t:TypeId} {k:IntKind} {n:Nat} {f:Nat→Nat} (h:isArr w b t k n f) (hne:b≠c) (cs:Array Value):isArr (w.setRow c cs) b t k n f:=h.of_block (setRow_other _ _ _ _ hne)
theorem sY (n:Nat) (f:Nat→Nat) (u:Nat) (x:List Nat) (h:u+x.length≤n):
 ((aH .u8 n f).toList.take u++(x.map bv++(aH .u8 n f).toList.drop (u+x.length))).toArray=aH .u8 n (fun i=>if u≤i∧i<u+x.length then x.getD (i - u) 0 else f i):=by
 have hs:(aH .u8 n f).toList.length=n:=by rw[Array.length_toList,aA]
 have hg:∀i,i<n→(aH .u8 n f).toList[i]? =some (bv (f i)):=fun i hi=>by rw[Array.getElem?_toList,cJ _ _ _ _ hi]
 refine bY _ _ _ _ (by simp[aA];omega) fun i hi=>?_
 rw[List.getElem?_toArray]
 by_cases h1:i<u
 ·rw[List.getElem?_append_left (by simp[aA];omega),List.getElem?_take,if_pos h1,hg i hi,if_neg (by omega)]
 ·rw[List.getElem?_append_right (by simp[aA];omega)]
  have e1:((aH .u8 n f).toList.take u).length=u:=by simp[aA];omega
  rw[e1]
  by_cases h2:i<u+x.length
  ·rw[List.getElem?_append_left (by simp;omega),if_pos ⟨by omega,h2⟩,List.getElem?_map,List.getElem?_eq_getElem (by omega:i - u<x.length)]
   simp[List.getD,show i - u<x.length by omega]
  ·rw[List.getElem?_append_right (by simp;omega),if_neg (by omega),List.length_map,List.getElem?_drop,show u+x.length+(i - u - x.length)=i by omega,hg i hi]
def FeedC (K:Nat→Nat) (L:List Nat) (u bb bu bs:Nat) (w:World):Prop:=
 ∃(j:Nat) (f:Nat→Nat),L.length=64*j+u∧(∀i,f i<256)∧(∀i,i<u→f i=L.getD (64*j+i) 0)∧w.heap[bu]? =some (.cells #[.int .i64 (u:Int)] 3 (0,0))∧
  isArr w bb 191 .u8 64 f∧isArr w bs 186 .u32 8 (Sha.run K L j).at
theorem FeedC.of_blocks {K:Nat→Nat} {L:List Nat} {u bb bu bs:Nat} {w w':World} (h:FeedC K L u bb bu bs w) (e1:w'.heap[bb]? =w.heap[bb]?) (e2:w'.heap[bu]? =w.heap[bu]?) (e3:w'.heap[bs]? =w.heap[bs]?):FeedC K L u bb bu bs w':=by
 obtain⟨j,f,h1,h2,h3,h4,h5,h6⟩:=h;exact⟨j,f,h1,h2,h3,e2.trans h4,h5.of_block e1,h6.of_block e3⟩
theorem FeedC.copied {K:Nat→Nat} {L x:List Nat} {u bb bu bs:Nat} {w:World} (h:FeedC K L u bb bu bs w) (hx:AllB x) (hfit:u+x.length≤64) (n1:bb≠bu) (n2:bb≠bs) (n3:bu≠bs) {cur:Array Value} (hg:w.heap[bb]? =some (.cells cur 191 (0,0))):
 FeedC K (L++x) (u+x.length) bb bu bs ((w.setRow bb (cur.toList.take u++(x.map bv++cur.toList.drop (u+x.length))).toArray).setCell ⟨bu,0,none⟩ (.int .i64 ((u+x.length:Nat):Int))):=by
 obtain⟨j,f,h1,h2,h3,h4,h5,h6⟩:=h;have hcur:cur=aH .u8 64 f:=by have:=hg.symm.trans h5;simpa using this
 subst hcur;refine⟨j,fun i=>if u≤i∧i<u+x.length then x.getD (i - u) 0 else f i,by rw[List.length_append];omega,fun i=>?_,fun i hi=>?_,one_setCell (aG6 h4 (Ne.symm n1) _),?_,?_⟩
 ·by_cases hi:u≤i∧i<u+x.length
  ·simp only[hi,and_self,if_true];exact hx.get _
  ·simp only[hi,if_false];exact h2 i
 ·by_cases hu:u≤i
  ·simp only[hu,hi,and_self,if_true]
   have e:64*j+i=L.length+(i - u):=by omega
   rw[e,List.getD,List.getD,List.getElem?_append_right (by omega),Nat.add_sub_cancel_left]
  ·simp only[hu,false_and,if_false]
   rw[h3 i (by omega),List.getD,List.getD,List.getElem?_append_left (by omega)]
 ·refine isArr.setOther ?_ n1 _ _
  have:=setRow_heap w bb (aH .u8 64 f) ((aH .u8 64 f).toList.take u++(x.map bv++(aH .u8 64 f).toList.drop (u+x.length))).toArray _ (0,0) h5;rw[sY 64 f u x hfit] at this ⊢;exact this
 ·refine isArr.setOther (h6.row_other (Ne.symm n2) _ |>.congr fun i _=>?_) (Ne.symm n3) _ _
  rw[Sha.run_app K L x j (by omega)]
theorem FeedC.flushed {K:Nat→Nat} {L:List Nat} {bb bu bs j:Nat} {f:Nat→Nat} {w:World} (h1:L.length=64*j+64) (h2:∀i,f i<256) (h3:∀i,i<64→f i=L.getD (64*j+i) 0)
 (h4:w.heap[bu]? =some (.cells #[.int .i64 ((64:Nat):Int)] 3 (0,0))) (h5:isArr w bb 191 .u8 64 f) (h6:isArr w bs 186 .u32 8 (Sha.blk K (Sha.run K L j) f).at) (n1:bb≠bu) (n3:bu≠bs):
 FeedC K L 0 bb bu bs (w.setCell ⟨bu,0,none⟩ (.int .i64 0)):=
 ⟨j+1,f,by omega,h2,fun i hi=>absurd hi (Nat.not_lt_zero _),one_setCell h4,h5.setOther n1 _ _,(h6.setOther (Ne.symm n3) _ _).congr fun i _=>by rw[Sha.run_full K L j f h3]⟩
def Feed (K:Nat→Nat) (L:List Nat) (bt bb bu bs:Nat) (w0 w:World):Prop:=
 (∃u,u<64∧FeedC K L u bb bu bs w)∧w.heap[bt]? =some (.cells #[.int .i64 (L.length:Int)] 3 (0,0))∧Below w0.heap.size w0 w
def Src (bt bb bu bs:Nat) (w:World) (a:Option Addr) (r:List Nat):Prop:=
 r≠[]→∃b off,a=some ⟨b,off,none⟩∧(b≠bt∧b≠bb∧b≠bu∧b≠bs∧b<w.heap.size)∧∀i,i<r.length→w.cell? ⟨b,off+i,none⟩=some (bv (r.getD i 0))
end Go.Proofs.YtcoolgnlhheaiaaGreatDoor
namespace Go.Proofs.YtcoolgnlhheaiaaGreatDoor
open Go.RowKit Go.Deep
set_option linter.all false
set_option maxRecDepth 100000
set_option maxHeartbeats 2000000
theorem aJV (w:World) (b u:Nat) (hu:u<64):(Instr.sliceAt 191 (.pointer (some ⟨b,0,none⟩)) (some (.int .i64 (u:Int))) none none).run Tryz.prog w= .ok (.slice (some ⟨b,u,none⟩) (64 - u) (64 - u)) w:=by
 have hal:(Tryz.prog).arrayLen 191=64:=by go_simp
 rw[run_sliceAt_array_l w _ ⟨b,0,none⟩ (by go_simp) .i64 _ (by omega) (by rw[hal];omega)]
 go_simp
 omega
theorem wO (K:Nat→Nat) (L p:List Nat) (bt bb bu bs:Nat) (v:Value) (w0 w:World) (hF:Feed K L bt bb bu bs w0 w) (hP:Rs w v p)
 (hsep:p≠[]→∀b,v.ownBlock=some b→b≠bt∧b≠bb∧b≠bu∧b≠bs) (hlen:L.length+p.length≤140737488355328)
 (hd:bt≠bb∧bt≠bu∧bt≠bs∧bb≠bu∧bb≠bs∧bu≠bs) (hge:w0.heap.size≤bt∧w0.heap.size≤bb∧w0.heap.size≤bu∧w0.heap.size≤bs) (hK:Consts w0 K):
 Calls Tryz.prog 184 #[v,.pointer (some ⟨bt,0,none⟩),.pointer (some ⟨bb,0,none⟩),.pointer (some ⟨bu,0,none⟩),.pointer (some ⟨bs,0,none⟩)] w
  fun e w'=>e= .returned (.tuple #[])∧Feed K (L++p) bt bb bu bs w0 w'∧w.heap.size≤w'.heap.size:=by
 obtain⟨⟨u0,hu0,hC⟩,hT,hB⟩:=hF;have HK:=aD hK;clear hK;obtain⟨d1,d2,d3,d4,d5,d6⟩:=hd;obtain⟨g1,g2,g3,g4⟩:=hge;have hpl:=hP.len;have hcap:∃a cap,v= .slice a p.length cap∧p.length≤cap∧cap≤9223372036854775807:=by
  rcases hP.2.2 with ⟨rfl,rfl⟩|⟨x,cap,rfl,h,_⟩
  ·exact⟨none,0,rfl,by simp,by omega⟩
  ·exact⟨some x,cap,rfl,h⟩
 obtain⟨a,cap,rfl,hc1,hc2⟩:=hcap;have hS:Src bt bb bu bs w a p:=by
  intro hne;have h0:0<p.length:=List.length_pos_iff.2 hne;obtain⟨b,off,rfl,hc⟩:=hP.at h0;obtain⟨s1,s2,s3,s4⟩:=hsep hne b rfl;exact⟨b,off,rfl,⟨s1,s2,s3,s4,World.block_lt_of_cell? w _ (hc 0 h0)⟩,hc⟩
 have HS:=aD hS;clear hS hsep;have HP:=aD hP.1;clear hP;have cT:=cell_of_one hT;have fT:=free_of_one hT;have HC:=aD hC;clear hC;have HT:=aD hT;clear hT;have HB:=aD hB;clear hB;obtain⟨T,hTT⟩:∃T,T=L.length:=⟨_,rfl⟩;obtain⟨m,hm⟩:∃m,m=p.length:=⟨_,rfl⟩;rw[←hTT] at hlen cT;rw[←hm] at hlen hc1 hpl ⊢;have HTT:=aD hTT;clear hTT;have HM:=aD hm;clear hm;go_enter Tryz.func184,Tryz.ntmps184;go_wp2_with fail;have hv1:(w.setCell ⟨bt,0,none⟩ (.int .i64 (↑T+↑m))).heap[bt]? =some (.cells #[.int .i64 (↑T+↑m)] 3 (0,0)):=one_setCell HT.out;have hv2:FeedC K L u0 bb bu bs (w.setCell ⟨bt,0,none⟩ (.int .i64 (↑T+↑m))):=HC.out.of_blocks (blk_setCell_other _ _ _ _ (Ne.symm d1)) (blk_setCell_other _ _ _ _ (Ne.symm d2)) (blk_setCell_other _ _ _ _ (Ne.symm d3));have hv3:Below w0.heap.size w0 (w.setCell ⟨bt,0,none⟩ (.int .i64 (↑T+↑m))):=HB.out.setCell g1 _;have hv4:Src bt bb bu bs (w.setCell ⟨bt,0,none⟩ (.int .i64 (↑T+↑m))) a p:=fun hne=>by
  obtain⟨b,off,e,⟨s1,s2,s3,s4,s5⟩,hc⟩:=HS.out hne;exact⟨b,off,e,⟨s1,s2,s3,s4,by simpa [World.setCell] using s5⟩,fun i hi=>(World.cell?_of_block (blk_setCell_other _ _ _ _ s1)).trans (hc i hi)⟩
 have hv5:w.heap.size≤(w.setCell ⟨bt,0,none⟩ (.int .i64 (↑T+↑m))).heap.size:=by simp[World.setCell]
 clear cT fT HT HC HB HS;generalize w.setCell ⟨bt,0,none⟩ (.int .i64 (↑T+↑m))=W at hv1 hv2 hv3 hv4 hv5 ⊢;have V:=aD (aQ hv1 (aQ hv2 (aQ hv3 (aQ hv4 hv5))));clear hv1 hv2 hv3 hv4 hv5
 go_loopw [0,6] (fun vp _ wr=>∃(L' r:List Nat) (u:Nat) (a:Option Addr) (cp:Nat),L'++r=L++p∧u<64∧vp= .slice a r.length cp∧r.length≤m∧r.length≤cp∧cp≤cap∧AllB r∧Src bt bb bu bs wr a r∧FeedC K L' u bb bu bs wr∧
  wr.heap[bt]? =some (.cells #[.int .i64 (↑T+↑m)] 3 (0,0))∧Below w0.heap.size w0 wr∧w.heap.size≤wr.heap.size) (fun vp _ _=>mX vp)
 case atStart=>exact⟨L,p,u0,a,cap,rfl,hu0,by rw[HM.out],by rw[HM.out];exact Nat.le_refl _,by rw[←HM.out];exact hc1,Nat.le_refl _,HP.out,V.out.2.2.2.1,V.out.2.1,V.out.1,V.out.2.2.1,V.out.2.2.2.2⟩
 case round=>
  clear V HP hu0;obtain⟨L',r,u,a',cp,heq,hu,rfl,hrm,hrc,hcc,hall,hsrc,hcore,hT,hB,hsz⟩:=hrel;have HEQ:=aD heq;clear heq;have HALL:=aD hall;clear hall;have HT:=aD hT;clear hT;have HB:=aD hB;clear hB;have HSZ:=aD hsz;clear hsz
  by_cases hr:r=[]
  ·subst hr
   have HCORE:=aD hcore;clear hcore hsrc;go_wp2_with fail;go_end0;have e:=HEQ.out;rw[List.append_nil] at e;subst e;refine⟨rfl,⟨⟨u,hu,HCORE.out⟩,?_,HB.out⟩,HSZ.out⟩;rw[HT.out,List.length_append,←HTT.out,←HM.out,Int.natCast_add]
  ·obtain⟨b,off,rfl,⟨s1,s2,s3,s4,s5⟩,hc⟩:=hsrc hr
   have hpos:0<r.length:=List.length_pos_iff.2 hr;clear hsrc hr;obtain⟨j,f,h1,h2,h3,h4,h5,h6⟩:=hcore;have cu:=cell_of_one h4;have fu:=free_of_one h4;have HCORE:=aD (show FeedC K L' u bb bu bs wr from ⟨j,f,h1,h2,h3,h4,h5,h6⟩);have hsl:=fun wx=>aJV wx bb u hu
   obtain⟨n,hn⟩:∃n,n=Nat.min r.length (64 - u):=⟨_,rfl⟩;have hn1:n≤r.length:=by rw[hn];exact Nat.min_le_left _ _
   have hn2:n≤64 - u:=by rw[hn];exact Nat.min_le_right _ _
   have hn3:n=r.length∨n=64 - u:=by rw[hn];rcases Nat.le_total r.length (64 - u) with h|h;exact .inl (Nat.min_eq_left h);exact .inr (Nat.min_eq_right h)
   have HN:=aD hn;clear hn;obtain⟨X,hX⟩:∃X,X=r.take n:=⟨_,rfl⟩;have hXl:X.length=n:=by rw[hX,List.length_take];omega
   have HX:=aD hX;clear hX;have HXl:=aD hXl;have HC:=aD hc;clear hc;have hXc:∀i v,(X.map bv)[i]? =some v→wr.cell? ((⟨b,off,none⟩:Addr).add i)=some v:=by
    intro i v hv;rw[Addr.add_lit];have hi:i<n:=by
     rcases Nat.lt_or_ge i n with h|h
     ·exact h
     ·rw[List.getElem?_eq_none (by simp;omega)] at hv;cases hv
    rw[HC.out i (by omega)];rw[HX.out,List.getElem?_map,List.getElem?_take,if_pos hi,List.getElem?_eq_getElem (by omega)] at hv;simp[List.getD,show i<r.length by omega] at hv ⊢;exact hv
   have hX1:∀v∈X.map bv,v.oneCell'=true:=by
    intro v hv;obtain⟨_,_,rfl⟩:=List.mem_map.1 hv;rfl
   have H1:=aD h1;clear h1;have H4:=aD h4;clear h4;have HALLX:Hid (AllB X):=aD (by rw[HX.out];exact HALL.out.take _);have hfit:u+n≤64:=by omega
   go_upto_region 5 with ((refine wpList_copy_own rfl (.tmp 15) (.tmp 16) 39 39 rfl 5 rfl rfl bb u (64 - u) (64 - u) ⟨b,off,none⟩ r.length cp rfl rfl (aH .u8 64 f) 191 h5 (X.map bv) (by rw[List.length_map,HXl.out,HN.out]) hXc (by rw[List.length_map,HXl.out,aA];omega) hX1 ?_);generalize hV:World.setRow wr bb _=V;have hVS:V.heap.size=wr.heap.size:=by { rw[←hV];exact setRow_size _ _ _};have hVO:∀k,k≠bb→V.heap[k]? =wr.heap[k]? :=by { rw[←hV];exact fun k hk=>setRow_other _ _ _ _ hk};have hVB:Below w0.heap.size w0 V:=by { rw[←hV];exact below_setRow HB.out g2 _};have hVF:FeedC K (L'++X) (u+n) bb bu bs (V.setCell ⟨bu,0,none⟩ (.int .i64 (↑u+↑n))):=by { rw[←hV,List.length_map];have:=HCORE.out.copied HALLX.out (by rw[HXl.out];exact hfit) d4 d5 d6 h5;rw[HXl.out,Int.natCast_add] at this;rw[HXl.out];exact this};have hV4:V.heap[bu]? =some (.cells #[.int .i64 (u:Int)] 3 (0,0)):=(hVO bu (Ne.symm d4)).trans H4.out;have cV:=cell_of_one hV4;have fV:=free_of_one hV4;have VV:=aD (aQ hVS (aQ hVO (aQ hVB hVF)));clear hV hVS hVO hVB hVF hV4)
   rename World=>V
   obtain⟨a2,ha2⟩:∃a2,a2=(if cp=n then some ⟨b,off,none⟩ else some ⟨b,off+n,none⟩:Option Addr):=⟨_,rfl⟩;rw[←ha2];have hsrc2:Src bt bb bu bs (V.setCell ⟨bu,0,none⟩ (.int .i64 (↑u+↑n))) a2 (r.drop n):=by
    intro hne;have hlt:n<r.length:=by
     rcases Nat.lt_or_ge n r.length with h|h
     ·exact h
     ·exact absurd (List.drop_eq_nil_of_le h) hne
    refine⟨b,off+n,by rw[ha2,if_neg (by omega)],⟨s1,s2,s3,s4,by have:=VV.out.1;simp[World.setCell];omega⟩,fun i hi=>?_⟩;have hi':n+i<r.length:=by rw[List.length_drop] at hi;omega
    rw[qT,Nat.add_assoc];refine(World.cell?_of_block ?_).trans (HC.out (n+i) hi');exact(blk_setCell_other _ _ _ _ s3).trans (VV.out.2.1 b s2)
   have hB2:Below w0.heap.size w0 (V.setCell ⟨bu,0,none⟩ (.int .i64 (↑u+↑n))):=VV.out.2.2.1.setCell g3 _;have hT2:(V.setCell ⟨bu,0,none⟩ (.int .i64 (↑u+↑n))).heap[bt]? =some (.cells #[.int .i64 (↑T+↑m)] 3 (0,0)):=(blk_setCell_other _ _ _ _ d2).trans ((VV.out.2.1 bt d1).trans HT.out);have hSZ2:w.heap.size≤(V.setCell ⟨bu,0,none⟩ (.int .i64 (↑u+↑n))).heap.size:=by have:=VV.out.1;have:=HSZ.out;simp[World.setCell];omega
   have hF2:=VV.out.2.2.2;have hEQ2:(L'++X)++r.drop n=L++p:=by rw[HX.out,List.append_assoc,List.take_append_drop];exact HEQ.out
   have hALL2:AllB (r.drop n):=HALL.out.drop n;have hlen2:r.length - n=(r.drop n).length:=by rw[List.length_drop]
   generalize V.setCell ⟨bu,0,none⟩ (.int .i64 (↑u+↑n))=V2 at hsrc2 hB2 hT2 hSZ2 hF2 ⊢;have hpn:0<n:=by omega
   generalize r.drop n=r2 at hsrc2 hEQ2 hALL2 hlen2;generalize L'++X=L2 at hF2 hEQ2;have Z:=aD (aQ hsrc2 (aQ hB2 (aQ hT2 (aQ hSZ2 (aQ hEQ2 (aQ hALL2 hlen2))))));have HF2:=aD hF2;clear hsrc2 hB2 hT2 hSZ2 hEQ2 hALL2 hlen2 ha2 VV cV fV hX1 hXc HX HALLX HXl hXl hsl HCORE HALL HT HB HSZ HEQ HN H1 H4 HC cu fu h5 h6 h2 h3;obtain⟨j2,f2,k1,k2,k3,k4,k5,k6⟩:=hF2;have cu2:=cell_of_one k4;rw[Int.natCast_add] at cu2
   by_cases hfull:u+n=64
   ·have ht:((u:Int)+n==64)=true:=by rw[beq_iff_eq];omega
    have hi64:∀f,((Tryz.prog).info? 191).map (·.size)=some (aH .u8 64 f).size:=by intro f;rw[aA];rfl
    have hi8:∀f,((Tryz.prog).info? 186).map (·.size)=some (aH .u32 8 f).size:=by intro f;rw[aA];rfl
    have KC:=aD (HK.out.below Z.out.2.1);have g0:=k6.lt;have g5:=k5.lt;have gu:=lt_of_block k4;have K4:=aD k4;clear k4;go_wp2_with (first|refine wpList_load_row rfl _ _ rfl bs rfl _ _ (0,0) _ k6 rfl rfl (hi8 _) ?_|refine wpList_load_row rfl _ _ rfl bb rfl _ _ (0,0) _ k5 rfl rfl (hi64 _) ?_|(go_at_call 185;refine(aCB (Sha.run K L2 j2) f2 K _ (Sha.run_32 _ _ _) k2 KC.out).mono ?_;rintro e w3 ⟨rfl,hb3⟩;have k6':=k6.below hb3 g0)|(refine wpList_store_row rfl _ _ _ rfl bs _ rfl rfl _ _ k6' (hi8 _) ((aA _ _ _).trans (aA _ _ _).symm) (aL _ _ _) ?_;generalize hV3:World.setRow w3 bs _=V3;have cu3:V3.heap[bu]? =some (.cells #[.int .i64 ((u+n:Nat):Int)] 3 (0,0)):=by { rw[←hV3];exact(setRow_other _ _ _ _ d6).trans ((hb3.block bu gu).trans K4.out)};have cu4:=cell_of_one cu3;have fu4:=free_of_one cu3;have CU3:=aD cu3;clear cu3;have HV3:=aD hV3;clear hV3));have hsz3:V3.heap.size=w3.heap.size:=by rw[←HV3.out];exact setRow_size _ _ _
    have ho3:∀k,k≠bs→k≠bu→k<V2.heap.size→(V3.setCell ⟨bu,0,none⟩ (.int .i64 0)).heap[k]? =V2.heap[k]? :=by
     intro k e1 e2 e3;refine(blk_setCell_other _ _ _ _ e2).trans (Eq.trans ?_ (hb3.block k e3));rw[←HV3.out];exact setRow_other _ _ _ _ e1
    have hz4:(V3.setCell ⟨bu,0,none⟩ (.int .i64 0)).heap.size=w3.heap.size:=by simp[World.setCell,hsz3]
    have hge3:=hb3.size;have q1:Below w0.heap.size w0 (V3.setCell ⟨bu,0,none⟩ (.int .i64 0)):=by
     refine Below.setCell ?_ g3 _;rw[←HV3.out];exact below_setRow (Z.out.2.1.trans (hb3.mono Z.out.2.1.size)) g4 _
    have q2:FeedC K L2 0 bb bu bs (V3.setCell ⟨bu,0,none⟩ (.int .i64 0)):=by
     refine FeedC.flushed (j:=j2) (f:=f2) (by omega) k2 (fun i hi=>k3 i (by omega)) (by rw[CU3.out,hfull]) ?_ ?_ d4 d6
     ·refine k5.of_block ?_
      refine Eq.trans ?_ (hb3.block bb g5);rw[←HV3.out];exact setRow_other _ _ _ _ d5
     ·rw[←HV3.out]
      exact setRow_heap w3 bs _ _ _ (0,0) k6'
    have q3:Src bt bb bu bs (V3.setCell ⟨bu,0,none⟩ (.int .i64 0)) a2 r2:=by
     intro hne;obtain⟨b',off',e,⟨e1,e2,e3,e4,e5⟩,hc⟩:=Z.out.1 hne;exact⟨b',off',e,⟨e1,e2,e3,e4,by omega⟩,fun i hi=>(World.cell?_of_block (ho3 b' e4 e3 e5)).trans (hc i hi)⟩
    have q4:(V3.setCell ⟨bu,0,none⟩ (.int .i64 0)).heap[bt]? =some (.cells #[.int .i64 (↑T+↑m)] 3 (0,0)):=(ho3 bt d3 d2 (lt_of_block Z.out.2.2.1)).trans Z.out.2.2.1;have q5:=Z.out.2.2.2.1;refine⟨⟨L2,r2,0,a2,cp - n,Z.out.2.2.2.2.1,by omega,by rw[Z.out.2.2.2.2.2.2],by have:=Z.out.2.2.2.2.2.2;omega,by have:=Z.out.2.2.2.2.2.2;omega,by omega,Z.out.2.2.2.2.2.1,q3,q2,q4,q1,by omega⟩,?_⟩;simp[mX];omega
   ·have ht:((u:Int)+n==64)=false:=by rw[beq_eq_false_iff_ne];omega
    go_wp2_with (fail);go_roundw
    case rel=>exact⟨L2,r2,u+n,a2,cp - n,Z.out.2.2.2.2.1,by omega,by rw[Z.out.2.2.2.2.2.2],by have:=Z.out.2.2.2.2.2.2;omega,by have:=Z.out.2.2.2.2.2.2;omega,by omega,Z.out.2.2.2.2.2.1,Z.out.1,HF2.out,Z.out.2.2.1,Z.out.2.1,Z.out.2.2.2.1⟩
    case measure=>simp[mX];omega
end Go.Proofs.YtcoolgnlhheaiaaGreatDoor
