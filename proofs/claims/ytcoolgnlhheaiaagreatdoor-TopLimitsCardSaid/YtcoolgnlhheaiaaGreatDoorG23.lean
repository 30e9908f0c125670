import Derived.Test.YtcoolgnlhheaiaaGreatDoorG01
import Derived.Test.YtcoolgnlhheaiaaGreatDoorG05
namespace Go.Proofs.YtcoolgnlhheaiaaGreatDoor
open Go.RowKit Go.Deep
set_option linter.all false
set_option maxRecDepth 100000
set_option maxHeartbeats 1000000
def cQ:Nat→Nat:=fun i=>([1,2,3]:List Nat).getD i 0
theorem iP:Aes.B8 cQ:=fun i=>by
 unfold cQ;rcases i with _|_|_|i
 ·decide
 ·decide
 ·decide
 ·show([1,2,3]:List Nat).getD (i+3) 0<256
  simp
theorem aCO:(#[.int .u8 1,.int .u8 2,.int .u8 3,.int .u8 0,.int .u8 0,.int .u8 0,.int .u8 0,.int .u8 0,.int .u8 0,.int .u8 0,.int .u8 0,.int .u8 0,.int .u8 0,.int .u8 0,.int .u8 0,.int .u8 0]:Array Value)=aH .u8 16 cQ:=by kernel_rfl
structure Kd where
 client:Int
 other:Int
 start:Int
 stop:Int
 time:Int
 seq:Nat
 foreign:Bool
 spoil:Nat
def iI (K:Kd):Array Value:=#[.int .i64 K.client,.int .i64 K.other,.int .i64 K.start,.int .i64 K.stop,.int .i64 K.time,.int .u32 (K.seq:Int),.bool K.foreign,.int .u16 (K.spoil:Int)]
def Kd.right (K:Kd):Bool:=decide (0≤K.start∧K.start≤K.stop∧K.stop≤1099511627776∧0≤K.time∧K.time≤1099511627776)
theorem rE (w:World):Calls Tryz.prog 24 #[] w fun e w'=>e= .returned (.agg (aH .u8 16 cQ))∧w.grownBy w' none:=by
 rw[←aCO];go_enter Tryz.func24,Tryz.ntmps24;go_wp2_with fail;have hb:=Hb.new w #[.int .u8 1,.int .u8 2,.int .u8 3,.int .u8 0,.int .u8 0,.int .u8 0,.int .u8 0,.int .u8 0,.int .u8 0,.int .u8 0,.int .u8 0,.int .u8 0,.int .u8 0,.int .u8 0,.int .u8 0,.int .u8 0] 22;refine bodyPost_ret (results_cell_row rfl _ _ w.heap.size _ _ (0,0) _ rfl hb rfl rfl (by kernel_rfl)) rfl ?_;exact⟨rfl,aG (aE w none) _⟩
def nmB (n:Int):ByteArray:=if (n.tmod 3+3).tmod 3=0 then ⟨#[97,108,105,99,101]⟩ else if (n.tmod 3+3).tmod 3=1 then ⟨#[98,111,98]⟩ else ⟨#[99,97,114,111,108]⟩
def fK:ByteArray:=⟨#[82]⟩
theorem lF (w:World) (L:Array Value) (s:ByteArray) (hs:s.size≤maxLen):
 Hb (((w.alloc (.cells #[.string fK,.slice (some ⟨w.heap.size+1+1,0,none⟩) 1 1] 63)).alloc (.cells L 9)).alloc (.cells #[.string s] 9)) w.heap.size #[.string fK,.slice (some ⟨w.heap.size+1+1,0,none⟩) 1 1] 63∧
  OwnS (((w.alloc (.cells #[.string fK,.slice (some ⟨w.heap.size+1+1,0,none⟩) 1 1] 63)).alloc (.cells L 9)).alloc (.cells #[.string s] 9)) w.heap.size (.slice (some ⟨w.heap.size+1+1,0,none⟩) 1 1) [s]∧
  w.grownBy (((w.alloc (.cells #[.string fK,.slice (some ⟨w.heap.size+1+1,0,none⟩) 1 1] 63)).alloc (.cells L 9)).alloc (.cells #[.string s] 9)) none:=by
 have h1:=((Hb.new w #[.string fK,.slice (some ⟨w.heap.size+1+1,0,none⟩) 1 1] 63).alloc (.cells L 9)).alloc (.cells #[.string s] 9);have h2:=Hb.new ((w.alloc (.cells #[.string fK,.slice (some ⟨w.heap.size+1+1,0,none⟩) 1 1] 63)).alloc (.cells L 9)) #[.string s] 9;simp only[World.size_alloc] at h2;refine⟨h1,⟨fun x hx=>by rw[List.mem_singleton.1 hx];exact hs,rfl,.inr ⟨w.heap.size+1+1,1,#[.string s],rfl,by omega,h2,Nat.le_refl _,by unfold maxLen;omega,rfl,rfl⟩⟩,aG (aG (aG (aE w none) _) _) _⟩
theorem qE (n:Int) (w:World):Calls Tryz.prog 52 #[.int .i64 n] w fun e w'=>∃g,e= .returned (.agg #[.string fK,.slice (some ⟨g,0,none⟩) 1 1])∧OwnS w' w.heap.size (.slice (some ⟨g,0,none⟩) 1 1) [nmB n]∧w.grownBy w' none:=by
 have hcase:(n.tmod 3+3).tmod 3=0∨(n.tmod 3+3).tmod 3=1∨(n.tmod 3+3).tmod 3=2:=by
  have h1:=Int.tmod_lt_of_pos n (by decide:(0:Int)<3);have h2:=Int.lt_tmod_of_pos n (by decide:(0:Int)<3);have h3:=Int.tmod_lt_of_pos (n.tmod 3+3) (by decide:(0:Int)<3);have h4:=Int.tmod_nonneg 3 (show(0:Int)≤n.tmod 3+3 by omega);omega
 have hw1:IntKind.i64.wrap (n.tmod 3)=n.tmod 3:=by
  have h1:=Int.tmod_lt_of_pos n (by decide:(0:Int)<3);have h2:=Int.lt_tmod_of_pos n (by decide:(0:Int)<3);simp only[IntKind.wrap_i64];omega
 have hw2:IntKind.i64.wrap (n.tmod 3+3)=n.tmod 3+3:=by
  have h1:=Int.tmod_lt_of_pos n (by decide:(0:Int)<3);have h2:=Int.lt_tmod_of_pos n (by decide:(0:Int)<3);simp only[IntKind.wrap_i64];omega
 have hnm:(nmB n=⟨#[97,108,105,99,101]⟩∧(n.tmod 3+3).tmod 3=0)∨(nmB n=⟨#[98,111,98]⟩∧(n.tmod 3+3).tmod 3=1)∨(nmB n=⟨#[99,97,114,111,108]⟩∧(n.tmod 3+3).tmod 3=2):=by
  unfold nmB;rcases hcase with h|h|h
  ·exact .inl ⟨by rw[if_pos h],h⟩
  ·exact .inr (.inl ⟨by rw[if_neg (by omega),if_pos h],h⟩)
  ·exact .inr (.inr ⟨by rw[if_neg (by omega),if_neg (by omega)],h⟩)
 clear hcase;unfold fK;rcases hnm with ⟨hn,hi⟩|⟨hn,hi⟩|⟨hn,hi⟩
 ·rw[hn]
  clear hn;have hE:=aD (lF w #[.string ⟨#[97,108,105,99,101]⟩,.string ⟨#[98,111,98]⟩,.string ⟨#[99,97,114,111,108]⟩] ⟨#[97,108,105,99,101]⟩ (show _≤9223372036854775807 by decide));go_enter Tryz.func52,Tryz.ntmps52;go_wp2_with fail;obtain⟨h1,h2,h3⟩:=hE.out;refine bodyPost_ret (results_cell_row rfl _ _ w.heap.size _ _ (0,0) _ rfl h1 rfl rfl (by kernel_rfl)) rfl ?_;exact⟨_,rfl,h2,h3⟩
 ·rw[hn]
  clear hn;have hE:=aD (lF w #[.string ⟨#[97,108,105,99,101]⟩,.string ⟨#[98,111,98]⟩,.string ⟨#[99,97,114,111,108]⟩] ⟨#[98,111,98]⟩ (show _≤9223372036854775807 by decide));go_enter Tryz.func52,Tryz.ntmps52;go_wp2_with fail;obtain⟨h1,h2,h3⟩:=hE.out;refine bodyPost_ret (results_cell_row rfl _ _ w.heap.size _ _ (0,0) _ rfl h1 rfl rfl (by kernel_rfl)) rfl ?_;exact⟨_,rfl,h2,h3⟩
 ·rw[hn]
  clear hn;have hE:=aD (lF w #[.string ⟨#[97,108,105,99,101]⟩,.string ⟨#[98,111,98]⟩,.string ⟨#[99,97,114,111,108]⟩] ⟨#[99,97,114,111,108]⟩ (show _≤9223372036854775807 by decide));go_enter Tryz.func52,Tryz.ntmps52;go_wp2_with fail;obtain⟨h1,h2,h3⟩:=hE.out;refine bodyPost_ret (results_cell_row rfl _ _ w.heap.size _ _ (0,0) _ rfl h1 rfl rfl (by kernel_rfl)) rfl ?_;exact⟨_,rfl,h2,h3⟩
end Go.Proofs.YtcoolgnlhheaiaaGreatDoor
