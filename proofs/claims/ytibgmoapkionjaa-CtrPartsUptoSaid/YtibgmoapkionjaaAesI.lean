/- The reference's twice and its table of substitutions: walked. -/
import Derived.Test.YtibgmoapkionjaaAesH
namespace Go.Proofs.Ytibgmoapkionjaa
open Go.RowKit Go.Deep

set_option maxRecDepth 100000 in
theorem twice_any (x : Nat) (w : World) (hx : x < 256) : Calls Try.prog 41 #[.int .u8 (x : Int)] w fun e w' => e = .returned (.int .u8 ((Fld.xt x : Nat) : Int)) ∧ w = w' := by
  by_cases h : x < 128
  · have d : decide ((255 : Int) < 2 * (x : Int)) = false := by simp; omega
    have e : Fld.xt x = 2 * x := by unfold Fld.xt; rw [show x / 128 = 0 by omega]; simp
    rw [e]
    have E := Lib.hid e; clear e
    go_enter Try.func41, Try.ntmps41
    go_wp2_with fail
    go_ret
    exact ⟨ret_int (by omega), rfl⟩
  · have d : decide ((255 : Int) < 2 * (x : Int)) = true := by simp; omega
    have e : Fld.xt x = (2 * x) ^^^ 283 := by unfold Fld.xt; rw [show x / 128 = 1 by omega]
    have hl := Fld.xt_lt x hx
    rw [e] at hl ⊢
    have E := Lib.hid e; clear e
    have hb : bits .xor .i64 (2 * (x : Int)) 283 = (((2 * x) ^^^ 283 : Nat) : Int) := by
      have := i64_xor_nat (2 * x) 283 (by omega) (by omega)
      rw [← this]
      congr 1
    generalize (2 * x) ^^^ 283 = v at hl hb ⊢
    go_enter Try.func41, Try.ntmps41
    go_wp2_with fail
    go_ret
    exact ⟨ret_int (by omega), rfl⟩

namespace Aes
def p3 : Nat → Nat
  | 0 => 1
  | i + 1 => Fld.gm (p3 i) 3
theorem p3_lt (i : Nat) : p3 i < 256 := by
  induction i with
  | zero => decide
  | succ i ih => exact Fld.gm_lt _ _ ih
set_option maxRecDepth 100000 in
theorem p3_back : ((List.range 256).all fun i => Fld.aff (p3 (255 - i)) == Fld.sb (p3 i)) = true := by decide +kernel
set_option maxRecDepth 100000 in
theorem p3_onto : ((List.range 256).all fun t => t == 0 || (List.range 256).any fun i => p3 i == t) = true := by decide +kernel
end Aes
end Go.Proofs.Ytibgmoapkionjaa
