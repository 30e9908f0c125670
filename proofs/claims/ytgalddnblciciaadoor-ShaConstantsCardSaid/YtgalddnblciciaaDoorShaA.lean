import Derived.Test.YtgalddnblciciaaDoorArr
import Derived.Test.YtgalddnblciciaaDoorShaMath
import Derived.WalkKit
import Derived.WalkSpells
import Derived.WalkLawsBesides
import Derived.Lib.Hide
import Derived.Deep.OwnRows
import Derived.Deep.Draws
import Derived.Deep.QuietTactic
import Derived.BigQuiet
namespace Go.Proofs.YtgalddnblciciaaDoor
open Go.RowKit Go.Deep

theorem ret_int32 {k : IntKind} {a b : Int} (h : a = b) : Ending.returned (.int k a) = .returned (.int k b) := by rw [h]
theorem neg_and (n : Nat) (h1 : 1 ≤ n) (h : n < 32) : bits BinOp.and IntKind.u64 (IntKind.u64.wrap (-(n : Int))) 31 = ((32 - n : Nat) : Int) := by
  have : ∀ n : Nat, n < 32 → 1 ≤ n → bits BinOp.and IntKind.u64 (IntKind.u64.wrap (-(n : Int))) 31 = ((32 - n : Nat) : Int) := by decide +kernel
  exact this n h h1

theorem rot_form (a n : Nat) (ha : a < 4294967296) (h1 : 1 ≤ n) (h : n < 32) : bits BinOp.or IntKind.u32 (↑a * 2 ^ (32 - n) % 4294967296) (↑a / 2 ^ (32 - (32 - n))) = ((Sha.rotr a n : Nat) : Int) := by
  have e1 : ((a : Int) * 2 ^ (32 - n) % 4294967296) = ((a * 2 ^ (32 - n) % 4294967296 : Nat) : Int) := by
    rw [Int.natCast_emod, Int.natCast_mul, Int.natCast_pow]; rfl
  have e2 : ((a : Int) / 2 ^ (32 - (32 - n))) = ((a / 2 ^ n : Nat) : Int) := by
    rw [show 32 - (32 - n) = n by omega, Int.natCast_ediv, Int.natCast_pow]; rfl
  rw [e1, e2, u32_or_nat _ _ (Nat.mod_lt _ (by omega)) (Nat.lt_of_le_of_lt (Nat.div_le_self _ _) ha)]
  rfl
theorem refrot_form (a n : Nat) (ha : a < 4294967296) : bits BinOp.or IntKind.u32 (↑a / 2 ^ n) (↑a * 2 ^ (32 - n) % 4294967296) = ((Sha.rotr a n : Nat) : Int) := by
  have e1 : ((a : Int) * 2 ^ (32 - n) % 4294967296) = ((a * 2 ^ (32 - n) % 4294967296 : Nat) : Int) := by
    rw [Int.natCast_emod, Int.natCast_mul, Int.natCast_pow]; rfl
  have e2 : ((a : Int) / 2 ^ n) = ((a / 2 ^ n : Nat) : Int) := by
    rw [Int.natCast_ediv, Int.natCast_pow]; rfl
  rw [e1, e2, u32_or_nat _ _ (Nat.lt_of_le_of_lt (Nat.div_le_self _ _) ha) (Nat.mod_lt _ (by omega)), Nat.or_comm]
  rfl

set_option maxRecDepth 100000 in
set_option maxHeartbeats 400000 in
theorem rot_any (x : Int) (n : Nat) (w : World) (hx : 0 ≤ x ∧ x < 4294967296) (h1 : 1 ≤ n) (h : n < 32) :
    Calls Tryd.prog 39 #[.int .u32 x, .int .i64 n] w fun e w' => e = .returned (.int .u32 ↑(Sha.rotr x.toNat n)) ∧ w = w' := by
  obtain ⟨a, rfl⟩ := Int.eq_ofNat_of_zero_le hx.1
  rw [Int.toNat_natCast]
  have ha : a < 4294967296 := by omega
  have hn := neg_and n h1 h
  clear hx
  go_enter Tryd.func39, Tryd.ntmps39
  go_wp2
  go_ret
  exact ⟨ret_int32 (rot_form a n ha h1 h), rfl⟩

set_option maxRecDepth 100000 in
set_option maxHeartbeats 400000 in
theorem refrot_any (x : Int) (n : Nat) (w : World) (hx : 0 ≤ x ∧ x < 4294967296) (h1 : 1 ≤ n) (h : n < 32) :
    Calls Tryd.prog 40 #[.int .u32 x, .int .u64 n] w fun e w' => e = .returned (.int .u32 ↑(Sha.rotr x.toNat n)) ∧ w = w' := by
  obtain ⟨a, rfl⟩ := Int.eq_ofNat_of_zero_le hx.1
  rw [Int.toNat_natCast]
  have ha : a < 4294967296 := by omega
  clear hx
  go_enter Tryd.func40, Tryd.ntmps40
  go_wp2
  go_ret
  exact ⟨ret_int32 (refrot_form a n ha), rfl⟩
end Go.Proofs.YtgalddnblciciaaDoor
