import Derived.Test.YtmhnmedifpgnoaaFieldWalksC
import Derived.Deep.QuietTactic
import Derived.BigQuiet
import Derived.Deep.OwnRows
namespace Go.Proofs.Ytmhnmedifpgnoaa
open Go.RowKit Go.Deep

theorem quiet_left {P : Program} {f : FuncId} {args : Array Value} {w : World} {n : Nat} {v : Value}
    (h : Calls P f args (w.drewN n) fun e w' => e = .returned v ∧ w.drewN n = w') : Calls P f args (w.drewN n) fun e w'' => e = .returned v ∧ ∃ m, w'' = w.drewN m :=
  h.mono fun _ _ ⟨he, hm⟩ => ⟨he, n, hm.symm⟩
theorem below_drewN {B : Nat} {a w : World} (h : Below B a w) (n : Nat) : Below B a (w.drewN n) := ⟨h.os, h.tape, h.output, h.size, h.block⟩
theorem rowIs_drewN {w : World} {b : Nat} {t : TypeId} {n : Nat} {f : Nat → Value} (h : w.rowIs b t n f) (k : Nat) : (w.drewN k).rowIs b t n f := h

/-- The sum of the products, the first k. -/
def dotP (a b : Nat → Nat) : Nat → Nat
  | 0 => 0
  | k + 1 => dotP a b k ^^^ Fld.gm (b k) (a k)
theorem dotP_lt (a b : Nat → Nat) (hb : ∀ i, b i < 256) (k : Nat) : dotP a b k < 256 := by
  induction k with
  | zero => exact (by decide : (0 : Nat) < 256)
  | succ k ih => exact Fld.xor_lt _ _ ih (Fld.gm_lt _ _ (hb k))
set_option maxRecDepth 100000 in
set_option maxHeartbeats 400000 in
theorem dot_any (a b : Nat → Nat) (w : World) (ha : ∀ i, a i < 256) (hb : ∀ i, b i < 256) :
    Calls Try.prog 17 #[.agg #[.int .u8 ↑(a 0), .int .u8 ↑(a 1), .int .u8 ↑(a 2), .int .u8 ↑(a 3)], .agg #[.int .u8 ↑(b 0), .int .u8 ↑(b 1), .int .u8 ↑(b 2), .int .u8 ↑(b 3)]] w fun e w' =>
      e = .returned (.int .u8 ↑(dotP a b 4)) ∧ Below w.heap.size w w' := by
  have HA := Lib.hid ha; clear ha
  have HB := Lib.hid hb; clear hb
  go_enter Try.func17, Try.ntmps17
  go_wp2_with fail
  go_loopw [5, 6, 7] (fun p _ i wr => ∃ k : Nat, k ≤ 4 ∧ i = .int .i64 k ∧ p = .int .u8 ↑(dotP a b k) ∧ Below w.heap.size w wr ∧ wr.rowIs w.heap.size 31 4 (fun i => .int .u8 ↑(a i)) ∧ wr.rowIs (w.heap.size + 1) 31 4 (fun i => .int .u8 ↑(b i))) (fun _ _ i _ => 4 - (intOf i).toNat)
  case atStart =>
    refine ⟨0, by omega, rfl, rfl, ((Below.refl _ _).alloc (Nat.le_refl _) _).alloc (by simp) _, World.rowIs.alloc (World.rowIs_alloc w _ _ _ ?_) _, ?_⟩
    · intro i hi
      have hi : i < 4 := hi
      obtain rfl | rfl | rfl | rfl : i = 0 ∨ i = 1 ∨ i = 2 ∨ i = 3 := by omega
      all_goals rfl
    · have := World.rowIs_alloc (w.alloc (.cells #[.int .u8 ↑(a 0), .int .u8 ↑(a 1), .int .u8 ↑(a 2), .int .u8 ↑(a 3)] 31)) #[.int .u8 ↑(b 0), .int .u8 ↑(b 1), .int .u8 ↑(b 2), .int .u8 ↑(b 3)] 31 (fun i => .int .u8 ↑(b i)) (by
        intro i hi
        have hi : i < 4 := hi
        obtain rfl | rfl | rfl | rfl : i = 0 ∨ i = 1 ∨ i = 2 ∨ i = 3 := by omega
        all_goals rfl)
      simpa using this
  case round =>
    obtain ⟨k, hk, rfl, rfl, hbl, hra, hrb⟩ := hrel
    by_cases hlt : k < 4
    · have ca := hra.cell hlt
      have cb := hrb.cell hlt
      have HRA := Lib.hid hra; clear hra
      have HRB := Lib.hid hrb; clear hrb
      have HBL := Lib.hid hbl; clear hbl
      have ba := HA.out k
      have bb := HB.out k
      go_wp2_with fail
      go_quiet ((go_at_call 18; exact quiet_left (product_any _ _ _ (by omega) (by omega))))
      go_wp2_with fail
      go_roundw
      case rel => exact ⟨k + 1, by omega, by go_num, by rw [u8_xor_nat _ _ (dotP_lt a b HB.out k) (Fld.gm_lt _ _ bb)]; rfl, below_drewN HBL.out _, rowIs_drewN HRA.out _, rowIs_drewN HRB.out _⟩
      case measure => simp [intOf]; omega
    · obtain rfl : k = 4 := by omega
      have HBL := Lib.hid hbl; clear hbl
      clear hra hrb
      go_wp2_with fail
      go_ret
      exact ⟨rfl, HBL.out⟩
end Go.Proofs.Ytmhnmedifpgnoaa
