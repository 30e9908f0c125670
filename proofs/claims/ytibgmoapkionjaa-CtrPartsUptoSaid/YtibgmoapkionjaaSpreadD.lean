/- The reference's Spread gives bytes that depend on its arguments alone: walked. -/
import Derived.Test.YtibgmoapkionjaaMem
namespace Go.Proofs.Ytibgmoapkionjaa
open Go.RowKit Go.Deep

namespace Spr
def x (m : Nat) : Nat → Nat
  | 0 => m
  | j + 1 => (x m j * 6364136223846793005 % 18446744073709551616 + 1442695040888963407) % 18446744073709551616
def l (m : Nat) : Nat → List Nat
  | 0 => []
  | j + 1 => l m j ++ [x m (j + 1) / 8589934592 % 256]
theorem l_length (m j : Nat) : (l m j).length = j := by
  induction j with
  | zero => rfl
  | succ j ih => rw [l, List.length_append, ih]; rfl
end Spr
set_option maxRecDepth 100000 in
set_option maxHeartbeats 1000000 in
theorem spread_det (m : Nat) (n : Nat) (w : World) (hs : m < 18446744073709551616) (hn : n ≤ 140737488355000) :
    Calls Try.prog 36 #[.int .u64 (m : Int), .int .i64 n] w fun e w' => ∃ v, e = .returned v ∧ Own w' w.heap.size v (Spr.l m n) ∧ Below w.heap.size w w' := by
  go_enter Try.func36, Try.ntmps36
  go_wp2_with fail
  go_loopw [5, 6, 7] (fun v x i wr => ∃ j : Nat, j ≤ n ∧ i = .int .i64 j ∧ x = .int .u64 (Spr.x m j : Nat) ∧ Spr.x m j < 18446744073709551616 ∧ Own wr w.heap.size v (Spr.l m j) ∧ Below w.heap.size w wr) (fun _ _ i _ => n - (intOf i).toNat)
  case atStart => exact ⟨0, by omega, rfl, rfl, hs, Own.nil _ _, Below.refl _ _⟩
  case round =>
    clear hs
    obtain ⟨j, hj, rfl, rfl, hy, hown, hbel⟩ := hrel
    have hsz := hbel.size
    have B := Lib.hid hbel; clear hbel
    have hln := Spr.l_length m j
    obtain ⟨l, hl⟩ : ∃ l, l = Spr.l m j := ⟨_, rfl⟩
    obtain ⟨y, hyd⟩ : ∃ y, y = Spr.x m j := ⟨_, rfl⟩
    rw [← hl] at hown hln
    rw [← hyd] at hy ⊢
    obtain ⟨va, vcap, rfl⟩ := hown.form
    rw [hln] at hown ⊢
    have O := Lib.hid hown
    have HL := Lib.hid (And.intro hl (And.intro hln hyd))
    clear hown hl hln hyd
    by_cases hlt : j < n
    · have hd : decide ((j : Int) < (n : Int)) = true := by simp; omega
      obtain ⟨z, hz⟩ : ∃ z, z = (y * 6364136223846793005 % 18446744073709551616 + 1442695040888963407) % 18446744073709551616 := ⟨_, rfl⟩
      have hzi : IntKind.u64.wrap (IntKind.u64.wrap ((y : Int) * 6364136223846793005) + 1442695040888963407) = (z : Int) := by simp only [IntKind.wrap_u64]; omega
      have hz64 : z < 18446744073709551616 := by omega
      have hz1 : z = Spr.x m (j + 1) := by
        rw [hz, HL.out.2.2]; rfl
      obtain ⟨c, hcd⟩ : ∃ c, c = z / 8589934592 % 256 := ⟨_, rfl⟩
      have hci : (z : Int) / 8589934592 % 256 = (c : Int) := by omega
      have hc : c < 256 := by omega
      have hl1 : l ++ [c] = Spr.l m (j + 1) := by rw [HL.out.1, hcd, hz1]; rfl
      clear hcd
      have HZ := Lib.hid (And.intro hz (And.intro hz1 hl1)); clear hz hz1 hl1
      go_wp2_with (at_builtin; go_must (refine wpList_append_bs rfl _ _ rfl w.heap.size _ l rfl (O.out.alloc _) _ [c] rfl (own_built wr _ [c] (AllB.one hc) hsz (by simp)).bs (by simp [HL.out.2.1]; omega) (Nat.le_trans hsz (by simp)) ?_; intro v2 w2 hown2 hgr2))
      have hb2 := below_only (B.out.alloc hsz (.cells #[bv c] 5)) (Nat.le_refl _) hgr2 (fun g hg => (O.out.lt g hg).1)
      clear hgr2
      rw [HZ.out.2.2] at hown2
      go_wp2_with fail
      go_roundw
      case rel => exact ⟨j + 1, by omega, by go_num, by rw [← HZ.out.2.1], by rw [← HZ.out.2.1]; exact hz64, hown2, hb2⟩
      case measure => simp [intOf]; omega
    · obtain rfl : j = n := by omega
      have hd : decide ((j : Int) < (j : Int)) = false := by simp
      clear hlt hj
      go_wp2_with fail
      go_ret
      refine ⟨_, rfl, ?_, B.out⟩
      rw [← HL.out.1]
      exact O.out
end Go.Proofs.Ytibgmoapkionjaa
