/- The reference's Spread: walked. -/
import Derived.Test.YtgalddnblciciaaDoorMem
namespace Go.Proofs.YtgalddnblciciaaDoor
open Go.RowKit Go.Deep

/-- What Spread returns: n bytes of its own. -/
def RetMany (n : Nat) (w : World) (e : Ending) (w' : World) : Prop := ∃ l v, e = .returned v ∧ l.length = n ∧ Own w' w.heap.size v l ∧ Below w.heap.size w w'

set_option maxRecDepth 100000 in
set_option maxHeartbeats 1000000 in
theorem spread_any (s : Int) (n : Nat) (w : World) (hs : 0 ≤ s ∧ s < 18446744073709551616) (hn : n ≤ 140737488355000) :
    Calls Tryd.prog 17 #[.int .u64 s, .int .i64 n] w (RetMany n w) := by
  go_enter Tryd.func17, Tryd.ntmps17
  go_wp2_with fail
  go_loopw [5, 6, 7] (fun v x i wr => ∃ (j : Nat) (y : Nat) (l : List Nat), j ≤ n ∧ i = .int .i64 j ∧ x = .int .u64 y ∧ y < 18446744073709551616 ∧ l.length = j ∧ Own wr w.heap.size v l ∧ Below w.heap.size w wr) (fun _ _ i _ => n - (intOf i).toNat)
  case atStart =>
    obtain ⟨m, rfl⟩ := Int.eq_ofNat_of_zero_le hs.1
    exact ⟨0, m, [], by omega, rfl, rfl, by omega, rfl, Own.nil _ _, Below.refl _ _⟩
  case round =>
    clear hs
    obtain ⟨j, y, l, hj, rfl, rfl, hy, hl, hown, hbel⟩ := hrel
    have hsz := hbel.size
    have B := Lib.hid hbel; clear hbel
    obtain ⟨va, vcap, rfl⟩ := hown.form
    rw [hl] at hown ⊢
    have O := Lib.hid hown
    have HL := Lib.hid hl
    clear hown hl
    by_cases hlt : j < n
    · have hd : decide ((j : Int) < (n : Int)) = true := by simp; omega
      obtain ⟨z, hz⟩ : ∃ z, z = (y * 6364136223846793005 % 18446744073709551616 + 1442695040888963407) % 18446744073709551616 := ⟨_, rfl⟩
      have hzi : IntKind.u64.wrap (IntKind.u64.wrap ((y : Int) * 6364136223846793005) + 1442695040888963407) = (z : Int) := by simp only [IntKind.wrap_u64]; omega
      have hz64 : z < 18446744073709551616 := by omega
      obtain ⟨c, hcd⟩ : ∃ c, c = z / 8589934592 % 256 := ⟨_, rfl⟩
      have hci : (z : Int) / 8589934592 % 256 = (c : Int) := by omega
      have hc : c < 256 := by omega
      clear hcd
      have HZ := Lib.hid hz; clear hz
      go_wp2_with (at_builtin; go_must (refine wpList_append_bs rfl _ _ rfl w.heap.size _ l rfl (O.out.alloc _) _ [c] rfl (own_built wr _ [c] (AllB.one hc) hsz (by simp)).bs (by simp [HL.out]; omega) (Nat.le_trans hsz (by simp)) ?_; intro v2 w2 hown2 hgr2))
      have hb2 := below_only (B.out.alloc hsz (.cells #[bv c] 5)) (Nat.le_refl _) hgr2 (fun g hg => (O.out.lt g hg).1)
      clear hgr2
      go_wp2_with fail
      go_roundw
      case rel => exact ⟨j + 1, z, _, by omega, by go_num, rfl, hz64, by rw [List.length_append, HL.out]; rfl, hown2, hb2⟩
      case measure => simp [intOf]; omega
    · obtain rfl : j = n := by omega
      have hd : decide ((j : Int) < (j : Int)) = false := by simp
      clear hlt hj
      go_wp2_with fail
      go_ret
      exact ⟨l, _, rfl, HL.out, O.out, B.out⟩
end Go.Proofs.YtgalddnblciciaaDoor
