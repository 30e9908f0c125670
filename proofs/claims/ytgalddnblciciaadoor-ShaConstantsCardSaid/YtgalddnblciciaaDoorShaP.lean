import Derived.Test.YtgalddnblciciaaDoorArr
import Derived.Test.YtgalddnblciciaaDoorShaMathB
namespace Go.Proofs.YtgalddnblciciaaDoor
open Go.RowKit Go.Deep

theorem all_enc (k x : Nat) : AllB (Wir.enc k x) := Wir.enc_all k x
theorem all_pad (n : Nat) : AllB (Sha.pad n) := AllB.cons (by omega) ((AllB.replicate _ _ (by omega)).append (all_enc _ _))

set_option maxRecDepth 100000 in
set_option maxHeartbeats 1000000 in
theorem padding_any (n : Nat) (w : World) (hn : n ≤ 140737488355328) :
    Calls Tryd.prog 25 #[.int .i64 n] w (RetOwn (Sha.pad n) w) := by
  obtain ⟨z, hz⟩ : ∃ z, z = (119 - n % 64) % 64 := ⟨_, rfl⟩
  have E := Lib.hid (show Sha.pad n = 128 :: (List.replicate z 0 ++ Wir.enc 8 (8 * n)) by rw [hz]; rfl)
  have hzi : (119 - (n : Int) % 64) % 64 = (z : Int) := by omega
  have hz64 : z < 64 := by omega
  have hx : (8 : Int) * (n : Int) = ((8 * n : Nat) : Int) := by omega
  have hx2 : 8 * n < 18446744073709551616 := by omega
  clear hz
  generalize 8 * n = x at E hx hx2
  have HX := Lib.hid hx2
  go_enter Tryd.func25, Tryd.ntmps25
  go_wp2_with (at_make; go_must (refine wpList_makefull_bs rfl _ _ rfl w.heap.size _ _ _ _ (1 + z + 8) rfl rfl (by omega) (by omega) (by omega) (Nat.le_refl _) ?_; intro w1 hown hgr; obtain ⟨v0, c0⟩ : ∃ v0, w1.cell? ⟨w.heap.size, 0, none⟩ = some v0 := ⟨_, hown.cellAt (by simp)⟩; have f0 := hown.frozenAt 0))
  obtain ⟨ho2, hg2⟩ := hown.set 0 128 (by omega)
  have hb1 := below_of_only hgr
  have hb2 := below_only hb1 (Nat.le_refl _) hg2 (fun g hg => by simp at hg; omega)
  have ho3 : Own (w1.setCell ⟨w.heap.size, 0, none⟩ (bv 128)) w.heap.size (.slice (some ⟨w.heap.size, 0, none⟩) (1 + z + 8) (1 + z + 8)) (128 :: (List.replicate (z + 8 - 0) 0 ++ Wir.enc 0 x)) := by
    have e : (List.replicate (1 + z + 8) 0).set 0 128 = 128 :: (List.replicate (z + 8 - 0) 0 ++ Wir.enc 0 x) := by
      rw [show 1 + z + 8 = (z + 8) + 1 by omega, List.replicate_succ]; simp [Wir.enc]
    rw [← e]; exact ho2
  clear hown hgr c0 f0 ho2 hg2 hb1 hzi hx
  have O1 := Lib.hid ho3; clear ho3
  have B1 := Lib.hid hb2; clear hb2
  go_loopw [5, 6] (fun y i wr => ∃ j : Nat, j ≤ 8 ∧ i = .int .i64 (1 + ↑z + 8 - 1 - ↑j) ∧ y = .int .u64 ↑(x / 256 ^ j) ∧ Own wr w.heap.size (.slice (some ⟨w.heap.size, 0, none⟩) (1 + z + 8) (1 + z + 8)) (128 :: (List.replicate (z + 8 - j) 0 ++ Wir.enc j x)) ∧ Below w.heap.size w wr) (fun _ i _ => (intOf i + 1).toNat)
  case atStart => exact ⟨0, by omega, by simp, by simp, O1.out, B1.out⟩
  case round =>
    clear O1 B1
    obtain ⟨j, hj, rfl, rfl, hown, hbel⟩ := hrel
    have B := Lib.hid hbel; clear hbel
    have O := Lib.hid hown
    have hql : x / 256 ^ j ≤ x := Nat.div_le_self _ _
    by_cases h0 : x / 256 ^ j = 0
    · have P := Lib.hid (Sha.pad_done z j x hj h0)
      rw [h0]
      clear hown h0 hql
      go_wp2_with fail
      go_ret
      exact ⟨_, rfl, by have := O.out; rw [P.out] at this; rw [E.out]; exact this, B.out⟩
    · have hj8 : j < 8 := by
        rcases Nat.lt_or_ge j 8 with h | h
        · exact h
        · exfalso; apply h0
          have : j = 8 := by omega
          subst this
          exact Nat.div_eq_of_lt (by have := HX.out; omega)
      have P := Lib.hid (Sha.pad_step z j x hj8)
      have D := Lib.hid (show x / 256 ^ (j + 1) = x / 256 ^ j / 256 by rw [Nat.pow_succ, Nat.div_div_eq_div_mul])
      obtain ⟨v0, c0⟩ : ∃ v0, wr.cell? ⟨w.heap.size, z + 8 - j, none⟩ = some v0 := ⟨_, hown.cellAt (by simp [Wir.enc_length]; omega)⟩
      have f0 := hown.frozenAt (z + 8 - j)
      have hpos : 0 < x / 256 ^ j := Nat.pos_of_ne_zero h0
      clear hown h0
      generalize x / 256 ^ j = q at P D hql hpos ⊢
      obtain ⟨i, hi⟩ : ∃ i, i = z + 8 - j := ⟨_, rfl⟩
      rw [← hi] at c0 f0
      have hii : (1 + (z : Int) + 8 - 1 - j) = (i : Int) := by omega
      have hib : i < 1 + z + 8 := by omega
      rw [hii]
      have HI := Lib.hid (And.intro hi hii); clear hi hii
      go_wp2_with fail
      obtain ⟨ho2, hg2⟩ := O.out.set i (q % 256) (by omega)
      have hb2 := below_only B.out (Nat.le_refl _) hg2 (fun g hg => by simp at hg; omega)
      have P2 : (128 :: (List.replicate (z + 8 - j) 0 ++ Wir.enc j x)).set i (q % 256) = 128 :: (List.replicate (z + 8 - (j + 1)) 0 ++ Wir.enc (j + 1) x) := by rw [HI.out.1]; exact P.out
      rw [P2] at ho2
      go_roundw
      case rel =>
        have h1 : (i : Int) - 1 = 1 + ↑z + 8 - 1 - ↑(j + 1) := by have := HI.out.2; omega
        exact ⟨j + 1, by omega, congrArg (Value.int .i64) h1, by rw [D.out]; rfl, ho2, hb2⟩
      case measure => simp [intOf]
end Go.Proofs.YtgalddnblciciaaDoor
