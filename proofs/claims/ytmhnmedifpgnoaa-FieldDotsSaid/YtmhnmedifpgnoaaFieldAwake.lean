import Derived.Test.YtmhnmedifpgnoaaFieldWalksD
namespace Go.Proofs.Ytmhnmedifpgnoaa
open Go.RowKit Go.Deep

theorem mul1 (x y : Int) (b c : Nat) (w : World) (hx : 0 ≤ x ∧ x < 256) (hy : 0 ≤ y ∧ y < 256) (hc : w.cell? ⟨b, 0, none⟩ = some (.int .u8 y)) :
    Calls Try.prog 9 #[.int .u8 x, .slice (some ⟨b, 0, none⟩) 1 c] w fun e w' => e = .returned (.int .u8 ↑(Fld.gm x.toNat y.toNat)) ∧ w = w' := by
  obtain ⟨n, rfl⟩ := Int.eq_ofNat_of_zero_le hy.1
  have h := mul_any x [n] b 0 c w hx (fun i hi => by
    have hi : i < 1 := hi
    obtain rfl : i = 0 := by omega
    exact hc) (fun i => by
    rcases Nat.eq_zero_or_pos i with rfl | hi
    · simp; omega
    · obtain ⟨j, rfl⟩ : ∃ j, i = j + 1 := ⟨i - 1, by omega⟩
      simp) (by simp)
  have e : Fld.gml x.toNat [n] = Fld.gm x.toNat n := by unfold Fld.gml; rfl
  rw [e] at h
  rw [Int.toNat_natCast]
  exact h
theorem mul2 (x y z : Int) (b c : Nat) (w : World) (hx : 0 ≤ x ∧ x < 256) (hy : 0 ≤ y ∧ y < 256) (hz : 0 ≤ z ∧ z < 256) (hc : w.cell? ⟨b, 0, none⟩ = some (.int .u8 y)) (hc2 : w.cell? ⟨b, 1, none⟩ = some (.int .u8 z)) :
    Calls Try.prog 9 #[.int .u8 x, .slice (some ⟨b, 0, none⟩) 2 c] w fun e w' => e = .returned (.int .u8 ↑(Fld.gm (Fld.gm x.toNat y.toNat) z.toNat)) ∧ w = w' := by
  obtain ⟨n, rfl⟩ := Int.eq_ofNat_of_zero_le hy.1
  obtain ⟨m, rfl⟩ := Int.eq_ofNat_of_zero_le hz.1
  have h := mul_any x [n, m] b 0 c w hx (fun i hi => by
    have hi : i < 2 := hi
    obtain rfl | rfl : i = 0 ∨ i = 1 := by omega
    · exact hc
    · exact hc2) (fun i => by
    rcases Nat.eq_zero_or_pos i with rfl | hi
    · simp; omega
    · obtain ⟨j, rfl⟩ : ∃ j, i = j + 1 := ⟨i - 1, by omega⟩
      rcases Nat.eq_zero_or_pos j with rfl | hi
      · simp; omega
      · obtain ⟨k, rfl⟩ : ∃ k, j = k + 1 := ⟨j - 1, by omega⟩
        simp) (by simp)
  have e : Fld.gml x.toNat [n, m] = Fld.gm (Fld.gm x.toNat n) m := by unfold Fld.gml; rfl
  rw [e] at h
  rw [Int.toNat_natCast, Int.toNat_natCast]
  exact h

/-- The sum of four products. -/
def dot4 (a0 a1 a2 a3 b0 b1 b2 b3 : Nat) : Nat := Fld.gm b0 a0 ^^^ Fld.gm b1 a1 ^^^ Fld.gm b2 a2 ^^^ Fld.gm b3 a3
theorem dot_four (a0 a1 a2 a3 b0 b1 b2 b3 : Int) (w : World) (h0 : 0 ≤ a0 ∧ a0 < 256) (h1 : 0 ≤ a1 ∧ a1 < 256) (h2 : 0 ≤ a2 ∧ a2 < 256) (h3 : 0 ≤ a3 ∧ a3 < 256) (k0 : 0 ≤ b0 ∧ b0 < 256) (k1 : 0 ≤ b1 ∧ b1 < 256) (k2 : 0 ≤ b2 ∧ b2 < 256) (k3 : 0 ≤ b3 ∧ b3 < 256) :
    Calls Try.prog 17 #[.agg #[.int .u8 a0, .int .u8 a1, .int .u8 a2, .int .u8 a3], .agg #[.int .u8 b0, .int .u8 b1, .int .u8 b2, .int .u8 b3]] w fun e w' =>
      e = .returned (.int .u8 ↑(dot4 a0.toNat a1.toNat a2.toNat a3.toNat b0.toNat b1.toNat b2.toNat b3.toNat)) ∧ Below w.heap.size w w' := by
  obtain ⟨a0, rfl⟩ := Int.eq_ofNat_of_zero_le h0.1
  obtain ⟨a1, rfl⟩ := Int.eq_ofNat_of_zero_le h1.1
  obtain ⟨a2, rfl⟩ := Int.eq_ofNat_of_zero_le h2.1
  obtain ⟨a3, rfl⟩ := Int.eq_ofNat_of_zero_le h3.1
  obtain ⟨b0, rfl⟩ := Int.eq_ofNat_of_zero_le k0.1
  obtain ⟨b1, rfl⟩ := Int.eq_ofNat_of_zero_le k1.1
  obtain ⟨b2, rfl⟩ := Int.eq_ofNat_of_zero_le k2.1
  obtain ⟨b3, rfl⟩ := Int.eq_ofNat_of_zero_le k3.1
  have four : ∀ (a0 a1 a2 a3 : Nat), a0 < 256 → a1 < 256 → a2 < 256 → a3 < 256 → ∀ i, [a0, a1, a2, a3].getD i 0 < 256 := by
    intro a0 a1 a2 a3 h0 h1 h2 h3 i
    match i with
    | 0 => exact h0
    | 1 => exact h1
    | 2 => exact h2
    | 3 => exact h3
    | _ + 4 => exact (by decide : (0 : Nat) < 256)
  have h := dot_any (fun i => [a0, a1, a2, a3].getD i 0) (fun i => [b0, b1, b2, b3].getD i 0) w (four _ _ _ _ (by omega) (by omega) (by omega) (by omega)) (four _ _ _ _ (by omega) (by omega) (by omega) (by omega))
  have e : dotP (fun i => [a0, a1, a2, a3].getD i 0) (fun i => [b0, b1, b2, b3].getD i 0) 4 = dot4 a0 a1 a2 a3 b0 b1 b2 b3 := by
    show (((0 ^^^ Fld.gm b0 a0) ^^^ Fld.gm b1 a1) ^^^ Fld.gm b2 a2) ^^^ Fld.gm b3 a3 = _
    rw [Nat.zero_xor]; rfl
  rw [e] at h
  exact h

set_option maxRecDepth 100000 in
set_option maxHeartbeats 400000 in
theorem awake_any (w : World) : Calls Try.prog 8 #[] w fun e w' => e = .returned (.bool true) ∧ Below w.heap.size w w' := by
  have h1 : Fld.gm 87 131 = 193 := by decide +kernel
  have h2 : Fld.inv 83 = 202 := by decide +kernel
  have h3 : Fld.sb 83 = 237 := by decide +kernel
  have h4 : Fld.usb 237 = 83 := by decide +kernel
  have h5 : Fld.pw 3 0 = 1 := by decide +kernel
  have h6 : dot4 1 2 0 0 5 1 9 9 = 7 := by decide +kernel
  go_enter Try.func8, Try.ntmps8
  go_wp2_with fail
  refine (mul1 _ 131 _ _ _ (by omega) (by omega) (by go_simp)).mono ?_
  rintro e w' ⟨rfl, rfl⟩
  go_wp2_with fail
  refine (inverse_any _ _ (by omega)).mono ?_
  rintro e w' ⟨rfl, rfl⟩
  go_wp2_with fail
  refine (sub_any _ _ (by omega)).mono ?_
  rintro e w' ⟨rfl, rfl⟩
  go_wp2_with fail
  refine (unsub_any _ _ (by omega)).mono ?_
  rintro e w' ⟨rfl, rfl⟩
  go_wp2_with fail
  refine (mul_nil _ _).mono ?_
  rintro e w' ⟨rfl, rfl⟩
  go_wp2_with fail
  refine (power_pos _ 0 _ (by omega) (by omega)).mono ?_
  rintro e w' ⟨rfl, rfl⟩
  go_wp2_with fail
  refine (dot_four _ _ _ _ _ _ _ _ _ (by omega) (by omega) (by omega) (by omega) (by omega) (by omega) (by omega) (by omega)).mono ?_
  rintro e w' ⟨rfl, hb⟩
  go_wp2_with fail
  go_ret
  exact ⟨rfl, ((Below.refl _ _).alloc (Nat.le_refl _) _).trans (hb.mono (by simp))⟩
end Go.Proofs.Ytmhnmedifpgnoaa
