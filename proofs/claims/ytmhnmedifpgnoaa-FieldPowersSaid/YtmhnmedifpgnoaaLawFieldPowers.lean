/- A power is a repeated product; powers are multiplied by adding their numbers, except for those of 0: for every byte and every two numbers of 16 bits the law returns true. No condition. -/
import Derived.Test.YtmhnmedifpgnoaaFieldAwake
import Derived.Test.YtmhnmedifpgnoaaLawKit
namespace Fld

/-- The power with a number of any sign. -/
def zp (a : Nat) (z : Int) : Nat := if 0 ≤ z then pw a z.toNat else pw (inv a) (-z).toNat
theorem zp_lt (a : Nat) (z : Int) (ha : a < 256) : zp a z < 256 := by
  unfold zp
  split
  · exact pw_lt _ _ ha
  · exact pw_lt _ _ (inv_lt _ ha)
theorem pw_zero (a : Nat) : pw a 0 = 1 := by with_unfolding_all rfl
theorem pw_succ (a n : Nat) : pw a (n + 1) = gm (pw a n) a := by with_unfolding_all rfl
theorem zp_nat (a n : Nat) : zp a (n : Int) = pw a n := by
  unfold zp
  rw [if_pos (by omega)]; simp
theorem zp_neg (a n : Nat) (hn : 0 < n) : zp a (-(n : Int)) = pw (inv a) n := by
  unfold zp
  rw [if_neg (by omega)]; simp
theorem zp_neg' (a n : Nat) : zp a (-(n : Int)) = pw (inv a) n := by
  by_cases h : n = 0
  · subst h
    rw [pw_zero]
    exact pw_zero a
  · exact zp_neg a n (by omega)

theorem pw_cancel1 (a b i j : Nat) (ha : a < 256) (hb : b < 256) (h : gm a b = 1) : gm (pw a (i + 1)) (pw b (j + 1)) = gm (pw a i) (pw b j) := by
  have hi := pw_lt a i ha
  have hj := pw_lt b j hb
  rw [pw_succ, pw_succ, gm_comm (pw b j) b hj hb, gm_assoc _ _ _ hi ha (gm_lt _ _ hb), ← gm_assoc a b _ ha hb hj, h, one_gm _ hj]
theorem pw_cancel (a b i j : Nat) (ha : a < 256) (hb : b < 256) (h : gm a b = 1) (hij : j ≤ i) : gm (pw a i) (pw b j) = pw a (i - j) := by
  induction j generalizing i with
  | zero => rw [pw_zero, gm_one _ (pw_lt _ _ ha)]; rfl
  | succ j ih =>
    obtain ⟨k, rfl⟩ : ∃ k, i = k + 1 := ⟨i - 1, by omega⟩
    rw [pw_cancel1 a b k j ha hb h, ih k (by omega)]
    congr 1
    omega

theorem zp_add (a : Nat) (n m : Int) (ha : a < 256) (h0 : a ≠ 0) : gm (zp a n) (zp a m) = zp a (n + m) := by
  have hi := inv_lt a ha
  have h1 := gm_inv a ha h0
  have h2 : gm (inv a) a = 1 := by rw [gm_comm _ _ hi ha]; exact h1
  have pos : ∀ i j : Nat, gm (pw a i) (pw (inv a) j) = zp a ((i : Int) - j) := by
    intro i j
    by_cases hij : j ≤ i
    · rw [pw_cancel a (inv a) i j ha hi h1 hij, show (i : Int) - j = ((i - j : Nat) : Int) by omega, zp_nat]
    · rw [gm_comm _ _ (pw_lt _ _ ha) (pw_lt _ _ hi), pw_cancel (inv a) a j i hi ha h2 (by omega), show (i : Int) - j = -((j - i : Nat) : Int) by omega, zp_neg']
  by_cases hn : 0 ≤ n
  · obtain ⟨i, rfl⟩ := Int.eq_ofNat_of_zero_le hn
    by_cases hm : 0 ≤ m
    · obtain ⟨j, rfl⟩ := Int.eq_ofNat_of_zero_le hm
      rw [zp_nat, zp_nat, show (i : Int) + j = ((i + j : Nat) : Int) by omega, zp_nat, pw_add a i j ha]
    · obtain ⟨j, hj⟩ := Int.eq_ofNat_of_zero_le (show 0 ≤ -m by omega)
      obtain rfl : m = -(j : Int) := by omega
      rw [zp_nat, zp_neg', pos]; rfl
  · obtain ⟨i, hi'⟩ := Int.eq_ofNat_of_zero_le (show 0 ≤ -n by omega)
    obtain rfl : n = -(i : Int) := by omega
    by_cases hm : 0 ≤ m
    · obtain ⟨j, rfl⟩ := Int.eq_ofNat_of_zero_le hm
      rw [zp_nat, zp_neg', gm_comm _ _ (pw_lt _ _ hi) (pw_lt _ _ ha), pos]
      congr 1
      omega
    · obtain ⟨j, hj⟩ := Int.eq_ofNat_of_zero_le (show 0 ≤ -m by omega)
      obtain rfl : m = -(j : Int) := by omega
      rw [zp_neg', zp_neg', show -(i : Int) + -(j : Int) = -((i + j : Nat) : Int) by omega, zp_neg', pw_add _ i j hi]

theorem sq_pw (a k : Nat) (ha : a < 256) : gm (pw a k) (pw a k) = pw a (2 * k) := by
  rw [← pw_add a k k ha]; congr 1; omega
theorem inv_pw (a : Nat) (ha : a < 256) : inv a = pw a 254 := by
  have h1 : pw a 1 = a := by rw [pw_succ, pw_zero, one_gm a ha]
  have e1 := sq_pw a 1 ha
  rw [h1] at e1
  have e2 := sq_pw a 2 ha
  have e3 := sq_pw a 4 ha
  have e4 := sq_pw a 8 ha
  have e5 := sq_pw a 16 ha
  have e6 := sq_pw a 32 ha
  have e7 := sq_pw a 64 ha
  unfold inv invS inv2
  simp only [Nat.reduceMul] at e1 e2 e3 e4 e5 e6 e7
  simp only [e1, e2, e3, e4, e5, e6, e7]
  rw [← pw_add _ _ _ ha, ← pw_add _ _ _ ha, ← pw_add _ _ _ ha, ← pw_add _ _ _ ha, ← pw_add _ _ _ ha, ← pw_add _ _ _ ha]
theorem pw_255 (a : Nat) (ha : a < 256) (h0 : a ≠ 0) : pw a 255 = 1 := by
  rw [pw_succ a 254, ← inv_pw a ha, gm_comm _ _ (inv_lt a ha) ha, gm_inv a ha h0]
attribute [irreducible] zp
end Fld

namespace Go.Proofs.Ytmhnmedifpgnoaa
open Go.ChangeShapes Go.WideShapes Go.ChangeAt Go.RowKit

theorem power_any (x z : Int) (w : World) (hx : 0 ≤ x ∧ x < 256) (hz : -9223372036854775807 ≤ z ∧ z ≤ 9223372036854775807) :
    Calls Try.prog 16 #[.int .u8 x, .int .i64 z] w fun e w' => e = .returned (.int .u8 ↑(Fld.zp x.toNat z)) ∧ w = w' := by
  by_cases h : 0 ≤ z
  · obtain ⟨n, rfl⟩ := Int.eq_ofNat_of_zero_le h
    have := power_pos x n w hx (by omega)
    rw [Fld.zp_nat]
    exact this
  · obtain ⟨n, hn⟩ := Int.eq_ofNat_of_zero_le (show 0 ≤ -z by omega)
    obtain rfl : z = -(n : Int) := by omega
    have := power_neg x n w hx (by omega) (by omega)
    rw [Fld.zp_neg']
    exact this


set_option maxRecDepth 100000 in
set_option maxHeartbeats 1000000 in
theorem fieldPowers_pos (a j : Nat) (m : Int) (ha : a < 256) (hj : j < 32768) (hm : -32768 ≤ m ∧ m ≤ 32767) (w : World) :
    Calls Try.prog 6 #[.int .u8 a, .int .i16 (j : Int), .int .i16 m] w fun e w' => e = .returned (.bool true) ∧ Below w.heap.size w w' := by
  have hlt0 : decide ((j : Int) < 0) = false := by simp
  obtain ⟨t, ht⟩ : ∃ t, t = j % 600 := ⟨_, rfl⟩
  have htm : (max (j : Int) (-(j : Int))) = j := by omega
  have hmod : (j : Int) % 600 = t := by omega
  have htmod : (j : Int).tmod 600 = t := by rw [Int.tmod_eq_emod_of_nonneg (by omega)]; omega
  have htl : t < 600 := by omega
  have HT := Lib.hid ht; clear ht
  obtain ⟨hm0, hm1⟩ := hm
  go_enter Try.func6, Try.ntmps6
  go_wp2_with fail
  refine (awake_any _).mono ?_
  rintro e w1 ⟨rfl, hb1⟩
  have hz1 : w.heap.size ≤ w1.heap.size := hb1.size
  have HB := Lib.hid hb1; clear hb1
  go_wp2_with fail
  obtain ⟨x, hx⟩ : ∃ x, x = a := ⟨_, rfl⟩
  have hxl : x < 256 := by rw [hx]; exact ha
  have HX := Lib.hid hx; clear hx
  have EZ := Lib.hid (show Fld.zp a (t : Int) = Fld.pw x t by rw [Fld.zp_nat, HX.out])
  go_loop [7, 9] (fun v i => ∃ k : Nat, k ≤ t ∧ i = .int .i64 k ∧ v = .int .u8 ↑(Fld.pw x k)) (fun _ i => t - (intOf i).toNat)
  case atStart => exact ⟨0, by omega, rfl, by rw [Fld.pw_zero]; rfl⟩
  case round =>
    obtain ⟨k, hk, rfl, rfl⟩ := hrel
    have hpl := Fld.pw_lt x k hxl
    by_cases hlt : k < t
    · have ER := Lib.hid (show Fld.rm (Fld.pw x k) a = Fld.pw x (k + 1) by rw [Fld.pw_succ, ← Fld.rm_eq _ x hpl hxl, HX.out])
      go_wp2_with fail
      refine (refmul_any _ _ _ (by omega) (by omega)).mono ?_
      rintro e w' ⟨rfl, rfl⟩
      simp only [Int.toNat_natCast]
      rw [ER.out]
      go_wp2_with fail
      go_round
      case rel => exact ⟨k + 1, by omega, by go_num, rfl⟩
      case measure => simp [intOf]; omega
    · obtain rfl : k = t := by omega
      go_wp2_with fail
      refine (power_any _ _ _ (by omega) (by omega)).mono ?_
      rintro e w' ⟨rfl, rfl⟩
      simp only [Int.toNat_natCast]
      rw [EZ.out]
      by_cases h0 : a = 0
      · have h00 : ((a : Int) == 0) = true := by rw [h0]; rfl
        clear h0
        go_wp2_with fail
        go_ret
        exact ⟨rfl, HB.out⟩
      · have h00 : ((a : Int) == 0) = false := by simp; omega
        have EA := Lib.hid (Fld.zp_add a (j : Int) m ha h0)
        have E1 := Lib.hid (show Fld.zp a ((255 : Nat) : Int) = 1 by rw [Fld.zp_nat, Fld.pw_255 a ha h0])
        have b1 := Fld.zp_lt a (j : Int) ha
        have b2 := Fld.zp_lt a m ha
        clear h0
        go_wp2_with fail
        refine (power_any _ _ _ (by omega) (by omega)).mono ?_
        rintro e w' ⟨rfl, rfl⟩
        simp only [Int.toNat_natCast]
        go_wp2_with fail
        refine (power_any _ _ _ (by omega) (by omega)).mono ?_
        rintro e w' ⟨rfl, rfl⟩
        simp only [Int.toNat_natCast]
        go_wp2_with fail
        refine (mul1 _ ↑(Fld.zp a m) _ _ _ (by omega) (by omega) (by go_simp)).mono ?_
        rintro e w' ⟨rfl, rfl⟩
        simp only [Int.toNat_natCast]
        rw [EA.out]
        go_wp2_with fail
        refine (power_any _ _ _ (by omega) (by omega)).mono ?_
        rintro e w' ⟨rfl, rfl⟩
        simp only [Int.toNat_natCast]
        go_wp2_with fail
        refine (power_any _ ((255 : Nat) : Int) _ (by omega) (by omega)).mono ?_
        rintro e w' ⟨rfl, rfl⟩
        simp only [Int.toNat_natCast]
        rw [E1.out]
        go_wp2_with fail
        go_ret
        exact ⟨rfl, Below.alloc2 HB.out (Nat.le_refl _) _⟩

set_option maxRecDepth 100000 in
set_option maxHeartbeats 1000000 in
theorem fieldPowers_neg (a j : Nat) (m : Int) (ha : a < 256) (hj0 : 0 < j) (hj : j ≤ 32768) (hm : -32768 ≤ m ∧ m ≤ 32767) (w : World) :
    Calls Try.prog 6 #[.int .u8 a, .int .i16 (-(j : Int)), .int .i16 m] w fun e w' => e = .returned (.bool true) ∧ Below w.heap.size w w' := by
  have hlt0 : decide ((-(j : Int)) < 0) = true := by simp; omega
  obtain ⟨t, ht⟩ : ∃ t, t = j % 600 := ⟨_, rfl⟩
  have htm : (max (-(j : Int)) (-(-(j : Int)))) = j := by omega
  have hmod : (j : Int) % 600 = t := by omega
  have htmod : (-(j : Int)).tmod 600 = -(t : Int) := by rw [Int.neg_tmod, Int.tmod_eq_emod_of_nonneg (by omega)]; omega
  have htl : t < 600 := by omega
  have HT := Lib.hid ht; clear ht
  obtain ⟨hm0, hm1⟩ := hm
  go_enter Try.func6, Try.ntmps6
  go_wp2_with fail
  refine (awake_any _).mono ?_
  rintro e w1 ⟨rfl, hb1⟩
  have hz1 : w.heap.size ≤ w1.heap.size := hb1.size
  have HB := Lib.hid hb1; clear hb1
  go_wp2_with fail
  refine (refinv_any _ _ (by omega)).mono ?_
  rintro e w' ⟨rfl, rfl⟩
  simp only [Int.toNat_natCast]
  obtain ⟨x, hx⟩ : ∃ x, x = Fld.inv a := ⟨_, rfl⟩
  have hxl : x < 256 := by rw [hx]; exact Fld.inv_lt a ha
  rw [← hx]
  have HX := Lib.hid hx; clear hx
  have EZ := Lib.hid (show Fld.zp a (-(t : Int)) = Fld.pw x t by rw [Fld.zp_neg', HX.out])
  go_wp2_with fail
  go_loop [7, 9] (fun v i => ∃ k : Nat, k ≤ t ∧ i = .int .i64 k ∧ v = .int .u8 ↑(Fld.pw x k)) (fun _ i => t - (intOf i).toNat)
  case atStart => exact ⟨0, by omega, rfl, by rw [Fld.pw_zero]; rfl⟩
  case round =>
    obtain ⟨k, hk, rfl, rfl⟩ := hrel
    have hpl := Fld.pw_lt x k hxl
    by_cases hlt : k < t
    · have ER := Lib.hid (show Fld.rm (Fld.pw x k) x = Fld.pw x (k + 1) by rw [Fld.pw_succ, ← Fld.rm_eq _ x hpl hxl])
      go_wp2_with fail
      refine (refmul_any _ _ _ (by omega) (by omega)).mono ?_
      rintro e w' ⟨rfl, rfl⟩
      simp only [Int.toNat_natCast]
      rw [ER.out]
      go_wp2_with fail
      go_round
      case rel => exact ⟨k + 1, by omega, by go_num, rfl⟩
      case measure => simp [intOf]; omega
    · obtain rfl : k = t := by omega
      go_wp2_with fail
      refine (power_any _ _ _ (by omega) (by omega)).mono ?_
      rintro e w' ⟨rfl, rfl⟩
      simp only [Int.toNat_natCast]
      rw [EZ.out]
      by_cases h0 : a = 0
      · have h00 : ((a : Int) == 0) = true := by rw [h0]; rfl
        clear h0
        go_wp2_with fail
        go_ret
        exact ⟨rfl, HB.out⟩
      · have h00 : ((a : Int) == 0) = false := by simp; omega
        have EA := Lib.hid (Fld.zp_add a (-(j : Int)) m ha h0)
        have E1 := Lib.hid (show Fld.zp a ((255 : Nat) : Int) = 1 by rw [Fld.zp_nat, Fld.pw_255 a ha h0])
        have b1 := Fld.zp_lt a (-(j : Int)) ha
        have b2 := Fld.zp_lt a m ha
        clear h0
        go_wp2_with fail
        refine (power_any _ _ _ (by omega) (by omega)).mono ?_
        rintro e w' ⟨rfl, rfl⟩
        simp only [Int.toNat_natCast]
        go_wp2_with fail
        refine (power_any _ _ _ (by omega) (by omega)).mono ?_
        rintro e w' ⟨rfl, rfl⟩
        simp only [Int.toNat_natCast]
        go_wp2_with fail
        refine (mul1 _ ↑(Fld.zp a m) _ _ _ (by omega) (by omega) (by go_simp)).mono ?_
        rintro e w' ⟨rfl, rfl⟩
        simp only [Int.toNat_natCast]
        rw [EA.out]
        go_wp2_with fail
        refine (power_any _ _ _ (by omega) (by omega)).mono ?_
        rintro e w' ⟨rfl, rfl⟩
        simp only [Int.toNat_natCast]
        go_wp2_with fail
        refine (power_any _ ((255 : Nat) : Int) _ (by omega) (by omega)).mono ?_
        rintro e w' ⟨rfl, rfl⟩
        simp only [Int.toNat_natCast]
        rw [E1.out]
        go_wp2_with fail
        go_ret
        exact ⟨rfl, Below.alloc2 HB.out (Nat.le_refl _) _⟩

theorem fieldPowers_walk (x : Int) (wx : (Lit.int .u8 x).wf = true) (n : Int) (wn : (Lit.int .i16 n).wf = true) (m : Int) (wm : (Lit.int .i16 m).wf = true) (w : World) :
    Calls Try.prog 6 #[.int .u8 x, .int .i16 n, .int .i16 m] w fun e w' => e = .returned (.bool true) ∧ Below w.heap.size w w' := by
  have hx := bounds_u8 wx
  have hn := bounds_i16 wn
  have hm := bounds_i16 wm
  obtain ⟨a, rfl⟩ := Int.eq_ofNat_of_zero_le hx.1
  by_cases h : 0 ≤ n
  · obtain ⟨j, rfl⟩ := Int.eq_ofNat_of_zero_le h
    exact fieldPowers_pos a j m (by omega) (by omega) hm w
  · obtain ⟨j, hj⟩ := Int.eq_ofNat_of_zero_le (show 0 ≤ -n by omega)
    obtain rfl : n = -(j : Int) := by omega
    exact fieldPowers_neg a j m (by omega) (by omega) (by omega) hm w

/-! ### THE ROW's STEP -/
namespace fieldPowersF
theorem own : ownKnob Try.prog.godebug = none := by kernel_rfl
theorem laidOut : laidOutB Try.prog = true := by kernel_rfl
set_option maxRecDepth 100000 in
theorem lifted (os : Os) (started : os.Started) (H : Type) (enc : TypeId × Value → H) :
    ReturnsInHanded {} Try.checked os 6 .any (Rows.fieldPowersSpec.pre6 enc Try.prog Try.f6 Rows.fieldPowersRow.domain false) (Rows.fieldPowersSpec.post enc Try.prog Try.f6 false true false false) := by
  refine returnsInHanded_of_change (C := Try.checked) own started (by kernel_rfl) Try.func6
    (ChangeSpec.witness6 (enc := enc) (C := Try.checked) false ⟨#[], #[.int .u8 0, .int .i16 0, .int .i16 0], []⟩ 8 (by kernel_rfl) (by kernel_rfl) (by kernel_rfl) (by kernel_rfl)) ?_
  intro W base args ds gs before hval0 hW _ _
  have hval : ∀ (j : Nat) t v, Try.f6.params[j]? = some t → args[j]? = some v → Value.okWide Try.prog W .any base t v := hval0
  have hW' := hW
  obtain ⟨p, q, hA0, hV, rfl, _, _⟩ := hW
  have hA : DataW.TrodAll enc Try.prog W 0 (fun _ => true) true Try.f6.params.toList args.toList ds p := hA0
  rw [Try.params6] at hA hval
  obtain ⟨v0, vs0, d0, ds0, p0, q0, hargs, rfl, rfl, h0, r0⟩ := trodAll_cons hA
  obtain ⟨v1, vs1, d1, ds1, p1, q1, rfl, rfl, rfl, h1, r1⟩ := trodAll_cons r0
  obtain ⟨v2, vs2, d2, ds2, p2, q2, rfl, rfl, rfl, h2, r2⟩ := trodAll_cons r1
  obtain ⟨rfl, rfl, rfl⟩ := trodAll_nil r2
  obtain rfl : args = #[v0, v1, v2] := by cases args; simp_all
  obtain ⟨rfl, rfl⟩ := trodVars_none hV
  have k0 := h0
  have lt0 : ∀ x ∈ p0, x.block < W.heap.size := by obtain ⟨m, hm⟩ := k0; exact DataW.trod_lt m _ _ _ hm
  obtain ⟨a0, rfl, _, _, w0⟩ := open_int Try.underlying5 (hval 0 5 v0 rfl rfl) h0
  have k1 := h1
  have lt1 : ∀ x ∈ p1, x.block < W.heap.size := by obtain ⟨m, hm⟩ := k1; exact DataW.trod_lt m _ _ _ hm
  obtain ⟨a1, rfl, _, _, w1⟩ := open_int Try.underlying28 (hval 1 28 v1 rfl rfl) h1
  have k2 := h2
  have lt2 : ∀ x ∈ p2, x.block < W.heap.size := by obtain ⟨m, hm⟩ := k2; exact DataW.trod_lt m _ _ _ hm
  obtain ⟨a2, rfl, _, _, w2⟩ := open_int Try.underlying28 (hval 2 28 v2 rfl rfl) h2
  refine (fieldPowers_walk a0 w0 a1 w1 a2 w2 W).mono fun e W' ⟨he, bel⟩ => ?_
  subst he
  exact ⟨_, rfl, _, _, _, [], _, [], hW', trodAll_mk1 (shut_bool Try.underlying4 _), (trodAll_cons_mk (Below.trod laidOut (by kernel_rfl) (of_decide_eq_true (by kernel_rfl)) k0 bel lt0) (trodAll_cons_mk (Below.trod laidOut (by kernel_rfl) (of_decide_eq_true (by kernel_rfl)) k1 bel lt1) (trodAll_cons_mk (Below.trod laidOut (by kernel_rfl) (of_decide_eq_true (by kernel_rfl)) k2 bel lt2) trodAll_mk0))), rfl, bel.frame _, fun h => by cases h⟩
theorem over : Rows.fieldPowersRow.holds Try.pinned (OpenSpec.ofChange Rows.fieldPowersSpec) :=
  OpenClaim.holds_of_wide 6 Try.f6 rfl rfl rfl rfl rfl rfl rfl ⟨rfl, rfl, rfl, rfl, rfl⟩ rfl rfl rfl rfl rfl (by kernel_rfl) Try.func6 (by kernel_rfl)
    (of_decide_eq_true (by kernel_rfl)) (by unfold Func.isWrapper; first | (rw [if_pos (by decide +kernel)]; kernel_rfl) | (rw [if_neg (by decide +kernel)]; exact ⟨rfl, rfl⟩))
    (fun os started H enc _ => lifted os started H enc)
end fieldPowersF
/-- The statement. -/
theorem fieldPowers_holds : Rows.FieldPowersSaid := fieldPowersF.over
#print axioms fieldPowers_holds
end Go.Proofs.Ytmhnmedifpgnoaa
