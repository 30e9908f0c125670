import Derived.Test.YtmhnmedifpgnoaaFieldWalksB
import Derived.Deep.QuietTactic
import Derived.BigQuiet
namespace Go.Proofs.Ytmhnmedifpgnoaa
open Go.RowKit

def PowRel (x n : Nat) (p a c : Value) : Prop :=
  ∃ k p' a' c' : Nat, p = .int .u8 p' ∧ a = .int .u8 a' ∧ c = .int .u64 c' ∧ p' < 256 ∧ a' < 256 ∧ k ≤ 64 ∧ c' < 2 ^ k ∧ Fld.pwF k p' a' c' = Fld.pw x n

theorem pow_next {x n k p' a' c' : Nat} (ha : p' < 256) (hb : a' < 256) (hk : k ≤ 64) (hlt : c' < 2 ^ k) (h : Fld.pwF k p' a' c' = Fld.pw x n) (hn : (↑c' != (0 : Int)) = true)
    {P A C : Int} (hP : (((if c' % 2 = 1 then Fld.gm p' a' else p') : Nat) : Int) = P) (hA : ((Fld.gm a' a' : Nat) : Int) = A) (hC : C = ↑c' / 2) : PowRel x n (.int .u8 P) (.int .u8 A) (.int .u64 C) := by
  have hk0 : k ≠ 0 := by
    rintro rfl
    have : c' = 0 := by omega
    subst this
    simp at hn
  obtain ⟨j, rfl⟩ : ∃ j, k = j + 1 := ⟨k - 1, by omega⟩
  refine ⟨j, (if c' % 2 = 1 then Fld.gm p' a' else p'), Fld.gm a' a', c' / 2, by rw [hP], by rw [hA], by rw [hC]; rfl, ?_, Fld.gm_lt _ _ hb, by omega, by omega, h⟩
  split
  · exact Fld.gm_lt _ _ ha
  · exact ha

theorem u64_bit (a : Nat) (ha : a < 18446744073709551616) : bits .and .u64 (a : Int) 1 = ((a % 2 : Nat) : Int) := by
  have := u64_and_nat a 1 ha (by omega)
  rw [← nat_mask1]; exact this
theorem bitn_one (n : Nat) (h : (((n % 2 : Nat) : Int) != 0) = true) : n % 2 = 1 := by
  rcases Fld.mod_two_cases n with h' | h'
  · rw [h'] at h; simp at h
  · exact h'
theorem bitn_zero (n : Nat) (h : (((n % 2 : Nat) : Int) != 0) = false) : n % 2 = 0 := by
  rcases Fld.mod_two_cases n with h' | h'
  · exact h'
  · rw [h'] at h; simp at h
theorem two64 (k c : Nat) (hk : k ≤ 64) (h : c < 2 ^ k) : c < 18446744073709551616 :=
  Nat.lt_of_lt_of_le h (Nat.pow_le_pow_right (n := 2) (by omega) hk)

set_option maxHeartbeats 400000 in
theorem power_pos (x : Int) (n : Nat) (w : World) (hx : 0 ≤ x ∧ x < 256) (hn : n < 9223372036854775808) :
    Calls Try.prog 16 #[.int .u8 x, .int .i64 n] w fun e w' => e = .returned (.int .u8 ↑(Fld.pw x.toNat n)) ∧ w = w' := by
  obtain ⟨a, rfl⟩ := Int.eq_ofNat_of_zero_le hx.1
  rw [Int.toNat_natCast]
  have ha : a < 256 := by omega
  clear hx
  go_enter Try.func16, Try.ntmps16
  go_wp2_with fail
  go_loop [6, 0, 5] (fun p a' c => PowRel a n p a' c) (fun _ _ c => (intOf c).toNat)
  case atStart => exact ⟨64, 1, a, n, rfl, rfl, rfl, by omega, ha, by omega, by omega, by rw [Fld.pwF_eq _ _ _ _ (by omega) ha (by omega), Fld.one_gm _ (Fld.pw_lt _ _ ha)]⟩
  case round =>
    obtain ⟨k, p', a', c', rfl, rfl, rfl, hp', ha', hk, hc', h⟩ := hrel
    have H := Lib.hid h; clear h
    have hc2 := two64 k c' hk hc'
    have hb := u64_bit c' hc2
    by_cases hz : c' = 0
    · subst hz
      go_wp2_with fail
      go_ret
      have := H.out
      rw [Fld.pwF_zero] at this
      exact ⟨ret_int (by rw [this]), rfl⟩
    have hz1 : (((c' : Nat) : Int) != 0) = true := by simp; exact hz
    rcases Fld.mod_two_cases c' with hm | hm
    · have hb2 : (bits .and .u64 (c' : Int) 1 != 0) = false := by rw [hb, hm]; rfl
      have HC := Lib.hid hm
      clear hm hb hz
      go_wp2_with fail
      refine (product_any _ _ _ (by omega) (by omega)).mono ?_
      rintro e w' ⟨rfl, rfl⟩
      rw [Int.toNat_natCast]
      go_wp2_with fail
      go_round
      case rel => exact pow_next hp' ha' hk hc' H.out hz1 (by rw [if_neg (by rw [HC.out]; omega)]) rfl rfl
      case measure => simp [intOf]; have : c' ≠ 0 := (by rintro rfl; simp_all); omega
    · have hb2 : (bits .and .u64 (c' : Int) 1 != 0) = true := by rw [hb, hm]; rfl
      have HC := Lib.hid hm
      clear hm hb hz
      go_wp2_with fail
      refine (product_any _ _ _ (by omega) (by omega)).mono ?_
      rintro e w' ⟨rfl, rfl⟩
      rw [Int.toNat_natCast, Int.toNat_natCast]
      go_wp2_with fail
      refine (product_any _ _ _ (by omega) (by omega)).mono ?_
      rintro e w' ⟨rfl, rfl⟩
      rw [Int.toNat_natCast]
      go_wp2_with fail
      go_round
      case rel => exact pow_next hp' ha' hk hc' H.out hz1 (by rw [if_pos HC.out]) rfl rfl
      case measure => simp [intOf]; have : c' ≠ 0 := (by rintro rfl; simp_all); omega

set_option maxHeartbeats 400000 in
theorem power_neg (x : Int) (m : Nat) (w : World) (hx : 0 ≤ x ∧ x < 256) (hm0 : 0 < m) (hn : m ≤ 9223372036854775808) :
    Calls Try.prog 16 #[.int .u8 x, .int .i64 (-(m : Int))] w fun e w' => e = .returned (.int .u8 ↑(Fld.pw (Fld.inv x.toNat) m)) ∧ w = w' := by
  obtain ⟨a0, rfl⟩ := Int.eq_ofNat_of_zero_le hx.1
  rw [Int.toNat_natCast]
  have ha0 : a0 < 256 := by omega
  have ha := Fld.inv_lt a0 ha0
  have hc1 : IntKind.u64.wrap (-(m : Int)) = 18446744073709551616 - m := by rw [IntKind.wrap_u64]; omega
  have hc2 : IntKind.u64.wrap (-(18446744073709551616 - (m : Int))) = m := by rw [IntKind.wrap_u64]; omega
  have hneg : decide (-(m : Int) < 0) = true := by simp; omega
  clear hx
  go_enter Try.func16, Try.ntmps16
  go_wp2_with fail
  refine (inverse_any _ _ (by omega)).mono ?_
  rintro e w' ⟨rfl, rfl⟩
  rw [Int.toNat_natCast]
  generalize hga : Fld.inv a0 = a at ha ⊢
  have HG := Lib.hid hga; clear hga
  go_wp2_with fail
  go_loop [6, 0, 5] (fun p a' c => PowRel a m p a' c) (fun _ _ c => (intOf c).toNat)
  case atStart => exact ⟨64, 1, a, m, rfl, rfl, rfl, by omega, ha, by omega, by omega, by rw [Fld.pwF_eq _ _ _ _ (by omega) ha (by omega), Fld.one_gm _ (Fld.pw_lt _ _ ha)]⟩
  case round =>
    clear hc1 hc2 hneg
    obtain ⟨k, p', a', c', rfl, rfl, rfl, hp', ha', hk, hc', h⟩ := hrel
    have H := Lib.hid h; clear h
    have hc2 := two64 k c' hk hc'
    have hb := u64_bit c' hc2
    by_cases hz : c' = 0
    · subst hz
      go_wp2_with fail
      go_ret
      have := H.out
      rw [Fld.pwF_zero] at this
      exact ⟨ret_int (by rw [this, HG.out]), rfl⟩
    have hz1 : (((c' : Nat) : Int) != 0) = true := by simp; exact hz
    rcases Fld.mod_two_cases c' with hm | hm
    · have hb2 : (bits .and .u64 (c' : Int) 1 != 0) = false := by rw [hb, hm]; rfl
      have HC := Lib.hid hm
      clear hm hb hz
      go_wp2_with fail
      refine (product_any _ _ _ (by omega) (by omega)).mono ?_
      rintro e w' ⟨rfl, rfl⟩
      rw [Int.toNat_natCast]
      go_wp2_with fail
      go_round
      case rel => exact pow_next hp' ha' hk hc' H.out hz1 (by rw [if_neg (by rw [HC.out]; omega)]) rfl rfl
      case measure => simp [intOf]; have : c' ≠ 0 := (by rintro rfl; simp_all); omega
    · have hb2 : (bits .and .u64 (c' : Int) 1 != 0) = true := by rw [hb, hm]; rfl
      have HC := Lib.hid hm
      clear hm hb hz
      go_wp2_with fail
      refine (product_any _ _ _ (by omega) (by omega)).mono ?_
      rintro e w' ⟨rfl, rfl⟩
      rw [Int.toNat_natCast, Int.toNat_natCast]
      go_wp2_with fail
      refine (product_any _ _ _ (by omega) (by omega)).mono ?_
      rintro e w' ⟨rfl, rfl⟩
      rw [Int.toNat_natCast]
      go_wp2_with fail
      go_round
      case rel => exact pow_next hp' ha' hk hc' H.out hz1 (by rw [if_pos HC.out]) rfl rfl
      case measure => simp [intOf]; have : c' ≠ 0 := (by rintro rfl; simp_all); omega

set_option maxRecDepth 100000 in
set_option maxHeartbeats 400000 in
theorem refinv_any (x : Int) (w : World) (hx : 0 ≤ x ∧ x < 256) :
    Calls Try.prog 12 #[.int .u8 x] w fun e w' => e = .returned (.int .u8 ↑(Fld.inv x.toNat)) ∧ w = w' := by
  obtain ⟨a, rfl⟩ := Int.eq_ofNat_of_zero_le hx.1
  rw [Int.toNat_natCast]
  have ha : a < 256 := by omega
  clear hx
  go_enter Try.func12, Try.ntmps12
  go_wp2_with fail
  go_loop [3] (fun i => ∃ k : Nat, k ≤ 256 ∧ i = .int .i64 k ∧ Hid (∀ j, j < k → Fld.gm a j ≠ 1)) (fun i => 256 - (intOf i).toNat)
  case atStart => exact ⟨0, by omega, rfl, fun j hj => by omega⟩
  case round =>
    obtain ⟨k, hk, rfl, hno⟩ := hrel
    by_cases hlt : k < 256
    · by_cases h1 : Fld.gm a k = 1
      · have h2 : ((((Fld.gm a k : Nat)) : Int) == 1) = true := by rw [h1]; rfl
        have H1 := Lib.hid h1; clear h1

        go_wp2_with fail
        refine (refmul_any _ _ _ (by omega) (by omega)).mono ?_
        rintro e w' ⟨rfl, rfl⟩
        rw [Int.toNat_natCast, Int.toNat_natCast, Fld.rm_eq a k ha hlt]
        go_wp2_with fail
        go_ret
        exact ⟨ret_int (by rw [Fld.inv_only a k ha hlt H1.out]), rfl⟩
      · have h2 : ((((Fld.gm a k : Nat)) : Int) == 1) = false := by simp; omega
        have H1 := Lib.hid h1; clear h1
        go_wp2_with fail
        refine (refmul_any _ _ _ (by omega) (by omega)).mono ?_
        rintro e w' ⟨rfl, rfl⟩
        rw [Int.toNat_natCast, Int.toNat_natCast, Fld.rm_eq a k ha hlt]
        go_wp2_with fail
        go_round
        case rel =>
          refine ⟨k + 1, by omega, by go_num, fun j hj => ?_⟩
          by_cases hj' : j < k
          · exact hno.out j hj'
          · obtain rfl : j = k := by omega
            exact H1.out
        case measure => simp [intOf]; omega
    · obtain rfl : k = 256 := by omega
      go_wp2_with fail
      go_ret
      refine ⟨ret_int ?_, rfl⟩
      by_cases h0 : a = 0
      · subst h0
        decide +kernel
      · exact absurd (Fld.gm_inv a ha h0) (hno.out _ (Fld.inv_lt a ha))


theorem abit_lt (b i n : Nat) : Fld.abit b i n ≤ n + 2 := by
  induction n with
  | zero => unfold Fld.abit; omega
  | succ n ih => unfold Fld.abit; omega
theorem affP_lt (b i : Nat) : Fld.affP b i < 2 ^ i := by
  induction i with
  | zero => simp [Fld.affP]
  | succ i ih =>
    unfold Fld.affP
    rw [Nat.pow_succ]
    rcases Fld.mod_two_cases (Fld.abit b i 4) with h | h <;> rw [h] <;> omega

set_option maxRecDepth 100000 in
set_option maxHeartbeats 400000 in
theorem affine_any (x : Int) (w : World) (hx : 0 ≤ x ∧ x < 256) :
    Calls Try.prog 20 #[.int .i64 x] w fun e w' => e = .returned (.int .u8 ↑(Fld.aff x.toNat)) ∧ w = w' := by
  obtain ⟨a, rfl⟩ := Int.eq_ofNat_of_zero_le hx.1
  rw [Int.toNat_natCast]
  have ha : a < 256 := by omega
  clear hx
  go_enter Try.func20, Try.ntmps20
  go_wp2_with fail
  go_loop [3, 4, 5, 6] (fun o i _ _ => ∃ k : Nat, k ≤ 8 ∧ i = .int .i64 k ∧ o = .int .i64 ↑(Fld.affP a k)) (fun _ i _ _ => 8 - (intOf i).toNat)
  case atStart => exact ⟨0, by omega, rfl, rfl⟩
  case round =>
    obtain ⟨k, hk, rfl, rfl⟩ := hrel
    by_cases hlt : k < 8
    · have e1 : bits .and .i64 ((99 : Int) / 2 ^ k) 1 = ((99 / 2 ^ k % 2 : Nat) : Int) := by
        have hd : 99 / 2 ^ k ≤ 99 := Nat.div_le_self _ _
        have := i64_bit (99 / 2 ^ k) (by omega)
        rw [← this, ← cast_div_pow]; rfl
      have e2 : bits .and .i64 ((a : Int) / 2 ^ k) 1 = ((a / 2 ^ k % 2 : Nat) : Int) := by
        have hd : a / 2 ^ k ≤ a := Nat.div_le_self _ _
        rw [cast_div_pow, i64_bit _ (by omega)]
      have b1 : 99 / 2 ^ k % 2 < 2 := by omega
      have b2 : a / 2 ^ k % 2 < 2 := by omega
      have hs : ((99 / 2 ^ k % 2 : Nat) : Int) + ((a / 2 ^ k % 2 : Nat) : Int) = ((Fld.abit a k 0 : Nat) : Int) := by unfold Fld.abit; rw [Int.natCast_add]
      have HS := Lib.hid hs; clear hs
      go_wp2_with fail
      clear e1 e2 b1 b2
      go_loop [5, 6] (fun x j => ∃ n : Nat, n ≤ 4 ∧ j = .int .i64 (4 + n) ∧ x = .int .i64 ↑(Fld.abit a k n)) (fun _ j => 8 - (intOf j).toNat)
      case atStart => exact ⟨0, by omega, rfl, by rw [← HS.out]; congr 1⟩
      case round =>
        obtain ⟨n, hn, rfl, rfl⟩ := hrel
        have hab := abit_lt a k n
        by_cases hln : n < 4
        · have e3 : bits .and .i64 ((a : Int) / 2 ^ ((k + (4 + n)) % 8)) 1 = ((a / 2 ^ ((k + (n + 4)) % 8) % 2 : Nat) : Int) := by
            rw [Nat.add_comm n 4]
            have hd : a / 2 ^ ((k + (4 + n)) % 8) ≤ a := Nat.div_le_self _ _
            rw [cast_div_pow, i64_bit _ (by omega)]
          have b3 : a / 2 ^ ((k + (n + 4)) % 8) % 2 < 2 := by omega
          go_wp2_with fail
          go_round
          case rel => exact ⟨n + 1, by omega, by congr 1, by show _ = Value.int .i64 ((Fld.abit a k n + a / 2 ^ ((k + (n + 4)) % 8) % 2 : Nat) : Int); congr 1⟩
          case measure => simp [intOf]; omega
        · obtain rfl : n = 4 := by omega
          have hp := affP_lt a k
          have h2 : 2 ^ k ≤ 2 ^ 7 := Nat.pow_le_pow_right (by omega) (by omega)
          have hp2 : Fld.affP a k < 128 := by omega
          have e : (Fld.abit a k 4 : Int) % 2 * 2 ^ k = ((Fld.abit a k 4 % 2 * 2 ^ k : Nat) : Int) := by simp
          have h3 : (Fld.abit a k 4 : Int) % 2 * 2 ^ k ≤ 128 := by
            rw [e]
            rcases Fld.mod_two_cases (Fld.abit a k 4) with h | h <;> rw [h] <;> omega
          have h0 : 0 ≤ (Fld.abit a k 4 : Int) % 2 * 2 ^ k := by rw [e]; omega
          have E := Lib.hid e
          clear e hp h2
          go_wp2_with fail
          go_round
          case rel => exact ⟨k + 1, by omega, by go_num, by rw [E.out]; rfl⟩
          case measure => simp [intOf]; omega
    · obtain rfl : k = 8 := by omega
      have hb := affP_lt a 8
      have hb2 : Fld.affP a 8 < 256 := hb
      clear hb
      go_wp2_with fail
      go_ret
      exact ⟨ret_int (by unfold Fld.aff; rfl), rfl⟩

set_option maxHeartbeats 400000 in
theorem refsub_any (x : Int) (w : World) (hx : 0 ≤ x ∧ x < 256) :
    Calls Try.prog 14 #[.int .u8 x] w fun e w' => e = .returned (.int .u8 ↑(Fld.sb x.toNat)) ∧ w = w' := by
  obtain ⟨a, rfl⟩ := Int.eq_ofNat_of_zero_le hx.1
  rw [Int.toNat_natCast]
  have ha : a < 256 := by omega
  have hs := Fld.inv_lt a ha
  clear hx
  go_enter Try.func14, Try.ntmps14
  go_wp2_with fail
  refine (refinv_any _ _ (by omega)).mono ?_
  rintro e w' ⟨rfl, rfl⟩
  rw [Int.toNat_natCast]
  go_wp2_with fail
  refine (affine_any _ _ (by omega)).mono ?_
  rintro e w' ⟨rfl, rfl⟩
  rw [Int.toNat_natCast]
  go_wp2_with fail
  go_ret
  exact ⟨ret_int (by unfold Fld.sb; rfl), rfl⟩
end Go.Proofs.Ytmhnmedifpgnoaa
