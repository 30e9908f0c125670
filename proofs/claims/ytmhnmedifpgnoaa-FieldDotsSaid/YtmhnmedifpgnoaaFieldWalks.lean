import Derived.Test.YtmhnmedifpgnoaaRows
import Derived.Test.YtmhnmedifpgnoaaFieldMath
import Derived.WalkKit
import Derived.WalkSpells
import Derived.WalkLawsBesides
import Derived.Lib.Hide
namespace Go.Proofs.Ytmhnmedifpgnoaa
open Go.RowKit

theorem ret_int {k : IntKind} {a b : Int} (h : a = b) : Ending.returned (.int k a) = .returned (.int k b) := by rw [h]

/-- One round's product step in the walk's form: the bit is set. -/
theorem pstep1 (k p a b : Nat) (hp : p < 256) (ha : a < 256) (hb : b < 256) (h1 : (bits BinOp.and IntKind.u8 (↑b) 1 != 0) = true) : ((p ^^^ (a * (b % 2)) : Nat) : Int) = bits BinOp.xor IntKind.u8 ↑p ↑a := by
  have e : bits BinOp.and IntKind.u8 (↑b) 1 = ((b % 2 : Nat) : Int) := by
    have := u8_and_nat b 1 hb (by omega)
    rw [← nat_mask1]; exact this
  rw [e] at h1
  have h : b % 2 = 1 := by
    rcases Fld.mod_two_cases b with h | h
    · rw [h] at h1; simp at h1
    · exact h
  rw [u8_xor_nat p a hp ha, h, Nat.mul_one]
theorem pstep0 (k p a b : Nat) (hb : b < 256) (h1 : (bits BinOp.and IntKind.u8 (↑b) 1 != 0) = false) : p ^^^ (a * (b % 2)) = p := by
  have e : bits BinOp.and IntKind.u8 (↑b) 1 = ((b % 2 : Nat) : Int) := by
    have := u8_and_nat b 1 hb (by omega)
    rw [← nat_mask1]; exact this
  rw [e] at h1
  have h : b % 2 = 0 := by
    rcases Fld.mod_two_cases b with h | h
    · exact h
    · rw [h] at h1; simp at h1
  rw [h]; simp
theorem xstep1 (a : Nat) (ha : a < 256) (h : ((a : Int) / 128 != 0) = true) : ((Fld.xt a : Nat) : Int) = bits BinOp.xor IntKind.u8 (↑a * 2 % 256) 27 := by
  have : ∀ a : Nat, a < 256 → ((a : Int) / 128 != 0) = true → ((Fld.xt a : Nat) : Int) = bits BinOp.xor IntKind.u8 (↑a * 2 % 256) 27 := by decide +kernel
  exact this a ha h
theorem xstep0 (a : Nat) (ha : a < 256) (h : ((a : Int) / 128 != 0) = false) : ((Fld.xt a : Nat) : Int) = ↑a * 2 % 256 := by
  have : ∀ a : Nat, a < 256 → ((a : Int) / 128 != 0) = false → ((Fld.xt a : Nat) : Int) = ↑a * 2 % 256 := by decide +kernel
  exact this a ha h

def ProdRel (x y : Nat) (p a b : Value) : Prop :=
  ∃ k p' a' b' : Nat, p = .int .u8 p' ∧ a = .int .u8 a' ∧ b = .int .u8 b' ∧ p' < 256 ∧ a' < 256 ∧ k ≤ 8 ∧ b' < 2 ^ k ∧ Fld.gmF k p' a' b' = Fld.gm x y

theorem prod_next {x y k p' a' b' : Nat} (ha : p' < 256) (hb : a' < 256) (hk : k ≤ 8) (hlt : b' < 2 ^ k) (h : Fld.gmF k p' a' b' = Fld.gm x y) (hn : (↑b' != (0 : Int)) = true)
    {P A B : Int} (hP : ((p' ^^^ (a' * (b' % 2)) : Nat) : Int) = P) (hA : ((Fld.xt a' : Nat) : Int) = A) (hB : B = ↑b' / 2) : ProdRel x y (.int .u8 P) (.int .u8 A) (.int .u8 B) := by
  have hk0 : k ≠ 0 := by
    rintro rfl
    have : b' = 0 := by omega
    subst this
    simp at hn
  obtain ⟨j, rfl⟩ : ∃ j, k = j + 1 := ⟨k - 1, by omega⟩
  refine ⟨j, p' ^^^ (a' * (b' % 2)), Fld.xt a', b' / 2, by rw [hP], by rw [hA], by rw [hB]; rfl, ?_, Fld.xt_lt _ hb, by omega, by omega, h⟩
  apply Fld.xor_lt _ _ ha
  rcases Fld.mod_two_cases b' with h | h <;> rw [h] <;> omega

set_option maxHeartbeats 400000 in
theorem product_any (x y : Int) (w : World) (hx : 0 ≤ x ∧ x < 256) (hy : 0 ≤ y ∧ y < 256) :
    Calls Try.prog 18 #[.int .u8 x, .int .u8 y] w fun e w' => e = .returned (.int .u8 ↑(Fld.gm x.toNat y.toNat)) ∧ w = w' := by
  obtain ⟨a, rfl⟩ := Int.eq_ofNat_of_zero_le hx.1
  obtain ⟨b, rfl⟩ := Int.eq_ofNat_of_zero_le hy.1
  rw [Int.toNat_natCast, Int.toNat_natCast]
  have ha : a < 256 := by omega
  have hb : b < 256 := by omega
  clear hx hy
  go_enter Try.func18, Try.ntmps18
  go_wp2
  go_loop [5, 0, 1, 6] (fun p a' b' _ => ProdRel a b p a' b') (fun _ _ b _ => (intOf b).toNat)
  case atStart => exact ⟨8, 0, a, b, rfl, rfl, rfl, by omega, ha, by omega, hb, by unfold Fld.gm; rfl⟩
  case round =>
    obtain ⟨k, p', a', b', rfl, rfl, rfl, hp', ha', hk, hb', h⟩ := hrel
    have H := Lib.hid h; clear h
    have hb2 : b' < 256 := Nat.lt_of_lt_of_le hb' (Nat.pow_le_pow_right (n := 2) (by omega) hk)
    go_wp2
    · go_round
      case rel => exact prod_next hp' ha' hk hb' H.out ‹_› (pstep1 k _ _ _ hp' ha' hb2 ‹_›) (xstep1 _ ha' ‹_›) rfl
      case measure => simp [intOf]; have : b' ≠ 0 := (by rintro rfl; simp_all); omega
    · go_round
      case rel => exact prod_next hp' ha' hk hb' H.out ‹_› (pstep1 k _ _ _ hp' ha' hb2 ‹_›) (xstep0 _ ha' ‹_›) rfl
      case measure => simp [intOf]; have : b' ≠ 0 := (by rintro rfl; simp_all); omega
    · go_round
      case rel => exact prod_next hp' ha' hk hb' H.out ‹_› (by rw [pstep0 k _ _ _ hb2 ‹_›]) (xstep1 _ ha' ‹_›) rfl
      case measure => simp [intOf]; have : b' ≠ 0 := (by rintro rfl; simp_all); omega
    · go_round
      case rel => exact prod_next hp' ha' hk hb' H.out ‹_› (by rw [pstep0 k _ _ _ hb2 ‹_›]) (xstep0 _ ha' ‹_›) rfl
      case measure => simp [intOf]; have : b' ≠ 0 := (by rintro rfl; simp_all); omega
    · go_ret
      have hz : b' = 0 := by have h0 : (((b' : Nat) : Int) != 0) = false := by assumption
                             simp at h0; exact h0
      have := H.out
      rw [hz, Fld.gmF_zero] at this
      exact ⟨ret_int (by rw [this]), rfl⟩

theorem i64_xor_nat (a b : Nat) (ha : a < 4294967296) (hb : b < 4294967296) : bits .xor .i64 (a : Int) (b : Int) = ((a ^^^ b : Nat) : Int) := by
  have hx : a ^^^ b < 2 ^ 32 := Nat.xor_lt_two_pow (by omega) (by omega)
  have h1 : (BitVec.ofInt 64 (a : Int)).toNat = a := by
    rw [BitVec.ofInt_natCast, BitVec.toNat_ofNat]; exact Nat.mod_eq_of_lt (by omega)
  have h2 : (BitVec.ofInt 64 (b : Int)).toNat = b := by
    rw [BitVec.ofInt_natCast, BitVec.toNat_ofNat]; exact Nat.mod_eq_of_lt (by omega)
  show IntKind.i64.wrap ((BitVec.ofInt 64 (a : Int) ^^^ BitVec.ofInt 64 (b : Int)).toNat : Int) = _
  rw [BitVec.toNat_xor, h1, h2, IntKind.wrap_i64]
  omega
theorem i64_bit (a : Nat) (ha : a < 4294967296) : bits .and .i64 (a : Int) 1 = ((a % 2 : Nat) : Int) := by
  have := (bits_nat .i64 63 (by decide) (fun n h0 h1 => by rw [IntKind.wrap_i64]; omega) a 1 (by omega) (by omega)).1
  rw [← nat_mask1]; exact this
theorem cast_div_pow (b k : Nat) : (b : Int) / 2 ^ k = ((b / 2 ^ k : Nat) : Int) := by
  rw [Int.natCast_ediv]; simp

theorem bit_one (n : Nat) (h : (((n % 2 : Nat) : Int) == 1) = true) : n % 2 = 1 := by
  rcases Fld.mod_two_cases n with h' | h'
  · rw [h'] at h; simp at h
  · exact h'
theorem bit_zero (n : Nat) (h : (((n % 2 : Nat) : Int) == 1) = false) : n % 2 = 0 := by
  rcases Fld.mod_two_cases n with h' | h'
  · exact h'
  · rw [h'] at h; simp at h

theorem rmA_step1 (k a b : Nat) (hk : k < 8) (ha : a < 256) (hb : b < 256) (h : (bits BinOp.and IntKind.i64 (↑b / 2 ^ k) 1 == 1) = true) :
    bits .xor .i64 ↑(Fld.rmA k a b) (↑a * 2 ^ k) = ↑(Fld.rmA (k + 1) a b) := by
  have hd : b / 2 ^ k ≤ b := Nat.div_le_self _ _
  rw [cast_div_pow, i64_bit _ (by omega)] at h
  have h1 : b / 2 ^ k % 2 = 1 := bit_one _ h
  have h2 : 2 ^ k ≤ 2 ^ 7 := Nat.pow_le_pow_right (by omega) (by omega)
  have h3 : a * 2 ^ k ≤ 255 * 2 ^ 7 := Nat.mul_le_mul (by omega) h2
  have e : (a : Int) * 2 ^ k = ((a * 2 ^ k : Nat) : Int) := by simp
  have h4 := Fld.rmA_lt k a b (by omega) ha
  rw [e, i64_xor_nat _ _ (by omega) (by omega)]
  show _ = (((Fld.rmA k a b ^^^ (a * 2 ^ k) * (b / 2 ^ k % 2)) : Nat) : Int)
  rw [h1, Nat.mul_one]
theorem rmA_step0 (k a b : Nat) (hb : b < 256) (h : (bits BinOp.and IntKind.i64 (↑b / 2 ^ k) 1 == 1) = false) :
    Fld.rmA k a b = Fld.rmA (k + 1) a b := by
  have hd : b / 2 ^ k ≤ b := Nat.div_le_self _ _
  rw [cast_div_pow, i64_bit _ (by omega)] at h
  have h1 : b / 2 ^ k % 2 = 0 := bit_zero _ h
  show _ = (Fld.rmA k a b ^^^ (a * 2 ^ k) * (b / 2 ^ k % 2))
  rw [h1]; simp
theorem rmB_step1 (j p : Nat) (hj : j < 7) (hp : p < 65536) (h : (bits BinOp.and IntKind.i64 (↑(Fld.rmB j p) / 2 ^ (14 - j)) 1 == 1) = true) :
    bits .xor .i64 ↑(Fld.rmB j p) (283 * 2 ^ (14 - j - 8)) = ↑(Fld.rmB (j + 1) p) := by
  have h4 := Fld.rmB_lt j p (by omega) hp
  have hd : Fld.rmB j p / 2 ^ (14 - j) ≤ Fld.rmB j p := Nat.div_le_self _ _
  rw [cast_div_pow, i64_bit _ (by omega)] at h
  have h1 : Fld.rmB j p / 2 ^ (14 - j) % 2 = 1 := bit_one _ h
  have h2 : 2 ^ (6 - j) ≤ 2 ^ 6 := Nat.pow_le_pow_right (by omega) (by omega)
  have e : (283 : Int) * 2 ^ (14 - j - 8) = ((283 * 2 ^ (6 - j) : Nat) : Int) := by rw [show 14 - j - 8 = 6 - j by omega]; simp
  rw [e, i64_xor_nat _ _ (by omega) (by omega)]
  show _ = (((Fld.rmB j p ^^^ (283 * 2 ^ (6 - j)) * (Fld.rmB j p / 2 ^ (14 - j) % 2)) : Nat) : Int)
  rw [h1, Nat.mul_one]
theorem rmB_step0 (j p : Nat) (hj : j < 7) (hp : p < 65536) (h : (bits BinOp.and IntKind.i64 (↑(Fld.rmB j p) / 2 ^ (14 - j)) 1 == 1) = false) :
    Fld.rmB j p = Fld.rmB (j + 1) p := by
  have h4 := Fld.rmB_lt j p (by omega) hp
  have hd : Fld.rmB j p / 2 ^ (14 - j) ≤ Fld.rmB j p := Nat.div_le_self _ _
  rw [cast_div_pow, i64_bit _ (by omega)] at h
  have h1 : Fld.rmB j p / 2 ^ (14 - j) % 2 = 0 := bit_zero _ h
  show _ = (Fld.rmB j p ^^^ (283 * 2 ^ (6 - j)) * (Fld.rmB j p / 2 ^ (14 - j) % 2))
  rw [h1]; simp

set_option maxHeartbeats 400000 in
theorem refmul_any (x y : Int) (w : World) (hx : 0 ≤ x ∧ x < 256) (hy : 0 ≤ y ∧ y < 256) :
    Calls Try.prog 10 #[.int .u8 x, .int .u8 y] w fun e w' => e = .returned (.int .u8 ↑(Fld.rm x.toNat y.toNat)) ∧ w = w' := by
  obtain ⟨a, rfl⟩ := Int.eq_ofNat_of_zero_le hx.1
  obtain ⟨b, rfl⟩ := Int.eq_ofNat_of_zero_le hy.1
  rw [Int.toNat_natCast, Int.toNat_natCast]
  have ha : a < 256 := by omega
  have hb : b < 256 := by omega
  clear hx hy
  go_enter Try.func10, Try.ntmps10
  go_wp2
  go_loop [5, 6] (fun p i => ∃ k : Nat, k ≤ 8 ∧ i = .int .i64 k ∧ p = .int .i64 ↑(Fld.rmA k a b)) (fun _ i => 8 - (intOf i).toNat)
  case atStart => exact ⟨0, by omega, rfl, rfl⟩
  case round =>
    obtain ⟨k, hk, rfl, rfl⟩ := hrel
    have hz := Fld.rmA_lt k a b hk ha
    by_cases hlt : k < 8
    · have h3 : (a : Int) * 2 ^ k ≤ 32640 := by
        have h2 : 2 ^ k ≤ 2 ^ 7 := Nat.pow_le_pow_right (by omega) (by omega)
        have h3 : a * 2 ^ k ≤ 255 * 2 ^ 7 := Nat.mul_le_mul (by omega) h2
        have e : (a : Int) * 2 ^ k = ((a * 2 ^ k : Nat) : Int) := by simp
        rw [e]; omega
      have h0 : 0 ≤ (a : Int) * 2 ^ k := by
        have e : (a : Int) * 2 ^ k = ((a * 2 ^ k : Nat) : Int) := by simp
        rw [e]; omega
      go_wp2
      · go_round
        case rel => exact ⟨k + 1, by omega, by go_num, by rw [rmA_step1 k a b hlt ha hb ‹_›]⟩
        case measure => simp [intOf]; omega
      · go_round
        case rel => exact ⟨k + 1, by omega, by go_num, by rw [rmA_step0 k a b hb ‹_›]⟩
        case measure => simp [intOf]; omega
    · obtain rfl : k = 8 := by omega
      clear hlt hk
      go_wp2
      go_loop [5, 7] (fun p i => ∃ j : Nat, j ≤ 7 ∧ i = .int .i64 (14 - j) ∧ p = .int .i64 ↑(Fld.rmB j (Fld.rmA 8 a b))) (fun _ i => (intOf i).toNat)
      case atStart => exact ⟨0, by omega, rfl, rfl⟩
      case round =>
        obtain ⟨j, hj, rfl, rfl⟩ := hrel
        have hz2 := Fld.rmB_lt j _ hj hz
        by_cases hlt : j < 7
        · have h3 : (283 : Int) * 2 ^ (14 - j - 8) ≤ 18112 := by
            have h2 : 2 ^ (6 - j) ≤ 2 ^ 6 := Nat.pow_le_pow_right (by omega) (by omega)
            have e : (283 : Int) * 2 ^ (14 - j - 8) = ((283 * 2 ^ (6 - j) : Nat) : Int) := by rw [show 14 - j - 8 = 6 - j by omega]; simp
            rw [e]; omega
          have h0 : 0 ≤ (283 : Int) * 2 ^ (14 - j - 8) := by
            have e : (283 : Int) * 2 ^ (14 - j - 8) = ((283 * 2 ^ (6 - j) : Nat) : Int) := by rw [show 14 - j - 8 = 6 - j by omega]; simp
            rw [e]; omega
          go_wp2
          · go_round
            case rel => exact ⟨j + 1, by omega, by congr 1; omega, by rw [rmB_step1 j _ hlt hz ‹_›]⟩
            case measure => simp [intOf]; omega
          · go_round
            case rel => exact ⟨j + 1, by omega, by congr 1; omega, by rw [rmB_step0 j _ hlt hz ‹_›]⟩
            case measure => simp [intOf]; omega
        · obtain rfl : j = 7 := by omega
          clear hlt hj
          go_wp2
          go_ret
          exact ⟨ret_int (by unfold Fld.rm; omega), rfl⟩
end Go.Proofs.Ytmhnmedifpgnoaa
