/- The functions of layer 6 that layer 7 calls, and the reference's: walked. (The walks of the field seat, over Mem.) -/
import Derived.Test.YtibgmoapkionjaaMem
import Derived.Test.YtibgmoapkionjaaFieldMath
import Derived.WalkKit
import Derived.WalkSpells
import Derived.WalkLawsBesides
import Derived.Lib.Hide
import Derived.Deep.QuietTactic
import Derived.BigQuiet
import Derived.Deep.OwnRows
namespace Go.Proofs.Ytibgmoapkionjaa
open Go.RowKit Go.Deep



/-- One round's product step in the walk's form: the bit is set. -/
theorem pstep1 (k p a b : Nat) (hp : p < 256) (ha : a < 256) (hb : b < 256) (h1 : (bits BinOp.and IntKind.u8 (↑b) 1 != 0) = true) : ((p ^^^ (a * (b % 2)) : Nat) : Int) = bits BinOp.xor IntKind.u8 ↑p ↑a := by
  have e : bits BinOp.and IntKind.u8 (↑b) 1 = ((b % 2 : Nat) : Int) := by
    have := u8_and_nat b 1 hb (by omega)
    rw [← nat_mask1]; exact this
  rw [e] at h1
  have h : b % 2 = 1 := by
    rcases Fld.mod_two_cases b with h | h
    · rw [h] at h1; simp at h1
    · exact h
  rw [u8_xor_nat p a hp ha, h, Nat.mul_one]
theorem pstep0 (k p a b : Nat) (hb : b < 256) (h1 : (bits BinOp.and IntKind.u8 (↑b) 1 != 0) = false) : p ^^^ (a * (b % 2)) = p := by
  have e : bits BinOp.and IntKind.u8 (↑b) 1 = ((b % 2 : Nat) : Int) := by
    have := u8_and_nat b 1 hb (by omega)
    rw [← nat_mask1]; exact this
  rw [e] at h1
  have h : b % 2 = 0 := by
    rcases Fld.mod_two_cases b with h | h
    · exact h
    · rw [h] at h1; simp at h1
  rw [h]; simp
theorem xstep1 (a : Nat) (ha : a < 256) (h : ((a : Int) / 128 != 0) = true) : ((Fld.xt a : Nat) : Int) = bits BinOp.xor IntKind.u8 (↑a * 2 % 256) 27 := by
  have : ∀ a : Nat, a < 256 → ((a : Int) / 128 != 0) = true → ((Fld.xt a : Nat) : Int) = bits BinOp.xor IntKind.u8 (↑a * 2 % 256) 27 := by decide +kernel
  exact this a ha h
theorem xstep0 (a : Nat) (ha : a < 256) (h : ((a : Int) / 128 != 0) = false) : ((Fld.xt a : Nat) : Int) = ↑a * 2 % 256 := by
  have : ∀ a : Nat, a < 256 → ((a : Int) / 128 != 0) = false → ((Fld.xt a : Nat) : Int) = ↑a * 2 % 256 := by decide +kernel
  exact this a ha h

def ProdRel (x y : Nat) (p a b : Value) : Prop :=
  ∃ k p' a' b' : Nat, p = .int .u8 p' ∧ a = .int .u8 a' ∧ b = .int .u8 b' ∧ p' < 256 ∧ a' < 256 ∧ k ≤ 8 ∧ b' < 2 ^ k ∧ Fld.gmF k p' a' b' = Fld.gm x y

theorem prod_next {x y k p' a' b' : Nat} (ha : p' < 256) (hb : a' < 256) (hk : k ≤ 8) (hlt : b' < 2 ^ k) (h : Fld.gmF k p' a' b' = Fld.gm x y) (hn : (↑b' != (0 : Int)) = true)
    {P A B : Int} (hP : ((p' ^^^ (a' * (b' % 2)) : Nat) : Int) = P) (hA : ((Fld.xt a' : Nat) : Int) = A) (hB : B = ↑b' / 2) : ProdRel x y (.int .u8 P) (.int .u8 A) (.int .u8 B) := by
  have hk0 : k ≠ 0 := by
    rintro rfl
    have : b' = 0 := by omega
    subst this
    simp at hn
  obtain ⟨j, rfl⟩ : ∃ j, k = j + 1 := ⟨k - 1, by omega⟩
  refine ⟨j, p' ^^^ (a' * (b' % 2)), Fld.xt a', b' / 2, by rw [hP], by rw [hA], by rw [hB]; rfl, ?_, Fld.xt_lt _ hb, by omega, by omega, h⟩
  apply Fld.xor_lt _ _ ha
  rcases Fld.mod_two_cases b' with h | h <;> rw [h] <;> omega

set_option maxHeartbeats 400000 in
theorem product_any (x y : Int) (w : World) (hx : 0 ≤ x ∧ x < 256) (hy : 0 ≤ y ∧ y < 256) :
    Calls Try.prog 47 #[.int .u8 x, .int .u8 y] w fun e w' => e = .returned (.int .u8 ↑(Fld.gm x.toNat y.toNat)) ∧ w = w' := by
  obtain ⟨a, rfl⟩ := Int.eq_ofNat_of_zero_le hx.1
  obtain ⟨b, rfl⟩ := Int.eq_ofNat_of_zero_le hy.1
  rw [Int.toNat_natCast, Int.toNat_natCast]
  have ha : a < 256 := by omega
  have hb : b < 256 := by omega
  clear hx hy
  go_enter Try.func47, Try.ntmps47
  go_wp2
  go_loop [5, 0, 1, 6] (fun p a' b' _ => ProdRel a b p a' b') (fun _ _ b _ => (intOf b).toNat)
  case atStart => exact ⟨8, 0, a, b, rfl, rfl, rfl, by omega, ha, by omega, hb, by unfold Fld.gm; rfl⟩
  case round =>
    obtain ⟨k, p', a', b', rfl, rfl, rfl, hp', ha', hk, hb', h⟩ := hrel
    have H := Lib.hid h; clear h
    have hb2 : b' < 256 := Nat.lt_of_lt_of_le hb' (Nat.pow_le_pow_right (n := 2) (by omega) hk)
    go_wp2
    · go_round
      case rel => exact prod_next hp' ha' hk hb' H.out ‹_› (pstep1 k _ _ _ hp' ha' hb2 ‹_›) (xstep1 _ ha' ‹_›) rfl
      case measure => simp [intOf]; have : b' ≠ 0 := (by rintro rfl; simp_all); omega
    · go_round
      case rel => exact prod_next hp' ha' hk hb' H.out ‹_› (pstep1 k _ _ _ hp' ha' hb2 ‹_›) (xstep0 _ ha' ‹_›) rfl
      case measure => simp [intOf]; have : b' ≠ 0 := (by rintro rfl; simp_all); omega
    · go_round
      case rel => exact prod_next hp' ha' hk hb' H.out ‹_› (by rw [pstep0 k _ _ _ hb2 ‹_›]) (xstep1 _ ha' ‹_›) rfl
      case measure => simp [intOf]; have : b' ≠ 0 := (by rintro rfl; simp_all); omega
    · go_round
      case rel => exact prod_next hp' ha' hk hb' H.out ‹_› (by rw [pstep0 k _ _ _ hb2 ‹_›]) (xstep0 _ ha' ‹_›) rfl
      case measure => simp [intOf]; have : b' ≠ 0 := (by rintro rfl; simp_all); omega
    · go_ret
      have hz : b' = 0 := by have h0 : (((b' : Nat) : Int) != 0) = false := by assumption
                             simp at h0; exact h0
      have := H.out
      rw [hz, Fld.gmF_zero] at this
      exact ⟨ret_int (by rw [this]), rfl⟩

theorem i64_xor_nat (a b : Nat) (ha : a < 4294967296) (hb : b < 4294967296) : bits .xor .i64 (a : Int) (b : Int) = ((a ^^^ b : Nat) : Int) := by
  have hx : a ^^^ b < 2 ^ 32 := Nat.xor_lt_two_pow (by omega) (by omega)
  have h1 : (BitVec.ofInt 64 (a : Int)).toNat = a := by
    rw [BitVec.ofInt_natCast, BitVec.toNat_ofNat]; exact Nat.mod_eq_of_lt (by omega)
  have h2 : (BitVec.ofInt 64 (b : Int)).toNat = b := by
    rw [BitVec.ofInt_natCast, BitVec.toNat_ofNat]; exact Nat.mod_eq_of_lt (by omega)
  show IntKind.i64.wrap ((BitVec.ofInt 64 (a : Int) ^^^ BitVec.ofInt 64 (b : Int)).toNat : Int) = _
  rw [BitVec.toNat_xor, h1, h2, IntKind.wrap_i64]
  omega
theorem i64_bit (a : Nat) (ha : a < 4294967296) : bits .and .i64 (a : Int) 1 = ((a % 2 : Nat) : Int) := by
  have := (bits_nat .i64 63 (by decide) (fun n h0 h1 => by rw [IntKind.wrap_i64]; omega) a 1 (by omega) (by omega)).1
  rw [← nat_mask1]; exact this
theorem cast_div_pow (b k : Nat) : (b : Int) / 2 ^ k = ((b / 2 ^ k : Nat) : Int) := by
  rw [Int.natCast_ediv]; simp

theorem bit_one (n : Nat) (h : (((n % 2 : Nat) : Int) == 1) = true) : n % 2 = 1 := by
  rcases Fld.mod_two_cases n with h' | h'
  · rw [h'] at h; simp at h
  · exact h'
theorem bit_zero (n : Nat) (h : (((n % 2 : Nat) : Int) == 1) = false) : n % 2 = 0 := by
  rcases Fld.mod_two_cases n with h' | h'
  · exact h'
  · rw [h'] at h; simp at h

theorem rmA_step1 (k a b : Nat) (hk : k < 8) (ha : a < 256) (hb : b < 256) (h : (bits BinOp.and IntKind.i64 (↑b / 2 ^ k) 1 == 1) = true) :
    bits .xor .i64 ↑(Fld.rmA k a b) (↑a * 2 ^ k) = ↑(Fld.rmA (k + 1) a b) := by
  have hd : b / 2 ^ k ≤ b := Nat.div_le_self _ _
  rw [cast_div_pow, i64_bit _ (by omega)] at h
  have h1 : b / 2 ^ k % 2 = 1 := bit_one _ h
  have h2 : 2 ^ k ≤ 2 ^ 7 := Nat.pow_le_pow_right (by omega) (by omega)
  have h3 : a * 2 ^ k ≤ 255 * 2 ^ 7 := Nat.mul_le_mul (by omega) h2
  have e : (a : Int) * 2 ^ k = ((a * 2 ^ k : Nat) : Int) := by simp
  have h4 := Fld.rmA_lt k a b (by omega) ha
  rw [e, i64_xor_nat _ _ (by omega) (by omega)]
  show _ = (((Fld.rmA k a b ^^^ (a * 2 ^ k) * (b / 2 ^ k % 2)) : Nat) : Int)
  rw [h1, Nat.mul_one]
theorem rmA_step0 (k a b : Nat) (hb : b < 256) (h : (bits BinOp.and IntKind.i64 (↑b / 2 ^ k) 1 == 1) = false) :
    Fld.rmA k a b = Fld.rmA (k + 1) a b := by
  have hd : b / 2 ^ k ≤ b := Nat.div_le_self _ _
  rw [cast_div_pow, i64_bit _ (by omega)] at h
  have h1 : b / 2 ^ k % 2 = 0 := bit_zero _ h
  show _ = (Fld.rmA k a b ^^^ (a * 2 ^ k) * (b / 2 ^ k % 2))
  rw [h1]; simp
theorem rmB_step1 (j p : Nat) (hj : j < 7) (hp : p < 65536) (h : (bits BinOp.and IntKind.i64 (↑(Fld.rmB j p) / 2 ^ (14 - j)) 1 == 1) = true) :
    bits .xor .i64 ↑(Fld.rmB j p) (283 * 2 ^ (14 - j - 8)) = ↑(Fld.rmB (j + 1) p) := by
  have h4 := Fld.rmB_lt j p (by omega) hp
  have hd : Fld.rmB j p / 2 ^ (14 - j) ≤ Fld.rmB j p := Nat.div_le_self _ _
  rw [cast_div_pow, i64_bit _ (by omega)] at h
  have h1 : Fld.rmB j p / 2 ^ (14 - j) % 2 = 1 := bit_one _ h
  have h2 : 2 ^ (6 - j) ≤ 2 ^ 6 := Nat.pow_le_pow_right (by omega) (by omega)
  have e : (283 : Int) * 2 ^ (14 - j - 8) = ((283 * 2 ^ (6 - j) : Nat) : Int) := by rw [show 14 - j - 8 = 6 - j by omega]; simp
  rw [e, i64_xor_nat _ _ (by omega) (by omega)]
  show _ = (((Fld.rmB j p ^^^ (283 * 2 ^ (6 - j)) * (Fld.rmB j p / 2 ^ (14 - j) % 2)) : Nat) : Int)
  rw [h1, Nat.mul_one]
theorem rmB_step0 (j p : Nat) (hj : j < 7) (hp : p < 65536) (h : (bits BinOp.and IntKind.i64 (↑(Fld.rmB j p) / 2 ^ (14 - j)) 1 == 1) = false) :
    Fld.rmB j p = Fld.rmB (j + 1) p := by
  have h4 := Fld.rmB_lt j p (by omega) hp
  have hd : Fld.rmB j p / 2 ^ (14 - j) ≤ Fld.rmB j p := Nat.div_le_self _ _
  rw [cast_div_pow, i64_bit _ (by omega)] at h
  have h1 : Fld.rmB j p / 2 ^ (14 - j) % 2 = 0 := bit_zero _ h
  show _ = (Fld.rmB j p ^^^ (283 * 2 ^ (6 - j)) * (Fld.rmB j p / 2 ^ (14 - j) % 2))
  rw [h1]; simp

set_option maxHeartbeats 400000 in
theorem refmul_any (x y : Int) (w : World) (hx : 0 ≤ x ∧ x < 256) (hy : 0 ≤ y ∧ y < 256) :
    Calls Try.prog 44 #[.int .u8 x, .int .u8 y] w fun e w' => e = .returned (.int .u8 ↑(Fld.rm x.toNat y.toNat)) ∧ w = w' := by
  obtain ⟨a, rfl⟩ := Int.eq_ofNat_of_zero_le hx.1
  obtain ⟨b, rfl⟩ := Int.eq_ofNat_of_zero_le hy.1
  rw [Int.toNat_natCast, Int.toNat_natCast]
  have ha : a < 256 := by omega
  have hb : b < 256 := by omega
  clear hx hy
  go_enter Try.func44, Try.ntmps44
  go_wp2
  go_loop [5, 6] (fun p i => ∃ k : Nat, k ≤ 8 ∧ i = .int .i64 k ∧ p = .int .i64 ↑(Fld.rmA k a b)) (fun _ i => 8 - (intOf i).toNat)
  case atStart => exact ⟨0, by omega, rfl, rfl⟩
  case round =>
    obtain ⟨k, hk, rfl, rfl⟩ := hrel
    have hz := Fld.rmA_lt k a b hk ha
    by_cases hlt : k < 8
    · have h3 : (a : Int) * 2 ^ k ≤ 32640 := by
        have h2 : 2 ^ k ≤ 2 ^ 7 := Nat.pow_le_pow_right (by omega) (by omega)
        have h3 : a * 2 ^ k ≤ 255 * 2 ^ 7 := Nat.mul_le_mul (by omega) h2
        have e : (a : Int) * 2 ^ k = ((a * 2 ^ k : Nat) : Int) := by simp
        rw [e]; omega
      have h0 : 0 ≤ (a : Int) * 2 ^ k := by
        have e : (a : Int) * 2 ^ k = ((a * 2 ^ k : Nat) : Int) := by simp
        rw [e]; omega
      go_wp2
      · go_round
        case rel => exact ⟨k + 1, by omega, by go_num, by rw [rmA_step1 k a b hlt ha hb ‹_›]⟩
        case measure => simp [intOf]; omega
      · go_round
        case rel => exact ⟨k + 1, by omega, by go_num, by rw [rmA_step0 k a b hb ‹_›]⟩
        case measure => simp [intOf]; omega
    · obtain rfl : k = 8 := by omega
      clear hlt hk
      go_wp2
      go_loop [5, 7] (fun p i => ∃ j : Nat, j ≤ 7 ∧ i = .int .i64 (14 - j) ∧ p = .int .i64 ↑(Fld.rmB j (Fld.rmA 8 a b))) (fun _ i => (intOf i).toNat)
      case atStart => exact ⟨0, by omega, rfl, rfl⟩
      case round =>
        obtain ⟨j, hj, rfl, rfl⟩ := hrel
        have hz2 := Fld.rmB_lt j _ hj hz
        by_cases hlt : j < 7
        · have h3 : (283 : Int) * 2 ^ (14 - j - 8) ≤ 18112 := by
            have h2 : 2 ^ (6 - j) ≤ 2 ^ 6 := Nat.pow_le_pow_right (by omega) (by omega)
            have e : (283 : Int) * 2 ^ (14 - j - 8) = ((283 * 2 ^ (6 - j) : Nat) : Int) := by rw [show 14 - j - 8 = 6 - j by omega]; simp
            rw [e]; omega
          have h0 : 0 ≤ (283 : Int) * 2 ^ (14 - j - 8) := by
            have e : (283 : Int) * 2 ^ (14 - j - 8) = ((283 * 2 ^ (6 - j) : Nat) : Int) := by rw [show 14 - j - 8 = 6 - j by omega]; simp
            rw [e]; omega
          go_wp2
          · go_round
            case rel => exact ⟨j + 1, by omega, by congr 1; omega, by rw [rmB_step1 j _ hlt hz ‹_›]⟩
            case measure => simp [intOf]; omega
          · go_round
            case rel => exact ⟨j + 1, by omega, by congr 1; omega, by rw [rmB_step0 j _ hlt hz ‹_›]⟩
            case measure => simp [intOf]; omega
        · obtain rfl : j = 7 := by omega
          clear hlt hj
          go_wp2
          go_ret
          exact ⟨ret_int (by unfold Fld.rm; omega), rfl⟩


theorem byte_table (s : ByteArray) (f : Nat → Nat) (hs : s.data.toList.map UInt8.toNat = (List.range 256).map f) (a : Nat) (ha : a < 256) (h : a < s.size) : ((s[a].toNat : Nat) : Int) = ↑(f a) := by
  have h' : a < (s.data.toList.map UInt8.toNat).length := by simpa using h
  have e : (s.data.toList.map UInt8.toNat)[a] = s[a].toNat := by
    rw [List.getElem_map]; rfl
  rw [← e]
  congr 1
  have e2 : (s.data.toList.map UInt8.toNat)[a]? = ((List.range 256).map f)[a]? := by rw [hs]
  rw [List.getElem?_eq_getElem h'] at e2
  simp [List.getElem?_range, ha] at e2
  simpa using e2

theorem back_form (a : Nat) (ha : a < 256) : bits BinOp.xor IntKind.u8
                        (bits BinOp.xor IntKind.u8
                          (bits BinOp.xor IntKind.u8 (bits BinOp.or IntKind.u8 (↑a * 2 % 256) (↑a / 128))
                            (bits BinOp.or IntKind.u8 (↑a * 8 % 256) (↑a / 32)))
                          (bits BinOp.or IntKind.u8 (↑a * 64 % 256) (↑a / 4)))
                        5 = ((Fld.back a : Nat) : Int) := by
  have : ∀ a : Nat, a < 256 → bits BinOp.xor IntKind.u8
                        (bits BinOp.xor IntKind.u8
                          (bits BinOp.xor IntKind.u8 (bits BinOp.or IntKind.u8 (↑a * 2 % 256) (↑a / 128))
                            (bits BinOp.or IntKind.u8 (↑a * 8 % 256) (↑a / 32)))
                          (bits BinOp.or IntKind.u8 (↑a * 64 % 256) (↑a / 4)))
                        5 = ((Fld.back a : Nat) : Int) := by decide +kernel
  exact this a ha

set_option maxHeartbeats 400000 in
theorem back_any (x : Int) (w : World) (hx : 0 ≤ x ∧ x < 256) :
    Calls Try.prog 52 #[.int .u8 x] w fun e w' => e = .returned (.int .u8 ↑(Fld.back x.toNat)) ∧ w = w' := by
  obtain ⟨a, rfl⟩ := Int.eq_ofNat_of_zero_le hx.1
  rw [Int.toNat_natCast]
  have ha : a < 256 := by omega
  clear hx
  have e1 : bits BinOp.and IntKind.u64 1 7 = 1 := by decide
  have e3 : bits BinOp.and IntKind.u64 3 7 = 3 := by decide
  have e6 : bits BinOp.and IntKind.u64 6 7 = 6 := by decide
  go_enter Try.func52, Try.ntmps52
  go_wp2
  go_ret
  exact ⟨ret_int (back_form a ha), rfl⟩

set_option maxRecDepth 100000 in
set_option maxHeartbeats 400000 in
theorem sub_any (x : Int) (w : World) (hx : 0 ≤ x ∧ x < 256) :
    Calls Try.prog 39 #[.int .u8 x] w fun e w' => e = .returned (.int .u8 ↑(Fld.sb x.toNat)) ∧ w = w' := by
  obtain ⟨a, rfl⟩ := Int.eq_ofNat_of_zero_le hx.1
  rw [Int.toNat_natCast]
  have ha : a < 256 := by omega
  clear hx
  go_enter Try.func39, Try.ntmps39
  go_wp2
  go_ret
  refine ⟨ret_int (byte_table _ Fld.sb ?_ a ha _), rfl⟩
  decide +kernel

set_option maxHeartbeats 400000 in
theorem inverse_any (x : Int) (w : World) (hx : 0 ≤ x ∧ x < 256) :
    Calls Try.prog 51 #[.int .u8 x] w fun e w' => e = .returned (.int .u8 ↑(Fld.inv x.toNat)) ∧ w = w' := by
  obtain ⟨a, rfl⟩ := Int.eq_ofNat_of_zero_le hx.1
  rw [Int.toNat_natCast]
  have ha : a < 256 := by omega
  have hs := Fld.sb_lt a ha
  have HB := Lib.hid (Fld.back_sb a ha)
  clear hx
  go_enter Try.func51, Try.ntmps51
  go_wp2_with fail
  refine (sub_any _ _ (by omega)).mono ?_
  rintro e w' ⟨rfl, rfl⟩
  rw [Int.toNat_natCast]
  go_wp2_with fail
  refine (back_any _ _ (by omega)).mono ?_
  rintro e w' ⟨rfl, rfl⟩
  rw [Int.toNat_natCast, HB.out]
  go_wp2_with fail
  go_ret
  exact ⟨rfl, rfl⟩

set_option maxHeartbeats 400000 in
theorem unsub_any (x : Int) (w : World) (hx : 0 ≤ x ∧ x < 256) :
    Calls Try.prog 46 #[.int .u8 x] w fun e w' => e = .returned (.int .u8 ↑(Fld.usb x.toNat)) ∧ w = w' := by
  obtain ⟨a, rfl⟩ := Int.eq_ofNat_of_zero_le hx.1
  rw [Int.toNat_natCast]
  have ha : a < 256 := by omega
  have hs := Fld.back_lt a ha
  clear hx
  go_enter Try.func46, Try.ntmps46
  go_wp2_with fail
  refine (back_any _ _ (by omega)).mono ?_
  rintro e w' ⟨rfl, rfl⟩
  rw [Int.toNat_natCast]
  go_wp2_with fail
  refine (inverse_any _ _ (by omega)).mono ?_
  rintro e w' ⟨rfl, rfl⟩
  rw [Int.toNat_natCast]
  go_wp2_with fail
  go_ret
  exact ⟨ret_int (by unfold Fld.usb; rfl), rfl⟩

set_option maxHeartbeats 400000 in
theorem mul_any (x : Int) (l : List Nat) (b off c : Nat) (w : World) (hx : 0 ≤ x ∧ x < 256) (hl : ∀ i, i < l.length → w.cell? ⟨b, off + i, none⟩ = some (.int .u8 ↑(l.getD i 0))) (hb : ∀ i, l.getD i 0 < 256) (hn : l.length ≤ 1000000) :
    Calls Try.prog 40 #[.int .u8 x, .slice (some ⟨b, off, none⟩) l.length c] w fun e w' => e = .returned (.int .u8 ↑(Fld.gml x.toNat l)) ∧ w = w' := by
  obtain ⟨a, rfl⟩ := Int.eq_ofNat_of_zero_le hx.1
  rw [Int.toNat_natCast]
  have ha : a < 256 := by omega
  clear hx
  obtain ⟨n, hnl⟩ : ∃ n, n = l.length := ⟨_, rfl⟩
  rw [← hnl] at hl hn ⊢
  have HN := Lib.hid hnl; clear hnl
  have HL := Lib.hid hl; clear hl
  have HB := Lib.hid hb; clear hb
  go_enter Try.func40, Try.ntmps40
  go_wp2_with fail
  go_loop [0, 6, 9] (fun p _ i => ∃ k : Nat, k ≤ n ∧ i = .int .i64 k ∧ p = .int .u8 ↑(Fld.gml a (l.take k))) (fun _ _ i => n - (intOf i).toNat)
  case atStart => exact ⟨0, by omega, rfl, by simp [Fld.gml]⟩
  case round =>
    obtain ⟨k, hk, rfl, rfl⟩ := hrel
    have hz := Fld.gml_lt a (l.take k) ha
    by_cases hlt : k < n
    · have hc := HL.out k hlt
      have hbk := HB.out k
      have hs := Lib.hid (Fld.gml_snoc a l k (by rw [← HN.out]; exact hlt))
      generalize l.getD k 0 = v at hc hbk hs
      go_wp2_with fail
      refine (product_any _ _ _ (by omega) (by omega)).mono ?_
      rintro e w' ⟨rfl, rfl⟩
      rw [Int.toNat_natCast, Int.toNat_natCast, ← hs.out]
      go_wp2_with fail
      go_round
      case rel => exact ⟨k + 1, by omega, by go_num, rfl⟩
      case measure => simp [intOf]; omega
    · obtain rfl : k = n := by omega
      go_wp2_with fail
      go_ret
      exact ⟨ret_int (by rw [List.take_of_length_le (by rw [HN.out]; exact Nat.le_refl _)]), rfl⟩

set_option maxHeartbeats 400000 in
theorem mul_nil (x : Int) (w : World) :
    Calls Try.prog 40 #[.int .u8 x, .slice none 0 0] w fun e w' => e = .returned (.int .u8 x) ∧ w = w' := by
  go_enter Try.func40, Try.ntmps40
  go_wp2_with fail
  go_loop [0, 6, 9] (fun p _ i => i = .int .i64 0 ∧ p = .int .u8 x) (fun _ _ i => 0)
  case atStart => exact ⟨rfl, rfl⟩
  case round =>
    obtain ⟨rfl, rfl⟩ := hrel
    go_wp2_with fail
    go_ret
    exact ⟨rfl, rfl⟩
theorem abit_lt (b i n : Nat) : Fld.abit b i n ≤ n + 2 := by
  induction n with
  | zero => unfold Fld.abit; omega
  | succ n ih => unfold Fld.abit; omega
theorem affP_lt (b i : Nat) : Fld.affP b i < 2 ^ i := by
  induction i with
  | zero => simp [Fld.affP]
  | succ i ih =>
    unfold Fld.affP
    rw [Nat.pow_succ]
    rcases Fld.mod_two_cases (Fld.abit b i 4) with h | h <;> rw [h] <;> omega

set_option maxRecDepth 100000 in
set_option maxHeartbeats 400000 in
theorem affine_any (x : Int) (w : World) (hx : 0 ≤ x ∧ x < 256) :
    Calls Try.prog 45 #[.int .i64 x] w fun e w' => e = .returned (.int .u8 ↑(Fld.aff x.toNat)) ∧ w = w' := by
  obtain ⟨a, rfl⟩ := Int.eq_ofNat_of_zero_le hx.1
  rw [Int.toNat_natCast]
  have ha : a < 256 := by omega
  clear hx
  go_enter Try.func45, Try.ntmps45
  go_wp2_with fail
  go_loop [3, 4, 5, 6] (fun o i _ _ => ∃ k : Nat, k ≤ 8 ∧ i = .int .i64 k ∧ o = .int .i64 ↑(Fld.affP a k)) (fun _ i _ _ => 8 - (intOf i).toNat)
  case atStart => exact ⟨0, by omega, rfl, rfl⟩
  case round =>
    obtain ⟨k, hk, rfl, rfl⟩ := hrel
    by_cases hlt : k < 8
    · have e1 : bits .and .i64 ((99 : Int) / 2 ^ k) 1 = ((99 / 2 ^ k % 2 : Nat) : Int) := by
        have hd : 99 / 2 ^ k ≤ 99 := Nat.div_le_self _ _
        have := i64_bit (99 / 2 ^ k) (by omega)
        rw [← this, ← cast_div_pow]; rfl
      have e2 : bits .and .i64 ((a : Int) / 2 ^ k) 1 = ((a / 2 ^ k % 2 : Nat) : Int) := by
        have hd : a / 2 ^ k ≤ a := Nat.div_le_self _ _
        rw [cast_div_pow, i64_bit _ (by omega)]
      have b1 : 99 / 2 ^ k % 2 < 2 := by omega
      have b2 : a / 2 ^ k % 2 < 2 := by omega
      have hs : ((99 / 2 ^ k % 2 : Nat) : Int) + ((a / 2 ^ k % 2 : Nat) : Int) = ((Fld.abit a k 0 : Nat) : Int) := by unfold Fld.abit; rw [Int.natCast_add]
      have HS := Lib.hid hs; clear hs
      go_wp2_with fail
      clear e1 e2 b1 b2
      go_loop [5, 6] (fun x j => ∃ n : Nat, n ≤ 4 ∧ j = .int .i64 (4 + n) ∧ x = .int .i64 ↑(Fld.abit a k n)) (fun _ j => 8 - (intOf j).toNat)
      case atStart => exact ⟨0, by omega, rfl, by rw [← HS.out]; congr 1⟩
      case round =>
        obtain ⟨n, hn, rfl, rfl⟩ := hrel
        have hab := abit_lt a k n
        by_cases hln : n < 4
        · have e3 : bits .and .i64 ((a : Int) / 2 ^ ((k + (4 + n)) % 8)) 1 = ((a / 2 ^ ((k + (n + 4)) % 8) % 2 : Nat) : Int) := by
            rw [Nat.add_comm n 4]
            have hd : a / 2 ^ ((k + (4 + n)) % 8) ≤ a := Nat.div_le_self _ _
            rw [cast_div_pow, i64_bit _ (by omega)]
          have b3 : a / 2 ^ ((k + (n + 4)) % 8) % 2 < 2 := by omega
          go_wp2_with fail
          go_round
          case rel => exact ⟨n + 1, by omega, by congr 1, by show _ = Value.int .i64 ((Fld.abit a k n + a / 2 ^ ((k + (n + 4)) % 8) % 2 : Nat) : Int); congr 1⟩
          case measure => simp [intOf]; omega
        · obtain rfl : n = 4 := by omega
          have hp := affP_lt a k
          have h2 : 2 ^ k ≤ 2 ^ 7 := Nat.pow_le_pow_right (by omega) (by omega)
          have hp2 : Fld.affP a k < 128 := by omega
          have e : (Fld.abit a k 4 : Int) % 2 * 2 ^ k = ((Fld.abit a k 4 % 2 * 2 ^ k : Nat) : Int) := by simp
          have h3 : (Fld.abit a k 4 : Int) % 2 * 2 ^ k ≤ 128 := by
            rw [e]
            rcases Fld.mod_two_cases (Fld.abit a k 4) with h | h <;> rw [h] <;> omega
          have h0 : 0 ≤ (Fld.abit a k 4 : Int) % 2 * 2 ^ k := by rw [e]; omega
          have E := Lib.hid e
          clear e hp h2
          go_wp2_with fail
          go_round
          case rel => exact ⟨k + 1, by omega, by go_num, by rw [E.out]; rfl⟩
          case measure => simp [intOf]; omega
    · obtain rfl : k = 8 := by omega
      have hb := affP_lt a 8
      have hb2 : Fld.affP a 8 < 256 := hb
      clear hb
      go_wp2_with fail
      go_ret
      exact ⟨ret_int (by unfold Fld.aff; rfl), rfl⟩

/-- The sum of the products, the first k. -/
def dotP (a b : Nat → Nat) : Nat → Nat
  | 0 => 0
  | k + 1 => dotP a b k ^^^ Fld.gm (b k) (a k)
theorem dotP_lt (a b : Nat → Nat) (hb : ∀ i, b i < 256) (k : Nat) : dotP a b k < 256 := by
  induction k with
  | zero => exact (by decide : (0 : Nat) < 256)
  | succ k ih => exact Fld.xor_lt _ _ ih (Fld.gm_lt _ _ (hb k))
set_option maxRecDepth 100000 in
set_option maxHeartbeats 400000 in
theorem dot_any (a b : Nat → Nat) (w : World) (ha : ∀ i, a i < 256) (hb : ∀ i, b i < 256) :
    Calls Try.prog 49 #[.agg #[.int .u8 ↑(a 0), .int .u8 ↑(a 1), .int .u8 ↑(a 2), .int .u8 ↑(a 3)], .agg #[.int .u8 ↑(b 0), .int .u8 ↑(b 1), .int .u8 ↑(b 2), .int .u8 ↑(b 3)]] w fun e w' =>
      e = .returned (.int .u8 ↑(dotP a b 4)) ∧ Below w.heap.size w w' := by
  have HA := Lib.hid ha; clear ha
  have HB := Lib.hid hb; clear hb
  go_enter Try.func49, Try.ntmps49
  go_wp2_with fail
  go_loopw [5, 6, 7] (fun p _ i wr => ∃ k : Nat, k ≤ 4 ∧ i = .int .i64 k ∧ p = .int .u8 ↑(dotP a b k) ∧ Below w.heap.size w wr ∧ wr.rowIs w.heap.size 62 4 (fun i => .int .u8 ↑(a i)) ∧ wr.rowIs (w.heap.size + 1) 62 4 (fun i => .int .u8 ↑(b i))) (fun _ _ i _ => 4 - (intOf i).toNat)
  case atStart =>
    refine ⟨0, by omega, rfl, rfl, ((Below.refl _ _).alloc (Nat.le_refl _) _).alloc (by simp) _, World.rowIs.alloc (World.rowIs_alloc w _ _ _ ?_) _, ?_⟩
    · intro i hi
      have hi : i < 4 := hi
      obtain rfl | rfl | rfl | rfl : i = 0 ∨ i = 1 ∨ i = 2 ∨ i = 3 := by omega
      all_goals rfl
    · have := World.rowIs_alloc (w.alloc (.cells #[.int .u8 ↑(a 0), .int .u8 ↑(a 1), .int .u8 ↑(a 2), .int .u8 ↑(a 3)] 62)) #[.int .u8 ↑(b 0), .int .u8 ↑(b 1), .int .u8 ↑(b 2), .int .u8 ↑(b 3)] 62 (fun i => .int .u8 ↑(b i)) (by
        intro i hi
        have hi : i < 4 := hi
        obtain rfl | rfl | rfl | rfl : i = 0 ∨ i = 1 ∨ i = 2 ∨ i = 3 := by omega
        all_goals rfl)
      simpa using this
  case round =>
    obtain ⟨k, hk, rfl, rfl, hbl, hra, hrb⟩ := hrel
    by_cases hlt : k < 4
    · have ca := hra.cell hlt
      have cb := hrb.cell hlt
      have HRA := Lib.hid hra; clear hra
      have HRB := Lib.hid hrb; clear hrb
      have HBL := Lib.hid hbl; clear hbl
      have ba := HA.out k
      have bb := HB.out k
      go_wp2_with fail
      go_quiet ((go_at_call 47; exact quiet_left (product_any _ _ _ (by omega) (by omega))))
      go_wp2_with fail
      go_roundw
      case rel => exact ⟨k + 1, by omega, by go_num, by rw [u8_xor_nat _ _ (dotP_lt a b HB.out k) (Fld.gm_lt _ _ bb)]; rfl, below_drewN HBL.out _, rowIs_drewN HRA.out _, rowIs_drewN HRB.out _⟩
      case measure => simp [intOf]; omega
    · obtain rfl : k = 4 := by omega
      have HBL := Lib.hid hbl; clear hbl
      clear hra hrb
      go_wp2_with fail
      go_ret
      exact ⟨rfl, HBL.out⟩
end Go.Proofs.Ytibgmoapkionjaa
