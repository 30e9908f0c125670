import Derived.Test.YtmhnmedifpgnoaaFieldWalks
namespace Go.Proofs.Ytmhnmedifpgnoaa
open Go.RowKit

theorem byte_table (s : ByteArray) (f : Nat → Nat) (hs : s.data.toList.map UInt8.toNat = (List.range 256).map f) (a : Nat) (ha : a < 256) (h : a < s.size) : ((s[a].toNat : Nat) : Int) = ↑(f a) := by
  have h' : a < (s.data.toList.map UInt8.toNat).length := by simpa using h
  have e : (s.data.toList.map UInt8.toNat)[a] = s[a].toNat := by
    rw [List.getElem_map]; rfl
  rw [← e]
  congr 1
  have e2 : (s.data.toList.map UInt8.toNat)[a]? = ((List.range 256).map f)[a]? := by rw [hs]
  rw [List.getElem?_eq_getElem h'] at e2
  simp [List.getElem?_range, ha] at e2
  simpa using e2

theorem back_form (a : Nat) (ha : a < 256) : bits BinOp.xor IntKind.u8
                        (bits BinOp.xor IntKind.u8
                          (bits BinOp.xor IntKind.u8 (bits BinOp.or IntKind.u8 (↑a * 2 % 256) (↑a / 128))
                            (bits BinOp.or IntKind.u8 (↑a * 8 % 256) (↑a / 32)))
                          (bits BinOp.or IntKind.u8 (↑a * 64 % 256) (↑a / 4)))
                        5 = ((Fld.back a : Nat) : Int) := by
  have : ∀ a : Nat, a < 256 → bits BinOp.xor IntKind.u8
                        (bits BinOp.xor IntKind.u8
                          (bits BinOp.xor IntKind.u8 (bits BinOp.or IntKind.u8 (↑a * 2 % 256) (↑a / 128))
                            (bits BinOp.or IntKind.u8 (↑a * 8 % 256) (↑a / 32)))
                          (bits BinOp.or IntKind.u8 (↑a * 64 % 256) (↑a / 4)))
                        5 = ((Fld.back a : Nat) : Int) := by decide +kernel
  exact this a ha

set_option maxHeartbeats 400000 in
theorem back_any (x : Int) (w : World) (hx : 0 ≤ x ∧ x < 256) :
    Calls Try.prog 19 #[.int .u8 x] w fun e w' => e = .returned (.int .u8 ↑(Fld.back x.toNat)) ∧ w = w' := by
  obtain ⟨a, rfl⟩ := Int.eq_ofNat_of_zero_le hx.1
  rw [Int.toNat_natCast]
  have ha : a < 256 := by omega
  clear hx
  have e1 : bits BinOp.and IntKind.u64 1 7 = 1 := by decide
  have e3 : bits BinOp.and IntKind.u64 3 7 = 3 := by decide
  have e6 : bits BinOp.and IntKind.u64 6 7 = 6 := by decide
  go_enter Try.func19, Try.ntmps19
  go_wp2
  go_ret
  exact ⟨ret_int (back_form a ha), rfl⟩

set_option maxRecDepth 100000 in
set_option maxHeartbeats 400000 in
theorem sub_any (x : Int) (w : World) (hx : 0 ≤ x ∧ x < 256) :
    Calls Try.prog 13 #[.int .u8 x] w fun e w' => e = .returned (.int .u8 ↑(Fld.sb x.toNat)) ∧ w = w' := by
  obtain ⟨a, rfl⟩ := Int.eq_ofNat_of_zero_le hx.1
  rw [Int.toNat_natCast]
  have ha : a < 256 := by omega
  clear hx
  go_enter Try.func13, Try.ntmps13
  go_wp2
  go_ret
  refine ⟨ret_int (byte_table _ Fld.sb ?_ a ha _), rfl⟩
  decide +kernel

set_option maxHeartbeats 400000 in
theorem inverse_any (x : Int) (w : World) (hx : 0 ≤ x ∧ x < 256) :
    Calls Try.prog 11 #[.int .u8 x] w fun e w' => e = .returned (.int .u8 ↑(Fld.inv x.toNat)) ∧ w = w' := by
  obtain ⟨a, rfl⟩ := Int.eq_ofNat_of_zero_le hx.1
  rw [Int.toNat_natCast]
  have ha : a < 256 := by omega
  have hs := Fld.sb_lt a ha
  have HB := Lib.hid (Fld.back_sb a ha)
  clear hx
  go_enter Try.func11, Try.ntmps11
  go_wp2_with fail
  refine (sub_any _ _ (by omega)).mono ?_
  rintro e w' ⟨rfl, rfl⟩
  rw [Int.toNat_natCast]
  go_wp2_with fail
  refine (back_any _ _ (by omega)).mono ?_
  rintro e w' ⟨rfl, rfl⟩
  rw [Int.toNat_natCast, HB.out]
  go_wp2_with fail
  go_ret
  exact ⟨rfl, rfl⟩

set_option maxHeartbeats 400000 in
theorem unsub_any (x : Int) (w : World) (hx : 0 ≤ x ∧ x < 256) :
    Calls Try.prog 15 #[.int .u8 x] w fun e w' => e = .returned (.int .u8 ↑(Fld.usb x.toNat)) ∧ w = w' := by
  obtain ⟨a, rfl⟩ := Int.eq_ofNat_of_zero_le hx.1
  rw [Int.toNat_natCast]
  have ha : a < 256 := by omega
  have hs := Fld.back_lt a ha
  clear hx
  go_enter Try.func15, Try.ntmps15
  go_wp2_with fail
  refine (back_any _ _ (by omega)).mono ?_
  rintro e w' ⟨rfl, rfl⟩
  rw [Int.toNat_natCast]
  go_wp2_with fail
  refine (inverse_any _ _ (by omega)).mono ?_
  rintro e w' ⟨rfl, rfl⟩
  rw [Int.toNat_natCast]
  go_wp2_with fail
  go_ret
  exact ⟨ret_int (by unfold Fld.usb; rfl), rfl⟩

set_option maxHeartbeats 400000 in
theorem mul_any (x : Int) (l : List Nat) (b off c : Nat) (w : World) (hx : 0 ≤ x ∧ x < 256) (hl : ∀ i, i < l.length → w.cell? ⟨b, off + i, none⟩ = some (.int .u8 ↑(l.getD i 0))) (hb : ∀ i, l.getD i 0 < 256) (hn : l.length ≤ 1000000) :
    Calls Try.prog 9 #[.int .u8 x, .slice (some ⟨b, off, none⟩) l.length c] w fun e w' => e = .returned (.int .u8 ↑(Fld.gml x.toNat l)) ∧ w = w' := by
  obtain ⟨a, rfl⟩ := Int.eq_ofNat_of_zero_le hx.1
  rw [Int.toNat_natCast]
  have ha : a < 256 := by omega
  clear hx
  obtain ⟨n, hnl⟩ : ∃ n, n = l.length := ⟨_, rfl⟩
  rw [← hnl] at hl hn ⊢
  have HN := Lib.hid hnl; clear hnl
  have HL := Lib.hid hl; clear hl
  have HB := Lib.hid hb; clear hb
  go_enter Try.func9, Try.ntmps9
  go_wp2_with fail
  go_loop [0, 6, 9] (fun p _ i => ∃ k : Nat, k ≤ n ∧ i = .int .i64 k ∧ p = .int .u8 ↑(Fld.gml a (l.take k))) (fun _ _ i => n - (intOf i).toNat)
  case atStart => exact ⟨0, by omega, rfl, by simp [Fld.gml]⟩
  case round =>
    obtain ⟨k, hk, rfl, rfl⟩ := hrel
    have hz := Fld.gml_lt a (l.take k) ha
    by_cases hlt : k < n
    · have hc := HL.out k hlt
      have hbk := HB.out k
      have hs := Lib.hid (Fld.gml_snoc a l k (by rw [← HN.out]; exact hlt))
      generalize l.getD k 0 = v at hc hbk hs
      go_wp2_with fail
      refine (product_any _ _ _ (by omega) (by omega)).mono ?_
      rintro e w' ⟨rfl, rfl⟩
      rw [Int.toNat_natCast, Int.toNat_natCast, ← hs.out]
      go_wp2_with fail
      go_round
      case rel => exact ⟨k + 1, by omega, by go_num, rfl⟩
      case measure => simp [intOf]; omega
    · obtain rfl : k = n := by omega
      go_wp2_with fail
      go_ret
      exact ⟨ret_int (by rw [List.take_of_length_le (by rw [HN.out]; exact Nat.le_refl _)]), rfl⟩

set_option maxHeartbeats 400000 in
theorem mul_nil (x : Int) (w : World) :
    Calls Try.prog 9 #[.int .u8 x, .slice none 0 0] w fun e w' => e = .returned (.int .u8 x) ∧ w = w' := by
  go_enter Try.func9, Try.ntmps9
  go_wp2_with fail
  go_loop [0, 6, 9] (fun p _ i => i = .int .i64 0 ∧ p = .int .u8 x) (fun _ _ i => 0)
  case atStart => exact ⟨rfl, rfl⟩
  case round =>
    obtain ⟨rfl, rfl⟩ := hrel
    go_wp2_with fail
    go_ret
    exact ⟨rfl, rfl⟩
end Go.Proofs.Ytmhnmedifpgnoaa
