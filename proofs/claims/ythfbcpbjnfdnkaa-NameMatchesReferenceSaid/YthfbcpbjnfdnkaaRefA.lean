import Derived.Test.YthfbcpbjnfdnkaaWireE
import Derived.Test.YthfbcpbjnfdnkaaRefJ
namespace Go.Proofs.Ythfbcpbjnfdnkaa
open Go.RowKit Go.Deep

set_option maxRecDepth 100000 in
set_option maxHeartbeats 400000 in
theorem string_put (k : Int) (v : Value) (l : List Nat) (w : World) (h : Rs w v l) (hk : -9223372036854775808 ≤ k ∧ k ≤ 9223372036854775807) (hb : l.length ≤ 140737488355000) :
    Calls Try.prog 14 #[.int .i64 k, v] w (RetPut (Wir.putString k l) w) := by
  have H := Lib.hid h
  obtain ⟨a, cap, rfl⟩ := h.form
  clear h
  have hput : ∀ wx, Calls Try.prog 13 #[.int .i64 k, .int .u64 ↑l.length] wx (RetPut (Wir.putNumber k l.length) wx) := by
    intro wx
    by_cases hk : k < 1 ∨ 8 < k
    · exact putNumber_out k _ wx hk
    · obtain ⟨m, rfl⟩ := Int.eq_ofNat_of_zero_le (show 0 ≤ k by omega)
      by_cases hx : l.length < 256 ^ m
      · exact putNumber_fits m _ wx (by omega) (by omega) hx
      · refine putNumber_big m _ wx (by omega) ?_ (by omega)
        rcases Nat.lt_or_ge m 8 with h | h
        · exact h
        · have : 256 ^ 8 ≤ 256 ^ m := Nat.pow_le_pow_right (by omega) h
          have h8 : (256 : Nat) ^ 8 = 18446744073709551616 := by decide
          omega
  have HP := Lib.hid hput; clear hput
  go_enter Try.func14, Try.ntmps14
  go_wp2_with fail
  refine (HP.out _).mono ?_
  rintro e w1 ⟨hbel, ⟨ho, rfl⟩ | ⟨hd, vh, ho, rfl, hown⟩⟩
  · have HO := Lib.hid ho; clear ho
    have HB := Lib.hid hbel; clear hbel
    go_wp2_with fail
    go_ret2
    exact ⟨HB.out, .inl ⟨by unfold Wir.putString; rw [HO.out]; rfl, rfl⟩⟩
  · have HO := Lib.hid ho
    have hlen : hd.length ≤ 8 := by
      unfold Wir.putNumber at ho
      split at ho
      · simp at ho
      · split at ho
        · simp at ho; rw [← ho, Wir.enc_length]; omega
        · simp at ho
    clear ho
    have HB := Lib.hid hbel; clear hbel
    have HW := Lib.hid hown
    obtain ⟨va, vcap, rfl⟩ := hown.form
    clear hown
    go_wp2_with fail
    have hjoin : Wir.join [hd, l] = hd ++ l := by simp [Wir.join]
    have hss : Bss (w1.alloc (.cells #[.slice va hd.length vcap, .slice a l.length cap] 23)) (.slice (some ⟨w1.heap.size, 0, none⟩) 2 2) [hd, l] := bss_two HW.out.bs.rs (H.out.below HB.out)
    refine (join_any _ _ _ hss (by rw [hjoin, List.length_append]; omega)).mono ?_
    rintro e w2 ⟨v2, rfl, hown2, hbel2⟩
    rw [hjoin] at hown2
    have HO2 := Lib.hid hown2; clear hown2
    have hb3 : Below w.heap.size w w2 := (HB.out.alloc HB.out.size _).trans (hbel2.mono (Nat.le_trans HB.out.size (by simp)))
    have HB3 := Lib.hid hb3; clear hb3 hbel2 hss hjoin
    go_wp2_with fail
    go_ret2
    exact ⟨HB3.out, .inr ⟨_, _, by unfold Wir.putString; rw [HO.out]; rfl, rfl, HO2.out.mono (Nat.le_trans HB.out.size (by simp))⟩⟩

set_option maxRecDepth 100000 in
set_option maxHeartbeats 400000 in
theorem refPut_out (k : Int) (x : Nat) (w : World) (hk : k < 1 ∨ 8 < k) :
    Calls Try.prog 15 #[.int .i64 k, .int .u64 x] w (RetPut (Wir.putNumber k x) w) := by
  have E := Lib.hid (show Wir.putNumber k x = none by unfold Wir.putNumber; rw [if_pos hk])
  by_cases h1 : k < 1
  · clear hk
    go_enter Try.func15, Try.ntmps15
    go_wp2_with fail
    go_ret2
    exact ⟨Below.refl _ _, .inl ⟨E.out, rfl⟩⟩
  · have h8 : 8 < k := by omega
    clear hk
    go_enter Try.func15, Try.ntmps15
    go_wp2_with fail
    go_ret2
    exact ⟨Below.refl _ _, .inl ⟨E.out, rfl⟩⟩

set_option maxRecDepth 100000 in
set_option maxHeartbeats 400000 in
theorem refPut_in (k x : Nat) (w : World) (hk1 : 1 ≤ k) (hk8 : k ≤ 8) (hx : x < 18446744073709551616) :
    Calls Try.prog 15 #[.int .i64 k, .int .u64 x] w (RetPut (Wir.putNumber k x) w) := by
  have d1 : decide ((k : Int) < 1) = false := by simp; omega
  have d2 : decide (8 < (k : Int)) = false := by simp; omega
  go_enter Try.func15, Try.ntmps15
  go_wp2_with fail
  go_loopw [6, 7, 1] (fun v i y wr => ∃ j : Nat, j ≤ k ∧ i = .int .i64 j ∧ y = .int .u64 ↑(x / 256 ^ j) ∧ Own wr w.heap.size v (Wir.enc j x) ∧ Below w.heap.size w wr) (fun _ i _ _ => k - (intOf i).toNat)
  case atStart => exact ⟨0, by omega, rfl, by simp, Own.nil _ _, Below.refl _ _⟩
  case round =>
    clear d1 d2
    obtain ⟨j, hj, rfl, rfl, hown, hbel⟩ := hrel
    have HB := Lib.hid hbel
    have hsz := hbel.size
    clear hbel
    have HO := Lib.hid hown
    have hql : x / 256 ^ j ≤ x := Nat.div_le_self _ _
    by_cases hlt : j < k
    · have hcons := Lib.hid (Wir.enc_cons j x)
      have hdiv := Lib.hid (show x / 256 ^ (j + 1) = x / 256 ^ j / 256 by rw [Nat.pow_succ, Nat.div_div_eq_div_mul])
      obtain ⟨va, vcap, rfl⟩ := hown.form
      have hel : (Wir.enc j x).length = j := Wir.enc_length j x
      have HEL := Lib.hid hel
      clear hown hel
      generalize x / 256 ^ j = q at hcons hdiv hql ⊢
      have hq2 : q % 256 < 256 := Nat.mod_lt _ (by omega)
      go_wp2_with (at_builtin; go_must (refine wpList_append_bs rfl _ _ rfl w.heap.size (.slice (some ⟨wr.heap.size, 0, none⟩) 1 1) [q % 256] rfl (own_built wr _ [q % 256] (AllB.one hq2) hsz (by simp)) _ (Wir.enc j x) rfl (HO.out.bs.below ((Below.refl _ _).alloc (Nat.le_refl _) _)) (by rw [HEL.out]; simp; omega) (Nat.le_trans hsz (by simp)) ?_; intro v2 w2 hown2 hgr2))
      have hb2 := below_only (HB.out.alloc hsz (.cells #[bv (q % 256)] 5)) (Nat.le_refl _) hgr2 (fun g hg => by simp [Value.ownBlock] at hg; omega)
      clear hgr2
      go_wp2_with fail
      go_roundw
      case rel => exact ⟨j + 1, by omega, by go_num, by rw [hdiv.out]; rfl, by rw [hcons.out]; exact hown2, hb2⟩
      case measure => simp [intOf]; omega
    · obtain rfl : j = k := by omega
      clear hown
      by_cases hz : x / 256 ^ j = 0
      · have hlt2 : x < 256 ^ j := by
          rcases Nat.lt_or_ge x (256 ^ j) with h | h
          · exact h
          · have := Nat.div_pos h (Nat.pow_pos (by omega)); omega
        have E := Lib.hid (show Wir.putNumber j x = some (Wir.enc j x) by unfold Wir.putNumber; rw [if_neg (by omega), if_pos (by simpa using hlt2)]; simp)
        rw [hz]
        clear hz hlt2 hql
        go_wp2_with fail
        go_ret2
        exact ⟨HB.out, .inr ⟨_, _, E.out, rfl, HO.out⟩⟩
      · have hge2 : 256 ^ j ≤ x := by
          rcases Nat.lt_or_ge x (256 ^ j) with h | h
          · exact absurd (Nat.div_eq_of_lt h) hz
          · exact h
        have E := Lib.hid (show Wir.putNumber j x = none by unfold Wir.putNumber; rw [if_neg (by omega), if_neg (by simp; omega)])
        generalize x / 256 ^ j = q at hz hql ⊢
        have hq0 : 0 < q := by omega
        clear hz hge2
        go_wp2_with fail
        go_ret2
        exact ⟨HB.out, .inl ⟨E.out, rfl⟩⟩

theorem refPut_any (k : Int) (x : Nat) (w : World) (hx : x < 18446744073709551616) : Calls Try.prog 15 #[.int .i64 k, .int .u64 x] w (RetPut (Wir.putNumber k x) w) := by
  by_cases hk : k < 1 ∨ 8 < k
  · exact refPut_out k x w hk
  · obtain ⟨m, rfl⟩ := Int.eq_ofNat_of_zero_le (show 0 ≤ k by omega)
    exact refPut_in m x w (by omega) (by omega) hx
end Go.Proofs.Ythfbcpbjnfdnkaa
