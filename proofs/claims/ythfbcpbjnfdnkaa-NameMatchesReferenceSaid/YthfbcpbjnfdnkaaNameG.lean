/- Layer 11: the reference's escape, Text, plain. -/
import Derived.Test.YthfbcpbjnfdnkaaNameF
namespace Go.Proofs.Ythfbcpbjnfdnkaa
open Go.RowKit Go.Deep

theorem bl_append (a b : ByteArray) : bl (a ++ b) = bl a ++ bl b := by simp [bl, ByteArray.data_append]
theorem mk_bl (o : ByteArray) : (⟨(bl o).toArray⟩ : ByteArray) = o := by cases o; simp [bl]
theorem bl_extract (s : ByteArray) (i j : Nat) : bl (s.extract i j) = ((bl s).take j).drop i := by
  simp [bl, ByteArray.data_extract, List.drop_take, List.extract_eq_take_drop]
theorem bl_one (s : ByteArray) (i : Nat) (h : i < s.size) : bl (s.extract i (i + 1)) = [(bl s).getD i 0] := by
  rw [bl_extract, take_snoc _ _ (by rw [bl_length]; exact h), List.drop_append_of_le_length (by rw [List.length_take, bl_length]; omega)]
  rw [List.drop_eq_nil_of_le (by rw [List.length_take]; omega)]; rfl
theorem str_eq {o : ByteArray} {l : Nam.W} (h : bl o = l) : Value.string o = .string ⟨l.toArray⟩ := by rw [← h, mk_bl]

set_option maxRecDepth 100000 in
set_option maxHeartbeats 1000000 in
theorem refescape_any (s : ByteArray) (w : World) (hs : s.size ≤ 1000000) :
    Calls Try.prog 58 #[.string s] w fun e w' => e = .returned (.string ⟨(Nam.escape (bl s)).toArray⟩) ∧ w' = w := by
  go_enter Try.func58, Try.ntmps58
  go_wp2_with fail
  go_loop [3, 4] (fun x y => ∃ (i : Nat) (o : ByteArray), i ≤ s.size ∧ x = .string o ∧ y = .int .i64 i ∧ bl o = Nam.escape ((bl s).take i)) (fun _ y => s.size - (intOf y).toNat)
  case atStart => exact ⟨0, _, Nat.zero_le _, rfl, rfl, rfl⟩
  case round =>
    obtain ⟨i, o, hi, rfl, rfl, ho⟩ := hrel
    have hsz : o.size ≤ 2000000 := by
      have h1 := escape_len ((bl s).take i)
      rw [List.length_take, bl_length, ← ho, bl_length] at h1
      omega
    by_cases hp : i < s.size
    · have hix := fun W => ix_run s i hp W
      have hsn := escape_snoc (bl s) i (by rw [bl_length]; exact hp)
      have h1 := bl_one s i hp
      have hen := esc_nat ((bl s).getD i 0)
      have h1z : (s.extract i (i + 1)).size = 1 := by rw [← bl_length, h1]; rfl
      generalize (bl s).getD i 0 = c at hix hsn h1 hen
      rw [← ho] at hsn
      have HS := Lib.hid hsn; clear hsn
      have H1 := Lib.hid h1; clear h1
      have HO := Lib.hid ho; clear ho
      cases he : Nam.esc c
      · rw [he] at hen HS
        have hno : ¬ ((((c.toNat : Int) == 47) = true ∨ ((c.toNat : Int) == 64) = true) ∨ ((c.toNat : Int) == 92) = true) := by
          simp only [beq_iff_eq]
          intro h
          have := hen.symm
          simp only [Bool.or_eq_false_iff, decide_eq_false_iff_not] at this
          omega
        have h47 : ¬ (c.toNat : Int) = 47 := fun h => by simp [h] at hen
        have h64 : ¬ (c.toNat : Int) = 64 := fun h => by simp [h] at hen
        have h92 : ¬ (c.toNat : Int) = 92 := fun h => by simp [h] at hen
        clear hen
        go_wp2_with fail
        all_goals first | omega | exact absurd (by assumption) hno | skip
        go_round
        case rel => exact ⟨i + 1, _, by omega, rfl, by go_num, by rw [bl_append, H1.out, HS.out]; rfl⟩
        case measure => simp [intOf]; omega
      · rw [he] at hen HS
        have hno : ¬ ((((c.toNat : Int) == 47) = false ∧ ((c.toNat : Int) == 64) = false) ∧ ((c.toNat : Int) == 92) = false) := by
          simp only [beq_eq_false_iff_ne]
          intro h
          have := hen.symm
          simp only [Bool.or_eq_true, decide_eq_true_eq] at this
          omega
        clear hen
        go_wp2_with fail
        all_goals first | omega | exact absurd (by assumption) hno | skip
        all_goals (
          go_round
          case rel => exact ⟨i + 1, _, by omega, rfl, by go_num, by rw [bl_append, bl_append, H1.out, HS.out]; simp [bl]⟩
          case measure => simp [intOf]; omega)
    · obtain rfl : i = s.size := by omega
      rw [show (bl s).take s.size = bl s from List.take_of_length_le (Nat.le_refl _)] at ho
      go_wp2_with fail
      all_goals first | omega | skip
      go_ret
      exact ⟨congrArg Ending.returned (str_eq ho), rfl⟩
set_option maxRecDepth 100000 in
set_option maxHeartbeats 2000000 in
theorem reftext_any (r : ByteArray) (hr : r.size ≤ maxLen) (v : Value) (ss : List ByteArray) (w : World) (h : Ss w v ss) :
    Calls Try.prog 39 #[.agg #[.string r, v]] w fun e w' => e = .returned (.string ⟨(Nam.text (nm r ss)).toArray⟩) ∧ w.grownBy w' none := by
  obtain ⟨a, cap, rfl⟩ := h.form
  have H := Lib.hid h; clear h
  have hn := H.out.len
  have hb0 := Hb.new w #[.string r, .slice a ss.length cap] 53
  have z0 := hb0.cell (i := 0) rfl
  have z1 := hb0.cell (i := 1) rfl
  go_enter Try.func39, Try.ntmps39
  go_wp2_with (go_at_call 36; refine (refvalid_any r hr _ ss _ (H.out.only (only_alloc (only_refl _ _) _))).mono ?_)
  rintro e w1 ⟨rfl, h1⟩
  have hb1 := hb0.only h1
  have g1 := only_trans (only_alloc (only_refl w none) _) h1
  clear h1 hb0 z0 z1
  cases hv : Nam.valid (nm r ss)
  · have HF := Lib.hid (show Nam.text (nm r ss) = [] by unfold Nam.text; rw [hv]; rfl)
    go_wp2_with fail
    go_ret
    exact ⟨by rw [HF.out]; rfl, g1⟩
  obtain ⟨hw, h1s, h8, hall⟩ := valid_parts hv
  have HT := Lib.hid (show Nam.text (nm r ss) = Nam.slashed (ss.map bl) ++ 64 :: Nam.escape (bl r) by unfold Nam.text; rw [if_pos hv]; rfl)
  have HA := Lib.hid hall; clear hall hv
  have hsl : ∀ j, (Nam.slashed ((ss.take j).map bl)).length ≤ 1608 := fun j => by
    have h1 := slashed_len ((ss.take j).map bl) (by
      have := HA.out
      rw [← List.take_append_drop j ss, List.map_append, List.all_append, Bool.and_eq_true] at this
      exact this.1)
    rw [List.length_map, List.length_take] at h1
    omega
  have hws : ∀ j, j < ss.length → (ss.getD j ByteArray.empty).size ≤ 100 := fun j hj => by
    have := (Nam.word_len (part_word HA.out hj)).2
    rwa [bl_length] at this
  have hreal := (Nam.word_len hw).2
  rw [bl_length] at hreal
  have z0 := hb1.cell (i := 0) rfl
  have z1 := hb1.cell (i := 1) rfl
  obtain ⟨b, off, rfl, hc0⟩ := (H.out.only g1).at h1s
  simp only [Nat.add_zero] at hc0
  have hw0 := hws 0 h1s
  have HS0 := Lib.hid (slashed_take ss 0 h1s)
  generalize ss.getD 0 ByteArray.empty = s0 at hc0 hw0 HS0
  go_wp2_with (go_at_call 58; refine (refescape_any s0 _ (by omega)).mono ?_; rintro e w2 ⟨rfl, rfl⟩)
  all_goals first | omega | skip
  go_loop [3, 4] (fun x y => ∃ (j : Nat) (o : ByteArray), 1 ≤ j ∧ j ≤ ss.length ∧ x = .string o ∧ y = .int .i64 j ∧ bl o = Nam.slashed ((ss.take j).map bl)) (fun _ y => ss.length - (intOf y).toNat)
  case atStart => exact ⟨1, _, Nat.le_refl _, h1s, rfl, rfl, by rw [HS0.out]; simp [Nam.slashed, bl]⟩
  case round =>
    obtain ⟨j, o, hj1, hle, rfl, rfl, ho⟩ := hrel
    have hosz : o.size ≤ 1608 := by rw [← bl_length, ho]; exact hsl j
    by_cases hj : j < ss.length
    · obtain ⟨b', off', e', hc⟩ := (H.out.only g1).at hj
      cases e'
      have hwj := hws j hj
      have HS := Lib.hid (slashed_take ss j hj)
      rw [if_neg (show ¬ j = 0 by omega)] at HS
      generalize ss.getD j ByteArray.empty = s at hc hwj HS
      have hel := escape_len (bl s)
      rw [bl_length] at hel
      have HE := Lib.hid (show ((⟨(Nam.escape (bl s)).toArray⟩ : ByteArray)).size ≤ 200 by show (Nam.escape (bl s)).toArray.size ≤ _; simp; omega)
      have HO := Lib.hid ho; clear ho
      have hE := HE.out
      go_wp2_with (go_at_call 58; refine (refescape_any s _ (by omega)).mono ?_; rintro e w3 ⟨rfl, rfl⟩)
      all_goals first | omega | skip
      go_wp2_with fail
      all_goals first | omega | skip
      go_round
      case rel => exact ⟨j + 1, _, by omega, by omega, rfl, by go_num, by rw [bl_append, bl_append, HS.out, HO.out]; simp [bl]⟩
      case measure => simp [intOf]; omega
    · obtain rfl : j = ss.length := by omega
      rw [List.take_length] at ho
      have HO := Lib.hid ho; clear ho
      have hel := escape_len (bl r)
      rw [bl_length] at hel
      have hE : ((⟨(Nam.escape (bl r)).toArray⟩ : ByteArray)).size ≤ 200 := by show (Nam.escape (bl r)).toArray.size ≤ _; simp; omega
      go_wp2_with (go_at_call 58; refine (refescape_any r _ (by omega)).mono ?_; rintro e w3 ⟨rfl, rfl⟩)
      all_goals first | omega | skip
      go_wp2_with fail
      all_goals first | omega | skip
      go_ret
      refine ⟨congrArg Ending.returned (str_eq ?_), g1⟩
      rw [HT.out, bl_append, bl_append, HO.out]
      simp [bl]
/-! ### plain -/
theorem plain_two (l : Nam.W) (i : Nat) (h : i + 1 < l.length) (hc : l.getD i 0 = 92) : Nam.plain (l.drop i) = l.getD (i + 1) 0 :: Nam.plain (l.drop (i + 2)) := by
  rw [drop_cons l i (by omega), hc, drop_cons l (i + 1) h, Nam.plain_back]
theorem plain_one (l : Nam.W) (i : Nat) (h : i < l.length) (hc : l.getD i 0 ≠ 92 ∨ l.length ≤ i + 1) : Nam.plain (l.drop i) = l.getD i 0 :: Nam.plain (l.drop (i + 1)) := by
  rw [drop_cons l i h]
  rcases hc with hc | hc
  · exact Nam.plain_step _ _ hc
  · rw [List.drop_eq_nil_of_le hc]; rfl
set_option maxRecDepth 100000 in
set_option maxHeartbeats 1000000 in
theorem refplain_any (s : ByteArray) (w : World) (hs : s.size ≤ 1000000) :
    Calls Try.prog 51 #[.string s] w fun e w' => e = .returned (.string ⟨(Nam.plain (bl s)).toArray⟩) ∧ w' = w := by
  go_enter Try.func51, Try.ntmps51
  generalize hR : Nam.plain (bl s) = R
  have HR := Lib.hid hR; clear hR
  go_wp2_with fail
  go_loop [3, 4] (fun x y => ∃ (i : Nat) (o : ByteArray), i ≤ s.size ∧ x = .string o ∧ y = .int .i64 i ∧ o.size ≤ i ∧ bl o ++ Nam.plain ((bl s).drop i) = R) (fun _ y => s.size - (intOf y).toNat)
  case atStart => exact ⟨0, _, Nat.zero_le _, rfl, rfl, Nat.le_refl _, HR.out⟩
  case round =>
    obtain ⟨i, o, hi, rfl, rfl, hoz, ho⟩ := hrel
    have HO := Lib.hid ho; clear ho HR
    by_cases hp : i < s.size
    · have hix := fun W => ix_run s i hp W
      by_cases h92 : (bl s).getD i 0 = 92 ∧ i + 1 < s.size
      · obtain ⟨h92, hp1⟩ := h92
        have HP := Lib.hid (plain_two (bl s) i (by rw [bl_length]; exact hp1) h92)
        have h1 := bl_one s (i + 1) hp1
        have h1z : (s.extract (i + 1) (i + 1 + 1)).size = 1 := by rw [← bl_length, h1]; rfl
        have H1 := Lib.hid h1; clear h1
        rw [h92] at hix
        go_wp2_with fail
        all_goals first | omega | skip
        go_round
        case rel =>
          refine ⟨i + 2, _, by omega, rfl, by go_num, ?_, ?_⟩
          · rw [ByteArray.size_append', h1z]; omega
          · rw [bl_append, H1.out, ← HO.out, HP.out]; simp
        case measure => simp [intOf]; omega
      · have HP := Lib.hid (plain_one (bl s) i (by rw [bl_length]; exact hp) (by rw [bl_length]; by_cases e : (bl s).getD i 0 = 92; exact .inr (Nat.not_lt.1 fun h => h92 ⟨e, h⟩); exact .inl e))
        have h1 := bl_one s i hp
        have h1z : (s.extract i (i + 1)).size = 1 := by rw [← bl_length, h1]; rfl
        have H1 := Lib.hid h1; clear h1
        have hno : ¬ ((((bl s).getD i 0).toNat : Int) = 92 ∧ (i : Int) + 1 < s.size) := fun h => h92 ⟨nat_of_eq.2 h.1, by omega⟩
        generalize (bl s).getD i 0 = c at hix hno HP H1
        clear h92
        go_wp2_with fail
        all_goals first | omega | skip
        all_goals (
          go_round
          case rel =>
            refine ⟨i + 1, _, by omega, rfl, by go_num, ?_, ?_⟩
            · rw [ByteArray.size_append', h1z]; omega
            · rw [bl_append, H1.out, ← HO.out, HP.out]; simp
          case measure => simp [intOf]; omega)
    · obtain rfl : i = s.size := by omega
      have ho := HO.out
      rw [List.drop_eq_nil_of_le (by rw [bl_length]; omega)] at ho
      clear HO
      have ho : bl o = R := by rw [← ho]; simp [Nam.plain]
      go_wp2_with fail
      all_goals first | omega | skip
      go_ret
      exact ⟨congrArg Ending.returned (str_eq ho), rfl⟩
end Go.Proofs.Ythfbcpbjnfdnkaa
