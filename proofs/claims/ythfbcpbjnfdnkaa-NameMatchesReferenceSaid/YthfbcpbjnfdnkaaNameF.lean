/- Layer 11: Text of the program. -/
import Derived.Test.YthfbcpbjnfdnkaaNameE
namespace Go.Proofs.Ythfbcpbjnfdnkaa
open Go.RowKit Go.Deep

theorem slashed_snoc : ∀ (ps : List Nam.W) (p : Nam.W), Nam.slashed (ps ++ [p]) = Nam.slashed ps ++ ((if ps.length = 0 then [] else [47]) ++ Nam.escape p)
  | [], p => by simp [Nam.slashed]
  | [q], p => by simp [Nam.slashed]
  | q :: q2 :: ps, p => by
    rw [List.cons_append, Nam.slashed_cons _ _ (by simp), slashed_snoc (q2 :: ps) p, Nam.slashed_cons q _ (by simp)]
    simp
theorem take_snoc_ss (ss : List ByteArray) (j : Nat) (h : j < ss.length) : ss.take (j + 1) = ss.take j ++ [ss.getD j ByteArray.empty] := by
  rw [List.take_add_one]
  simp [List.getD, h]
theorem slashed_take (ss : List ByteArray) (j : Nat) (h : j < ss.length) : Nam.slashed ((ss.take (j + 1)).map bl) = Nam.slashed ((ss.take j).map bl) ++ ((if j = 0 then [] else [47]) ++ Nam.escape (bl (ss.getD j ByteArray.empty))) := by
  rw [take_snoc_ss ss j h, List.map_append, List.map_singleton, slashed_snoc]
  congr 2
  have e : ((ss.take j).map bl).length = j := by rw [List.length_map, List.length_take]; omega
  rw [e]
theorem slashed_len : ∀ ps : List Nam.W, ps.all Nam.word = true → (Nam.slashed ps).length ≤ 201 * ps.length
  | [], _ => by simp [Nam.slashed]
  | [p], h => by
    simp only [List.all_cons, List.all_nil, Bool.and_true] at h
    have := escape_len p
    have := (Nam.word_len h).2
    simp [Nam.slashed]; omega
  | p :: q :: ps, h => by
    rw [List.all_cons, Bool.and_eq_true] at h
    have := escape_len p
    have := (Nam.word_len h.1).2
    have := slashed_len (q :: ps) h.2
    rw [Nam.slashed_cons _ _ (by simp)]
    simp at this ⊢; omega
theorem valid_parts {r : ByteArray} {ss : List ByteArray} (h : Nam.valid (nm r ss) = true) : Nam.word (bl r) = true ∧ 1 ≤ ss.length ∧ ss.length ≤ 8 ∧ (ss.map bl).all Nam.word = true := by
  obtain ⟨a, b, c, d⟩ := (Nam.valid_iff _).1 h
  unfold nm at a b c d
  simp only [List.length_map] at c
  refine ⟨a, ?_, c, d⟩
  cases ss with
  | nil => exact absurd rfl b
  | cons _ _ => simp
theorem part_word {ss : List ByteArray} (h : (ss.map bl).all Nam.word = true) {i : Nat} (hi : i < ss.length) : Nam.word (bl (ss.getD i ByteArray.empty)) = true := by
  have e : ss.getD i ByteArray.empty = ss[i] := by simp [List.getD, hi]
  rw [e]
  exact List.all_eq_true.1 h _ (List.mem_map.2 ⟨_, List.getElem_mem hi, rfl⟩)
theorem Hb.below {w w' : World} {b B : Nat} {cs : Array Value} {t : TypeId} (h : Hb w b cs t) (k : Below B w w') (hb : b < B) : Hb w' b cs t := (k.block b hb).trans h
theorem bu_new (w : World) : Bu (w.alloc (.cells #[.pointer none, .slice none 0 0] 80)) w.heap.size [] := ⟨_, _, Hb.new _ _ _, .inl rfl, Own.nil _ _⟩

set_option maxRecDepth 100000 in
set_option maxHeartbeats 2000000 in
theorem text_any (r : ByteArray) (hr : r.size ≤ maxLen) (v : Value) (ss : List ByteArray) (w : World) (h : Ss w v ss) :
    Calls Try.prog 34 #[.agg #[.string r, v]] w fun e w' => e = .returned (.string ⟨(Nam.text (nm r ss)).toArray⟩) ∧ w.grownBy w' none := by
  obtain ⟨a, cap, rfl⟩ := h.form
  have H := Lib.hid h; clear h
  have hn := H.out.len
  have hb0 := Hb.new w #[.string r, .slice a ss.length cap] 53
  have z0 := hb0.cell (i := 0) rfl
  have z1 := hb0.cell (i := 1) rfl
  go_enter Try.func34, Try.ntmps34
  go_wp2_with (go_at_call 38; refine (valid_any r hr _ ss _ (H.out.only (only_alloc (only_refl _ _) _))).mono ?_)
  rintro e w1 ⟨rfl, h1⟩
  have hb1 := hb0.only h1
  have g1 := only_trans (only_alloc (only_refl w none) _) h1
  clear h1 hb0 z0 z1
  cases hv : Nam.valid (nm r ss)
  · have HF := Lib.hid (show Nam.text (nm r ss) = [] by unfold Nam.text; rw [hv]; rfl)
    go_wp2_with fail
    go_ret
    exact ⟨by rw [HF.out]; rfl, g1⟩
  obtain ⟨hw, h1s, h8, hall⟩ := valid_parts hv
  have HT := Lib.hid (show Nam.text (nm r ss) = Nam.slashed (ss.map bl) ++ 64 :: Nam.escape (bl r) by unfold Nam.text; rw [if_pos hv]; rfl)
  have HA := Lib.hid hall; clear hall hv
  have z0 := hb1.cell (i := 0) rfl
  have z1 := hb1.cell (i := 1) rfl
  have hlt := hb1.lt
  have q1 := (hb1.alloc (.cells #[.pointer none, .slice none 0 0] 80)).cell (i := 1) rfl
  go_wp2_with fail
  clear q1 z0 z1
  have hreal := (Nam.word_len hw).2
  rw [bl_length] at hreal
  go_loopw [14] (fun x wr => ∃ j : Nat, j ≤ ss.length ∧ x = .int .i64 j ∧ Bu wr w1.heap.size (Nam.slashed ((ss.take j).map bl)) ∧ Below w1.heap.size w1 wr) (fun x _ => ss.length - (intOf x).toNat)
  case atStart => exact ⟨0, Nat.zero_le _, rfl, bu_new w1, (Below.refl _ _).alloc (Nat.le_refl _) _⟩
  case round =>
    obtain ⟨j, hle, rfl, hB, hbw⟩ := hrel
    have hgr := only_trans g1 (only_of_below hbw none)
    have hpre : (Nam.slashed ((ss.take j).map bl)).length ≤ 1608 := by
      have h1 := slashed_len ((ss.take j).map bl) (by
        have := HA.out
        rw [← List.take_append_drop j ss, List.map_append, List.all_append, Bool.and_eq_true] at this
        exact this.1)
      rw [List.length_map, List.length_take] at h1
      omega
    by_cases hj : j < ss.length
    · obtain ⟨b, off, rfl, hc⟩ := (H.out.only hgr).at hj
      have hwj := part_word HA.out hj
      have HS := Lib.hid (slashed_take ss j hj)
      generalize ss.getD j ByteArray.empty = s at hc hwj HS
      have hss := (Nam.word_len hwj).2
      rw [bl_length] at hss
      generalize Nam.slashed ((ss.take j).map bl) = L at hB hpre HS
      by_cases hj0 : j = 0
      · subst hj0
        simp only [Nat.add_zero] at hc
        go_wp2_with (go_at_call 52; refine (write_any w1.heap.size L s _ hB hss (by omega)).mono ?_; rintro e w4 ⟨rfl, hB4, hb4⟩)
        all_goals first | omega | skip
        go_roundw
        case rel => exact ⟨0 + 1, by omega, by go_num, by rw [HS.out]; simpa using hB4, hbw.trans hb4⟩
        case measure => simp [intOf]; omega
      · rw [if_neg hj0] at HS
        go_wp2_with (go_at_call 54; refine (writebyte_any w1.heap.size L 47 _ hB (by omega)).mono ?_)
        all_goals first | omega | skip
        rintro e w4 ⟨rfl, hB4, hb4⟩
        go_wp2_with (go_at_call 52; refine (write_any w1.heap.size (L ++ [47]) s _ hB4 hss (by simp; omega)).mono ?_; rintro e w5 ⟨rfl, hB5, hb5⟩)
        all_goals first | omega | skip
        go_roundw
        case rel => exact ⟨j + 1, by omega, by go_num, by rw [HS.out]; simpa using hB5, hbw.trans (hb4.trans hb5)⟩
        case measure => simp [intOf]; omega
    · obtain rfl : j = ss.length := by omega
      rw [List.take_length] at hB hpre
      have hbr := hb1.below hbw hlt
      generalize Nam.slashed (ss.map bl) = L at hB hpre HT
      go_wp2_with (go_at_call 54; refine (writebyte_any w1.heap.size L 64 _ hB (by omega)).mono ?_)
      all_goals first | omega | skip
      rintro e w4 ⟨rfl, hB4, hb4⟩
      have z0 := (hbr.below hb4 hlt).cell (i := 0) rfl
      go_wp2_with (go_at_call 52; refine (write_any w1.heap.size (L ++ [64]) r _ hB4 hreal (by simp; omega)).mono ?_)
      all_goals first | omega | skip
      rintro e w5 ⟨rfl, hB5, hb5⟩
      go_wp2_with (go_at_call 55; refine (string_any w1.heap.size _ _ hB5 (by simp)).mono ?_)
      all_goals first | omega | skip
      rintro e w6 ⟨rfl, hb6⟩
      go_wp2_with fail
      go_ret
      refine ⟨?_, only_trans g1 (only_of_below (hbw.trans (hb4.trans (hb5.trans hb6))) none)⟩
      rw [HT.out]
      rfl
end Go.Proofs.Ythfbcpbjnfdnkaa
