/- The reference's reader: Number, String. -/
import Derived.Test.YthfbcpbjnfdnkaaRefC
namespace Go.Proofs.Ythfbcpbjnfdnkaa
open Go.RowKit Go.Deep

/-- The results of the reference's Number. -/
def Wir.num (r : Wir.R) (k : Int) : Wir.R × Nat := ((Wir.number r k).1, (Wir.number r k).2.getD 0)
def RetN (w0 : World) (x : Wir.R × Nat) (w : World) (e : Ending) (w' : World) : Prop :=
  ∃ u, e = .returned (.tuple #[rdv u x.1.bad, .int .u64 x.2]) ∧ Rs w0 u x.1.l ∧ Below w.heap.size w w'

set_option maxRecDepth 100000 in
set_option maxHeartbeats 400000 in
theorem refnum_out (w0 : World) (v : Value) (l : List Nat) (bad : Bool) (k : Int) (w : World) (h : Rs w v l) (hk : k < 1 ∨ 8 < k) :
    Calls Try.prog 26 #[rdv v bad, .int .i64 k] w (RetN w0 (Wir.failed, 0) w) := by
  obtain ⟨a, cap, rfl⟩ := h.form
  clear h
  have H2 := Lib.hid (rd_two w #[.slice a l.length cap, .bool bad] #[.slice none 0 0, .bool false] 40 40)
  have key : decide (k < 1) = true ∨ (decide (k < 1) = false ∧ decide (8 < k) = true) := by
    by_cases h1 : k < 1
    · exact .inl (by simpa using h1)
    · exact .inr ⟨by simpa using h1, by simp; omega⟩
  clear hk
  rcases key with d1 | ⟨d1, d2⟩
  all_goals
    go_enter Try.func26, Try.ntmps26
    go_wp2_with fail
    refine (reffail _).mono ?_
    rintro e w1 ⟨rfl, hb1⟩
    have hr := (hb1.block (w.heap.size + 1) (by rw [H2.out.2.2.2]; omega)).trans H2.out.2.2.1
    have B1 := Lib.hid (H2.out.1.trans (hb1.mono (by rw [H2.out.2.2.2]; omega)))
    clear hb1
    obtain ⟨c0, c1, f0, f1⟩ := two_cells hr
    have sz : w.heap.size + 1 < w1.heap.size := by
      have := (Array.getElem?_eq_some_iff.1 hr).1
      exact this
    have HR := Lib.hid hr; clear hr
    go_wp2_with fail
    exact bodyPost_ret (results_cell_tmp2 rfl _ _ (w.heap.size + 1) _ _ (0, 0) _ rfl (two_set1 (two_set0 HR.out)) rfl rfl infoRd) rfl ⟨_, rfl, (Bs.nil _).rs, (B1.out.setCell (by simp) _).setCell (by simp) _⟩

set_option maxRecDepth 100000 in
set_option maxHeartbeats 800000 in
theorem refnum_in (w0 : World) (v : Value) (r : Wir.R) (k : Nat) (w : World) (h : Rs w0 v r.l) (hbw : Below w0.heap.size w0 w) (hl : r.l.length ≤ 140737488355328) (hk1 : 1 ≤ k) (hk8 : k ≤ 8) :
    Calls Try.prog 26 #[rdv v r.bad, .int .i64 k] w (RetN w0 ((Wir.take r k).1, Wir.be (Wir.take r k).2) w) := by
  obtain ⟨a, cap, rfl⟩ := h.form
  have H2 := Lib.hid (rd_two w #[.slice a r.l.length cap, .bool r.bad] #[.slice none 0 0, .bool false] 40 40)
  have TK : ∀ w1, Below w.heap.size w w1 → Calls Try.prog 25 #[rdv (.slice a r.l.length cap) r.bad, .int .i64 k] w1 (RetT w0 (Wir.take r k) w1) := fun w1 hb => reftake_any w0 _ r k w1 h (hbw.trans (hb.mono hbw.size)) hl
  clear h hbw
  have hlen : (Wir.take r k).2.length ≤ 8 := by
    unfold Wir.take Wir.next
    split
    · simp
    · split
      · simp
      · simp [List.length_take]; omega
  generalize r.bad = bad at *
  generalize r.l.length = len at *
  generalize Wir.take r k = t at *
  obtain ⟨⟨sl, sb⟩, b⟩ := t
  have TK := Lib.hid TK
  have d1 : decide ((k : Int) < 1) = false := by simp; omega
  have d2 : decide (8 < (k : Int)) = false := by simp; omega
  go_enter Try.func26, Try.ntmps26
  go_wp2_with fail
  refine (TK.out _ H2.out.1).mono ?_
  rintro e w1 ⟨u, y, rfl, hu, hy, hb1⟩
  have hr := (hb1.block (w.heap.size + 1) (by rw [H2.out.2.2.2]; omega)).trans H2.out.2.2.1
  have B1 := Lib.hid (H2.out.1.trans (hb1.mono (by rw [H2.out.2.2.2]; omega)))
  have HY := Lib.hid hy.bs
  have HU := Lib.hid hu
  obtain ⟨ya, yc, rfl⟩ := hy.form
  obtain ⟨ua, uc, rfl⟩ := hu.form
  clear hb1 hy hu
  have HR := Lib.hid hr; clear hr
  go_wp2_with fail
  have M : Below w.heap.size w (w1.alloc (.cells #[.slice ua sl.length uc, .bool sb] 40)) ∧ (w1.alloc (.cells #[.slice ua sl.length uc, .bool sb] 40)).heap[w1.heap.size]? = some (.cells #[.slice ua sl.length uc, .bool sb] 40 (0, 0)) ∧
      (w1.alloc (.cells #[.slice ua sl.length uc, .bool sb] 40)).heap[w.heap.size + 1]? = some (.cells #[.slice none 0 0, .bool false] 40 (0, 0)) ∧
      Rs (w1.alloc (.cells #[.slice ua sl.length uc, .bool sb] 40)) (.slice ya b.length yc) b := by
    have hlt := (Array.getElem?_eq_some_iff.1 HR.out).1
    have hb : Below w1.heap.size w1 (w1.alloc (.cells #[.slice ua sl.length uc, .bool sb] 40)) := (Below.refl _ _).alloc (Nat.le_refl _) _
    exact ⟨B1.out.trans (hb.mono B1.out.size), heap_alloc_new _ _, (hb.block _ hlt).trans HR.out, HY.out.rs.below hb⟩
  have M := Lib.hid M
  clear HR B1 HY TK H2
  generalize w1.alloc (.cells #[.slice ua sl.length uc, .bool sb] 40) = W at M ⊢
  generalize w1.heap.size = g at M ⊢
  go_loopw [8, 9] (fun x i wr => ∃ j : Nat, j ≤ b.length ∧ x = .int .u64 ↑(Wir.be (b.take j)) ∧ i = .int .i64 j ∧ wr = W) (fun _ i _ => b.length - (intOf i).toNat)
  case atStart => exact ⟨0, by omega, by simp [Wir.be], rfl, rfl⟩
  case round =>
    obtain ⟨j, hj, rfl, rfl, rfl⟩ := hrel
    by_cases hlt : j < b.length
    · obtain ⟨yb, yo, rfl, hc⟩ := M.out.2.2.2.at (k := j) hlt
      have c := hc j hlt
      clear hc
      have hx := M.out.2.2.2.1.get j
      have hsn := Lib.hid (Wir.be_snoc b j hlt)
      have hbl := Wir.be_lt b M.out.2.2.2.1 j (by omega)
      have hbp : 256 ^ j ≤ 72057594037927936 := by
        have : 256 ^ j ≤ 256 ^ 7 := Nat.pow_le_pow_right (by omega) (by omega)
        exact Nat.le_trans this (by decide)
      generalize b.getD j 0 = q at c hx hsn
      have hbl : Wir.be (b.take j) < 72057594037927936 := by omega
      clear hbp
      generalize Wir.be (b.take j) = z at hbl hsn ⊢
      have lj : (j : Int) < (b.length : Int) := by omega
      go_wp2_with fail
      go_roundw
      case rel => exact ⟨j + 1, by omega, by rw [hsn.out]; go_num, by go_num, by first | rfl | trivial⟩
      case measure => simp [intOf]; omega
    · obtain rfl : j = b.length := by omega
      have hd : decide ((b.length : Int) < (b.length : Int)) = false := by simp
      rw [List.take_length]
      obtain ⟨s0, s1, _, _⟩ := two_cells M.out.2.1
      obtain ⟨c0, c1, f0, f1⟩ := two_cells M.out.2.2.1
      have hbl := Wir.be_lt b M.out.2.2.2.1 b.length (by omega)
      rw [List.take_length] at hbl
      have hbp : 256 ^ b.length ≤ 18446744073709551616 := by
        have : 256 ^ b.length ≤ 256 ^ 8 := Nat.pow_le_pow_right (by omega) (by omega)
        exact Nat.le_trans this (by decide)
      have hbl : Wir.be b < 18446744073709551616 := by omega
      clear hbp
      clear hlt hj
      go_wp2_with fail
      exact bodyPost_ret (results_cell_tmp2 rfl _ _ (w.heap.size + 1) _ _ (0, 0) _ rfl (two_set1 (two_set0 M.out.2.2.1)) rfl rfl infoRd) rfl ⟨_, rfl, HU.out, (M.out.1.setCell (by simp) _).setCell (by simp) _⟩

theorem refnum_any (w0 : World) (v : Value) (r : Wir.R) (k : Int) (w : World) (h : Rs w0 v r.l) (hbw : Below w0.heap.size w0 w) (hl : r.l.length ≤ 140737488355328) :
    Calls Try.prog 26 #[rdv v r.bad, .int .i64 k] w (RetN w0 (Wir.num r k) w) := by
  by_cases hk : k < 1 ∨ 8 < k
  · have e : Wir.num r k = (Wir.failed, 0) := by unfold Wir.num Wir.number; rw [if_pos hk]; rfl
    rw [e]
    exact refnum_out w0 v r.l r.bad k w (h.below hbw) hk
  · obtain ⟨m, rfl⟩ := Int.eq_ofNat_of_zero_le (show 0 ≤ k by omega)
    have e : Wir.num r (m : Int) = ((Wir.take r m).1, Wir.be (Wir.take r m).2) := by
      unfold Wir.num Wir.number Wir.take
      rw [if_neg hk, if_neg (by omega)]
      cases (Wir.next r (m : Int).toNat).2 <;> rfl
    rw [e]
    exact refnum_in w0 v r m w h hbw hl (by omega) (by omega)

theorem string_take (r : Wir.R) (k : Int) : Wir.string r k = if (Wir.num r k).1.bad then (Wir.failed, []) else Wir.take (Wir.num r k).1 ((Wir.num r k).2 : Int) := by
  unfold Wir.string Wir.num Wir.number
  by_cases hk : k < 1 ∨ 8 < k
  · rw [if_pos hk]; simp [Wir.failed]
  · rw [if_neg hk]
    unfold Wir.next
    by_cases hb : r.bad = true ∨ r.l.length < k.toNat
    · rw [if_pos hb]; simp [Wir.failed]
    · rw [if_neg hb]
      simp [Wir.take, Wir.next]
      intro h; omega
theorem num_len (r : Wir.R) (k : Int) : (Wir.num r k).1.l.length ≤ r.l.length := by
  unfold Wir.num Wir.number
  by_cases hk : k < 1 ∨ 8 < k
  · rw [if_pos hk]; simp [Wir.failed]
  · rw [if_neg hk]
    unfold Wir.next
    by_cases hb : r.bad = true ∨ r.l.length < k.toNat
    · rw [if_pos hb]; simp [Wir.failed]
    · rw [if_neg hb]; simp
theorem num_lt (r : Wir.R) (k : Int) (h : AllB r.l) : (Wir.num r k).2 < 18446744073709551616 := by
  unfold Wir.num
  cases hn : (Wir.number r k).2 with
  | none => simp
  | some n => exact number_lt h hn

set_option maxRecDepth 100000 in
set_option maxHeartbeats 800000 in
theorem refstr_any (w0 : World) (v : Value) (r : Wir.R) (k : Int) (w : World) (h : Rs w0 v r.l) (hbw : Below w0.heap.size w0 w) (hl : r.l.length ≤ 140737488355328) :
    Calls Try.prog 27 #[rdv v r.bad, .int .i64 k] w (RetT w0 (Wir.string r k) w) := by
  obtain ⟨a, cap, rfl⟩ := h.form
  have H2 := Lib.hid (rd_two w #[.slice a r.l.length cap, .bool r.bad] #[.slice none 0 0, .bool false] 40 40)
  have NM : ∀ w1, Below w.heap.size w w1 → Calls Try.prog 26 #[rdv (.slice a r.l.length cap) r.bad, .int .i64 k] w1 (RetN w0 (Wir.num r k) w1) := fun w1 hb => refnum_any w0 _ r k w1 h (hbw.trans (hb.mono hbw.size)) hl
  have NM := Lib.hid NM
  have BW := Lib.hid hbw
  have hlt64 := num_lt r k h.1
  clear h hbw
  go_enter Try.func27, Try.ntmps27
  go_wp2_with fail
  refine (NM.out _ H2.out.1).mono ?_
  rintro e w1 ⟨u, rfl, hu, hb1⟩
  have hr := (hb1.block (w.heap.size + 1) (by rw [H2.out.2.2.2]; omega)).trans H2.out.2.2.1
  have B1 := Lib.hid (H2.out.1.trans (hb1.mono (by rw [H2.out.2.2.2]; omega)))
  have HU := Lib.hid hu
  obtain ⟨ua, uc, rfl⟩ := hu.form
  clear hb1 hu
  have HR := Lib.hid hr; clear hr
  have M : Below w.heap.size w (w1.alloc (.cells #[.slice ua (Wir.num r k).1.l.length uc, .bool (Wir.num r k).1.bad] 40)) ∧
      (w1.alloc (.cells #[.slice ua (Wir.num r k).1.l.length uc, .bool (Wir.num r k).1.bad] 40)).heap[w1.heap.size]? = some (.cells #[.slice ua (Wir.num r k).1.l.length uc, .bool (Wir.num r k).1.bad] 40 (0, 0)) ∧
      (w1.alloc (.cells #[.slice ua (Wir.num r k).1.l.length uc, .bool (Wir.num r k).1.bad] 40)).heap[w.heap.size + 1]? = some (.cells #[.slice none 0 0, .bool false] 40 (0, 0)) := by
    have hlt := (Array.getElem?_eq_some_iff.1 HR.out).1
    have hb : Below w1.heap.size w1 (w1.alloc (.cells #[.slice ua (Wir.num r k).1.l.length uc, .bool (Wir.num r k).1.bad] 40)) := (Below.refl _ _).alloc (Nat.le_refl _) _
    exact ⟨B1.out.trans (hb.mono B1.out.size), heap_alloc_new _ _, (hb.block _ hlt).trans HR.out⟩
  have M := Lib.hid M
  have hnl : (Wir.num r k).1.l.length ≤ 140737488355328 := Nat.le_trans (num_len r k) hl
  have hn64 := hlt64
  clear hlt64
  have hst := string_take r k
  generalize (Wir.num r k).2 = n at *
  generalize (Wir.num r k).1 = s at *
  obtain ⟨sl, sb⟩ := s
  have hT : ∀ w', Below w.heap.size w w' → Calls Try.prog 25 #[rdv (.slice ua sl.length uc) sb, .int .i64 n] w' (RetT w0 (Wir.take ⟨sl, sb⟩ n) w') := fun w' hb => reftake_any w0 _ ⟨sl, sb⟩ n w' HU.out (BW.out.trans (hb.mono BW.out.size)) hnl
  have HT := Lib.hid hT; clear hT
  have HST := Lib.hid hst; clear hst
  clear NM HR B1 BW
  by_cases hc : sb = true ∨ sl.length < n
  · have hst2 : Wir.string r k = (Wir.failed, []) := by
      rw [HST.out]
      split
      · rfl
      · unfold Wir.take Wir.next
        rw [if_neg (by omega), if_pos (by rcases hc with h | h; exact .inl h; right; simpa using h)]
        rfl
    have HS2 := Lib.hid hst2; clear hst2
    have key : sb = true ∨ (sb = false ∧ sl.length < n) := by
      cases sb
      · exact .inr ⟨rfl, by rcases hc with h | h; cases h; exact h⟩
      · exact .inl rfl
    clear hc
    rcases key with rfl | ⟨rfl, d1⟩
    all_goals
      go_wp2_with fail
      refine (reffail _).mono ?_
      rintro e w2 ⟨rfl, hb2⟩
      have hr := (hb2.block (w.heap.size + 1) ((Array.getElem?_eq_some_iff.1 M.out.2.2).1)).trans M.out.2.2
      have B2 := Lib.hid (M.out.1.trans (hb2.mono M.out.1.size))
      clear hb2
      obtain ⟨c0, c1, f0, f1⟩ := two_cells hr
      have HR := Lib.hid hr; clear hr
      go_wp2_with fail
      rw [HS2.out]
      exact bodyPost_ret (results_cell_tmp2 rfl _ _ (w.heap.size + 1) _ _ (0, 0) _ rfl (two_set1 (two_set0 HR.out)) rfl rfl infoRd) rfl ⟨_, _, rfl, (Bs.nil _).rs, Own.nil _ _, (B2.out.setCell (by simp) _).setCell (by simp) _⟩
  · obtain rfl : sb = false := by cases sb <;> simp_all
    have hc : n ≤ sl.length := by omega
    have d1 : decide ((sl.length : Int) < (n : Int)) = false := by simp; omega
    have d3 : decide (sl.length < n) = false := by simp; omega
    have hst2 : Wir.string r k = Wir.take ⟨sl, false⟩ n := by rw [HST.out]; rfl
    have HS2 := Lib.hid hst2; clear hst2
    go_wp2_with fail
    refine (HT.out _ M.out.1).mono ?_
    rintro e w2 ⟨u2, y2, rfl, hu2, hy2, hb2⟩
    have hr := (hb2.block (w.heap.size + 1) ((Array.getElem?_eq_some_iff.1 M.out.2.2).1)).trans M.out.2.2
    have B2 := Lib.hid (M.out.1.trans (hb2.mono M.out.1.size))
    have HY := Lib.hid hy2
    have HU2 := Lib.hid hu2
    obtain ⟨ya, yc, rfl⟩ := hy2.form
    obtain ⟨u2a, u2c, rfl⟩ := hu2.form
    have HN : Hid ((Value.slice ya _ yc).ownBlock = none ∨ (Value.slice ya _ yc).ownBlock ≠ some (w.heap.size + 1)) := Lib.hid (by
      cases hv : (Value.slice ya _ yc).ownBlock with
      | none => exact .inl rfl
      | some q => exact .inr (fun e => by
          have h1 := (hy2.lt q hv).1
          have h2 := (Array.getElem?_eq_some_iff.1 M.out.2.2).1
          cases e; omega))
    clear hb2 hy2 hu2
    obtain ⟨c0, c1, f0, f1⟩ := two_cells hr
    have HR := Lib.hid hr; clear hr
    go_wp2_with fail
    rw [HS2.out]
    exact bodyPost_ret (results_cell_tmp2 rfl _ _ (w.heap.size + 1) _ _ (0, 0) _ rfl (two_set1 (two_set0 HR.out)) rfl rfl infoRd) rfl ⟨_, _, rfl, HU2.out, ((HY.out.only (only_set (only_set (only_refl _ _) 0 _) 1 _) (HN.out)).mono (by have := M.out.1.size; simpa using this)), (B2.out.setCell (by simp) _).setCell (by simp) _⟩
end Go.Proofs.Ythfbcpbjnfdnkaa
