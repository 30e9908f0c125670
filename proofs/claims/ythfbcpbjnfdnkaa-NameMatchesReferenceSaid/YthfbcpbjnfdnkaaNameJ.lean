/- Layer 11: Same, in the program and in the reference; Few. -/
import Derived.Test.YthfbcpbjnfdnkaaNameI
import Derived.Deep.QuietTactic
namespace Go.Proofs.Ythfbcpbjnfdnkaa
open Go.RowKit Go.Deep

theorem bl_inj {a b : ByteArray} (h : bl a = bl b) : a = b := by rw [← mk_bl a, h, mk_bl]
theorem str_same (a b : ByteArray) : (a.toList == b.toList) = decide (a = b) := by
  rw [ByteArray.toList_eq, ByteArray.toList_eq]
  by_cases h : a = b
  · subst h; simp
  · have : ¬ a.data.toList = b.data.toList := fun e => h (bl_inj e)
    rw [decide_eq_false h, beq_eq_false_iff_ne]
    exact this
theorem eq_of_at {ss tt : List ByteArray} (hl : ss.length = tt.length) (h : ∀ i, i < ss.length → ss.getD i ByteArray.empty = tt.getD i ByteArray.empty) : ss = tt := by
  apply List.ext_getElem hl
  intro i h1 h2
  have := h i h1
  simpa [List.getD, h1, h2] using this
theorem ne_at {ss tt : List ByteArray} {i : Nat} (h : ss.getD i ByteArray.empty ≠ tt.getD i ByteArray.empty) : ss ≠ tt := fun e => h (by rw [e])

set_option maxRecDepth 100000 in
set_option maxHeartbeats 1000000 in
theorem equal_any (u v : Value) (ss tt : List ByteArray) (w : World) (hu : Ss w u ss) (hv : Ss w v tt) :
    Calls Try.prog 59 #[u, v] w fun e w' => e = .returned (.bool (decide (ss = tt))) ∧ w.grownBy w' none := by
  obtain ⟨ua, uc, rfl⟩ := hu.form
  obtain ⟨va, vc, rfl⟩ := hv.form
  have hn := hu.len
  have hm := hv.len
  have HU := Lib.hid hu; clear hu
  have HV := Lib.hid hv; clear hv
  by_cases hl : ss.length = tt.length
  · go_enter Try.func59, Try.ntmps59
    go_wp2_with fail
    all_goals first | omega | skip
    go_loopw [13] (fun x wr => ∃ j : Nat, j ≤ ss.length ∧ x = .int .i64 j ∧ w.grownBy wr none ∧ ∀ i, i < j → ss.getD i ByteArray.empty = tt.getD i ByteArray.empty) (fun x _ => ss.length - (intOf x).toNat)
    case atStart => exact ⟨0, Nat.zero_le _, rfl, only_refl _ _, fun i hi => by omega⟩
    case round =>
      obtain ⟨j, hj, rfl, hg, hall⟩ := hrel
      by_cases hjl : j < ss.length
      · obtain ⟨b1, o1, rfl, c1⟩ := (HU.out.only hg).at hjl
        obtain ⟨b2, o2, rfl, c2⟩ := (HV.out.only hg).at (hl ▸ hjl)
        have HA := Lib.hid hall; clear hall
        generalize hs1 : ss.getD j ByteArray.empty = s1 at c1
        generalize ht1 : tt.getD j ByteArray.empty = t1 at c2
        have HS := Lib.hid hs1; clear hs1
        have HT := Lib.hid ht1; clear ht1
        have hjt : j < tt.length := hl ▸ hjl
        by_cases he : s1 = t1
        · have hcmp : (s1.toList == t1.toList) = true := by rw [str_same]; exact decide_eq_true he
          have HE := Lib.hid he; clear he
          go_wp2_with fail
          go_quiet (skip)
          all_goals first | omega | skip
          go_wp2_with fail
          go_roundw
          case rel =>
            refine ⟨j + 1, by omega, by go_num, only_drewN hg _, fun i hi => ?_⟩
            by_cases e : i = j
            · subst e; rw [HS.out, HT.out]; exact HE.out
            · exact HA.out i (by omega)
          case measure => simp [intOf]; omega
        · have hcmp : (s1.toList == t1.toList) = false := by rw [str_same]; exact decide_eq_false he
          have HF := Lib.hid (show decide (ss = tt) = false from decide_eq_false (ne_at (i := j) (by rw [HS.out, HT.out]; exact he)))
          clear he
          go_wp2_with fail
          go_quiet (skip)
          all_goals first | omega | skip
          go_wp2_with fail
          go_ret
          exact ⟨by rw [HF.out]; rfl, only_drewN hg _⟩
      · have HF := Lib.hid (show decide (ss = tt) = true from decide_eq_true (eq_of_at hl (fun i hi => hall i (by omega))))
        clear hall
        go_wp2_with fail
        all_goals first | omega | skip
        go_ret
        exact ⟨by rw [HF.out]; rfl, hg⟩
  · have HF := Lib.hid (show decide (ss = tt) = false from decide_eq_false (fun e => hl (by rw [e])))
    go_enter Try.func59, Try.ntmps59
    have hne : ((ss.length : Int) != (tt.length : Int)) = true := by rw [bne_iff_ne]; omega
    go_wp2_with fail
    all_goals first | omega | skip
    go_ret
    exact ⟨by rw [HF.out]; rfl, only_refl _ _⟩
set_option maxRecDepth 100000 in
set_option maxHeartbeats 1000000 in
theorem same_name (r q : ByteArray) (u v : Value) (ss tt : List ByteArray) (w : World) (hu : Ss w u ss) (hv : Ss w v tt) :
    Calls Try.prog 48 #[.agg #[.string r, u], .agg #[.string q, v]] w fun e w' => e = .returned (.bool (decide (r = q ∧ ss = tt))) ∧ w.grownBy w' none := by
  obtain ⟨ua, uc, rfl⟩ := hu.form
  obtain ⟨va, vc, rfl⟩ := hv.form
  have hn := hu.len
  have hm := hv.len
  have n1 := (Hb.new w #[.string r, .slice ua ss.length uc] 53).alloc (.cells #[.string q, .slice va tt.length vc] 53)
  have n2 := Hb.new (w.alloc (.cells #[.string r, .slice ua ss.length uc] 53)) #[.string q, .slice va tt.length vc] 53
  rw [show (w.alloc (.cells #[.string r, .slice ua ss.length uc] 53)).heap.size = w.heap.size + 1 by simp] at n2
  have g2 : w.grownBy ((w.alloc (.cells #[.string r, .slice ua ss.length uc] 53)).alloc (.cells #[.string q, .slice va tt.length vc] 53)) none := only_alloc (only_alloc (only_refl w none) _) _
  have a0 := n1.cell (i := 0) rfl
  have a1 := n1.cell (i := 1) rfl
  have b0 := n2.cell (i := 0) rfl
  have b1 := n2.cell (i := 1) rfl
  have HU := Lib.hid hu; clear hu
  have HV := Lib.hid hv; clear hv
  go_enter Try.func48, Try.ntmps48
  by_cases he : r = q
  · have hcmp : (r.toList == q.toList) = true := by rw [str_same]; exact decide_eq_true he
    have HRQ := Lib.hid he; clear he
    go_wp2_with (go_at_call 59; refine (equal_any _ _ ss tt _ (HU.out.only g2) (HV.out.only g2)).mono ?_)
    rintro e w3 ⟨rfl, h3⟩
    go_wp2_with fail
    go_ret
    refine ⟨congrArg (fun b : Bool => Ending.returned (.bool b)) ?_, only_trans g2 h3⟩
    simp [HRQ.out]
  · have hcmp : (r.toList == q.toList) = false := by rw [str_same]; exact decide_eq_false he
    go_wp2_with fail
    go_ret
    exact ⟨congrArg (fun b : Bool => Ending.returned (.bool b)) (decide_eq_false (fun h => he h.1)).symm, g2⟩
set_option maxRecDepth 100000 in
set_option maxHeartbeats 2000000 in
theorem refsame_name (r q : ByteArray) (u v : Value) (ss tt : List ByteArray) (w : World) (hu : Ss w u ss) (hv : Ss w v tt) :
    Calls Try.prog 33 #[.agg #[.string r, u], .agg #[.string q, v]] w fun e w' => e = .returned (.bool (decide (r = q ∧ ss = tt))) ∧ w.grownBy w' none := by
  obtain ⟨ua, uc, rfl⟩ := hu.form
  obtain ⟨va, vc, rfl⟩ := hv.form
  have hn := hu.len
  have hm := hv.len
  have n1 := (Hb.new w #[.string r, .slice ua ss.length uc] 53).alloc (.cells #[.string q, .slice va tt.length vc] 53)
  have n2 := Hb.new (w.alloc (.cells #[.string r, .slice ua ss.length uc] 53)) #[.string q, .slice va tt.length vc] 53
  rw [show (w.alloc (.cells #[.string r, .slice ua ss.length uc] 53)).heap.size = w.heap.size + 1 by simp] at n2
  have g2 : w.grownBy ((w.alloc (.cells #[.string r, .slice ua ss.length uc] 53)).alloc (.cells #[.string q, .slice va tt.length vc] 53)) none := only_alloc (only_alloc (only_refl w none) _) _
  have a0 := n1.cell (i := 0) rfl
  have a1 := n1.cell (i := 1) rfl
  have b0 := n2.cell (i := 0) rfl
  have b1 := n2.cell (i := 1) rfl
  have HU := Lib.hid hu; clear hu
  have HV := Lib.hid hv; clear hv
  go_enter Try.func33, Try.ntmps33
  by_cases he : r = q
  · have hcmp : (r.toList == q.toList) = true := by rw [str_same]; exact decide_eq_true he
    have HRQ := Lib.hid he; clear he
    by_cases hl : ss.length = tt.length
    · have hnl : ((ss.length : Int) != (tt.length : Int)) = false := by rw [hl]; simp
      have hl1 : ss.length ≤ tt.length := by omega
      have hl2 : tt.length ≤ ss.length := by omega
      have HL := Lib.hid hl; clear hl
      go_wp2_with fail
      all_goals first | omega | skip
      go_loopw [5] (fun x wr => ∃ j : Nat, j ≤ ss.length ∧ x = .int .i64 j ∧ w.grownBy wr none ∧ Hb wr w.heap.size #[.string r, .slice ua ss.length uc] 53 ∧ Hb wr (w.heap.size + 1) #[.string q, .slice va tt.length vc] 53 ∧ ∀ i, i < j → ss.getD i ByteArray.empty = tt.getD i ByteArray.empty) (fun x _ => ss.length - (intOf x).toNat)
      case atStart => exact ⟨0, Nat.zero_le _, rfl, g2, n1, n2, fun i hi => by omega⟩
      case round =>
        obtain ⟨j, hj, rfl, hg, m1, m2, hall⟩ := hrel
        clear a0 a1 b0 b1 g2 n1 n2
        have a1 := m1.cell (i := 1) rfl
        have b1 := m2.cell (i := 1) rfl
        by_cases hjl : j < ss.length
        · obtain ⟨x1, o1, rfl, c1⟩ := (HU.out.only hg).at hjl
          obtain ⟨x2, o2, rfl, c2⟩ := (HV.out.only hg).at (Nat.lt_of_lt_of_le hjl hl1)
          have HA := Lib.hid hall; clear hall
          generalize hs1 : ss.getD j ByteArray.empty = s1 at c1
          generalize ht1 : tt.getD j ByteArray.empty = t1 at c2
          have HS := Lib.hid hs1; clear hs1
          have HT := Lib.hid ht1; clear ht1
          have hjt : j < tt.length := Nat.lt_of_lt_of_le hjl hl1
          by_cases hst : s1 = t1
          · have hcmp2 : (s1.toList == t1.toList) = true := by rw [str_same]; exact decide_eq_true hst
            have HE := Lib.hid hst; clear hst
            go_wp2_with fail
            go_quiet (skip)
            all_goals first | omega | skip
            go_wp2_with fail
            go_roundw
            case rel =>
              refine ⟨j + 1, by omega, by go_num, only_drewN hg _, m1, m2, fun i hi => ?_⟩
              by_cases e : i = j
              · subst e; rw [HS.out, HT.out]; exact HE.out
              · exact HA.out i (by omega)
            case measure => simp [intOf]; omega
          · have hcmp2 : (s1.toList == t1.toList) = false := by rw [str_same]; exact decide_eq_false hst
            have HF := Lib.hid (show decide (r = q ∧ ss = tt) = false from decide_eq_false (fun h => ne_at (i := j) (by rw [HS.out, HT.out]; exact hst) h.2))
            clear hst
            go_wp2_with fail
            go_quiet (skip)
            all_goals first | omega | skip
            go_wp2_with fail
            go_ret
            exact ⟨by rw [HF.out]; rfl, only_drewN hg _⟩
        · have HF := Lib.hid (show decide (r = q ∧ ss = tt) = true from decide_eq_true ⟨HRQ.out, eq_of_at HL.out (fun i hi => hall i (by omega))⟩)
          clear hall
          go_wp2_with fail
          all_goals first | omega | skip
          go_ret
          exact ⟨by rw [HF.out]; rfl, hg⟩
    · have hne : ((ss.length : Int) != (tt.length : Int)) = true := by rw [bne_iff_ne]; omega
      have HF := Lib.hid (show decide (r = q ∧ ss = tt) = false from decide_eq_false (fun h => hl (by rw [h.2])))
      go_wp2_with fail
      all_goals first | omega | skip
      all_goals (go_ret; exact ⟨by rw [HF.out]; rfl, g2⟩)
  · have hcmp : (r.toList == q.toList) = false := by rw [str_same]; exact decide_eq_false he
    have HF := Lib.hid (show decide (r = q ∧ ss = tt) = false from decide_eq_false (fun h => he h.1))
    go_wp2_with fail
    all_goals first | omega | skip
    all_goals (go_ret; exact ⟨by rw [HF.out]; rfl, g2⟩)
/-- A name is small. -/
def few (r : ByteArray) (ss : List ByteArray) : Bool := decide (r.size ≤ 300 ∧ ss.length ≤ 20 ∧ ∀ i, i < ss.length → (ss.getD i ByteArray.empty).size ≤ 300)
set_option maxRecDepth 100000 in
set_option maxHeartbeats 1000000 in
theorem few_any (r : ByteArray) (v : Value) (ss : List ByteArray) (w : World) (h : Ss w v ss) (hr : r.size ≤ maxLen) :
    Calls Try.prog 35 #[.agg #[.string r, v]] w fun e w' => e = .returned (.bool (few r ss)) ∧ w.grownBy w' none := by
  obtain ⟨a, cap, rfl⟩ := h.form
  have H := Lib.hid h; clear h
  have hn := H.out.len
  unfold maxLen at hr
  go_enter Try.func35, Try.ntmps35
  go_wp2_with fail
  go_loopw [3] (fun x wr => ∃ j : Nat, j ≤ ss.length ∧ x = .int .i64 j ∧ w.grownBy wr none ∧ Hb wr w.heap.size #[.string r, .slice a ss.length cap] 53 ∧ ∀ i, i < j → (ss.getD i ByteArray.empty).size ≤ 300) (fun x _ => ss.length - (intOf x).toNat)
  case atStart => exact ⟨0, Nat.zero_le _, rfl, only_alloc (only_refl w none) _, Hb.new _ _ _, fun i hi => by omega⟩
  case round =>
    obtain ⟨j, hj, rfl, hg, hb, hall⟩ := hrel
    have a0 := hb.cell (i := 0) rfl
    have a1 := hb.cell (i := 1) rfl
    by_cases hjl : j < ss.length
    · obtain ⟨x1, o1, rfl, c1⟩ := (H.out.only hg).at hjl
      have hsz := H.out.size hjl
      unfold maxLen at hsz
      have HA := Lib.hid hall; clear hall
      generalize hs1 : ss.getD j ByteArray.empty = s1 at c1 hsz
      have HS := Lib.hid hs1; clear hs1
      by_cases h3 : s1.size ≤ 300
      · go_wp2_with fail
        all_goals first | omega | skip
        go_roundw
        case rel =>
          refine ⟨j + 1, by omega, by go_num, hg, hb, fun i hi => ?_⟩
          by_cases e : i = j
          · subst e; rw [HS.out]; exact h3
          · exact HA.out i (by omega)
        case measure => simp [intOf]; omega
      · have HF := Lib.hid (show few r ss = false from decide_eq_false (fun h => h3 (by have := h.2.2 j hjl; rwa [HS.out] at this)))
        go_wp2_with fail
        all_goals first | omega | skip
        all_goals (go_ret; exact ⟨by rw [HF.out]; rfl, hg⟩)
    · have hall2 : ∀ i, i < ss.length → (ss.getD i ByteArray.empty).size ≤ 300 := fun i hi => hall i (by omega)
      have HF := Lib.hid (show few r ss = (decide ((r.size : Int) ≤ 300) && decide ((ss.length : Int) ≤ 20)) by
        unfold few
        rw [Bool.eq_iff_iff]
        simp only [Bool.and_eq_true, decide_eq_true_eq]
        constructor
        · intro h; omega
        · intro h; exact ⟨by omega, by omega, hall2⟩)
      clear hall hall2
      go_wp2_with fail
      all_goals first | omega | skip
      all_goals (go_ret; refine ⟨congrArg (fun b : Bool => Ending.returned (.bool b)) ?_, hg⟩; rw [HF.out]; clear HF; simp; try omega)
end Go.Proofs.Ythfbcpbjnfdnkaa
