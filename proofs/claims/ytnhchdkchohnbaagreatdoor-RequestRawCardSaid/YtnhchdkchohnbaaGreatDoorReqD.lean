/- Layer 14: the reference's Parse. -/
import Derived.Test.YtnhchdkchohnbaaGreatDoorReqC
namespace Go.Proofs.YtnhchdkchohnbaaGreatDoor
open Go.RowKit Go.Deep

set_option maxRecDepth 100000 in
set_option maxHeartbeats 4000000 in
theorem refrqparse_any (v : Value) (l : List Nat) (w : World) (h : Rs w v l) (hb : l.length ≤ 140737488355328) :
    Calls Tryz.prog 53 #[v] w (RetRef w (Req.refParse l)) := by
  have H := Lib.hid h
  obtain ⟨va, cap, rfl⟩ := h.form
  clear h
  generalize hR : Req.refParse l = R
  have HR := Lib.hid hR; clear hR
  go_enter Tryz.func53, Tryz.ntmps53
  by_cases h7 : l.length < 7
  · have E1 := Lib.hid (show R = none by rw [← HR.out]; exact Req.refParse_head (.inl h7))
    clear HR H
    go_wp2_with fail
    all_goals first | omega | skip
    go_ret3
    rw [E1.out]
    exact retRef_none (Below.refl _ _) rfl
  obtain ⟨b, off, rfl, hc⟩ := H.out.at (k := 0) (by omega)
  by_cases hbig : 65536 < l.length
  · have E1 := Lib.hid (show R = none by rw [← HR.out]; exact Req.refParse_head (.inr (.inl hbig)))
    clear HR H hc
    go_wp2_with fail
    all_goals first | omega | skip
    go_ret3
    rw [E1.out]
    exact retRef_none (Below.refl _ _) rfl
  have c0 := hc 0 (by omega)
  rw [Nat.add_zero] at c0
  by_cases k0 : l.getD 0 0 = 65
  rotate_left
  · have E1 := Lib.hid (show R = none by rw [← HR.out]; exact Req.refParse_head (.inr (.inr (.inl k0))))
    have hne : (((l.getD 0 0 : Nat) : Int) != 65) = true := by rw [bne_iff_ne]; omega
    clear HR H hc
    generalize l.getD 0 0 = y0 at *
    go_wp2_with fail
    all_goals first | omega | skip
    go_ret3
    rw [E1.out]
    exact retRef_none (Below.refl _ _) rfl
  rw [k0] at c0
  have c1 := hc 1 (by omega)
  by_cases k1 : l.getD 1 0 = 80
  rotate_left
  · have E1 := Lib.hid (show R = none by rw [← HR.out]; exact Req.refParse_head (.inr (.inr (.inr (.inl k1)))))
    have hne : (((l.getD 1 0 : Nat) : Int) != 80) = true := by rw [bne_iff_ne]; omega
    clear HR H hc
    generalize l.getD 1 0 = y1 at *
    go_wp2_with fail
    all_goals first | omega | skip
    go_ret3
    rw [E1.out]
    exact retRef_none (Below.refl _ _) rfl
  rw [k1] at c1
  have c2 := hc 2 (by omega)
  by_cases k2 : l.getD 2 0 = 1
  rotate_left
  · have E1 := Lib.hid (show R = none by rw [← HR.out]; exact Req.refParse_head (.inr (.inr (.inr (.inr k2)))))
    have hne : (((l.getD 2 0 : Nat) : Int) != 1) = true := by rw [bne_iff_ne]; omega
    clear HR H hc
    generalize l.getD 2 0 = y2 at *
    go_wp2_with fail
    all_goals first | omega | skip
    go_ret3
    rw [E1.out]
    exact retRef_none (Below.refl _ _) rfl
  rw [k2] at c2
  have c3 := hc 3 (by omega)
  have c4 := hc 4 (by omega)
  have b3 := Req.getD_mem H.out.1 3
  have b4 := Req.getD_mem H.out.1 4
  obtain ⟨n, hn⟩ : ∃ n, n = 256 * l.getD 3 0 + l.getD 4 0 := ⟨_, rfl⟩
  obtain ⟨n5, hn5⟩ : ∃ x, x = 5 + n := ⟨_, rfl⟩
  obtain ⟨n6, hn6⟩ : ∃ x, x = 6 + n := ⟨_, rfl⟩
  obtain ⟨n7, hn7⟩ : ∃ x, x = 7 + n := ⟨_, rfl⟩
  have HC := Lib.hid hc
  have HALL := Lib.hid H.out.1
  have HH := Lib.hid (show ¬ (l.length < 7 ∨ 65536 < l.length ∨ l.getD 0 0 ≠ 65 ∨ l.getD 1 0 ≠ 80 ∨ l.getD 2 0 ≠ 1) by omega)
  have HO := Lib.hid (fun h => (Req.refParse_one (b := l) hn h).symm.trans HR.out)
  have HT := Lib.hid (fun (m : Nat) hm h => (Req.refParse_two (b := l) (m := m) hn hm h).symm.trans HR.out)
  have HY := Lib.hid (fun (m : Nat) hm h => (Req.refParse_yes (b := l) (m := m) HH.out hn hm h).symm.trans HR.out)
  clear hc k0 k1 k2 HR HH
  generalize l.getD 3 0 = x3 at *
  generalize l.getD 4 0 = x4 at *
  obtain ⟨q3, hq3⟩ : ∃ q, q = 256 * x3 := ⟨_, rfl⟩
  have v1 : IntKind.i64.wrap (x3 : Int) = (x3 : Int) := by simp only [IntKind.wrap_i64]; omega
  have v2 : IntKind.i64.wrap (x4 : Int) = (x4 : Int) := by simp only [IntKind.wrap_i64]; omega
  have v3 : IntKind.i64.wrap (256 * (x3 : Int)) = (q3 : Int) := by simp only [IntKind.wrap_i64]; omega
  have v4 : IntKind.i64.wrap ((q3 : Int) + (x4 : Int)) = (n : Int) := by simp only [IntKind.wrap_i64]; omega
  have v5 : IntKind.i64.wrap (5 + (n : Int)) = (n5 : Int) := by simp only [IntKind.wrap_i64]; omega
  have v6 : IntKind.i64.wrap (6 + (n : Int)) = (n6 : Int) := by simp only [IntKind.wrap_i64]; omega
  have v7 : IntKind.i64.wrap (7 + (n : Int)) = (n7 : Int) := by simp only [IntKind.wrap_i64]; omega
  have v8 : IntKind.i64.wrap ((n5 : Int) + 2) = (n7 : Int) := by simp only [IntKind.wrap_i64]; omega
  have HQ := Lib.hid (show n5 = 5 + n ∧ n6 = 6 + n ∧ n7 = 7 + n ∧ n ≤ 65535 from ⟨hn5, hn6, hn7, by omega⟩)
  clear hn hn5 hn6 hn7 hq3 b3 b4
  go_wp2_with fail
  go_quiet (skip)
  all_goals first | omega | skip
  obtain ⟨W1, hW1⟩ : ∃ W, W = w.drewN nq := ⟨_, rfl⟩
  have B1 := below_drewN (Below.refl w.heap.size w) nq
  rw [← hW1] at B1 ⊢
  clear hW1 c0 c1 c2 c3 c4 v1 v2 v3 v4
  have H1 := Lib.hid (H.out.below B1)
  by_cases h1 : l.length < n7
  · have E1 := Lib.hid (show R = none from (HO.out (by have := HQ.out; omega)).symm)
    clear HO HT HY H H1 HC
    go_wp2_with fail
    all_goals first | omega | skip
    go_ret3
    rw [E1.out]
    exact retRef_none B1 rfl
  have hi5 : n5 < l.length := by have := HQ.out; omega
  have hi6 : n6 < l.length := by have := HQ.out; omega
  obtain ⟨_, _, hx, hc⟩ := H1.out.at (k := 0) (by omega)
  cases hx
  have c5 := hc n5 (by omega)
  have c6 := hc n6 (by omega)
  have b5 := Req.getD_mem HALL.out n5
  have b6 := Req.getD_mem HALL.out n6
  obtain ⟨m, hm⟩ : ∃ m, m = 256 * l.getD n5 0 + l.getD n6 0 := ⟨_, rfl⟩
  have HM := Lib.hid (show m = 256 * l.getD (5 + n) 0 + l.getD (6 + n) 0 by rw [hm, HQ.out.1, HQ.out.2.1])
  clear hc HC
  generalize l.getD n5 0 = x5 at *
  generalize l.getD n6 0 = x6 at *
  obtain ⟨q5, hq5⟩ : ∃ q, q = 256 * x5 := ⟨_, rfl⟩
  obtain ⟨s, hs⟩ : ∃ s, s = n7 + m := ⟨_, rfl⟩
  have hn7 : n7 ≤ 65542 := by have := HQ.out; omega
  have v1 : IntKind.i64.wrap (x5 : Int) = (x5 : Int) := by simp only [IntKind.wrap_i64]; omega
  have v2 : IntKind.i64.wrap (x6 : Int) = (x6 : Int) := by simp only [IntKind.wrap_i64]; omega
  have v3 : IntKind.i64.wrap (256 * (x5 : Int)) = (q5 : Int) := by simp only [IntKind.wrap_i64]; omega
  have v4 : IntKind.i64.wrap ((q5 : Int) + (x6 : Int)) = (m : Int) := by simp only [IntKind.wrap_i64]; omega
  have v9 : IntKind.i64.wrap ((n7 : Int) + (m : Int)) = (s : Int) := by simp only [IntKind.wrap_i64]; omega
  have HSS := Lib.hid (show s = 7 + n + m by have := HQ.out; omega)
  clear hm hq5 hs b5 b6
  go_wp2_with fail
  all_goals first | omega | skip
  go_quiet (skip)
  all_goals first | omega | skip
  obtain ⟨W2, hW2⟩ : ∃ W, W = W1.drewN nq := ⟨_, rfl⟩
  have B2 := below_drewN (Below.refl W1.heap.size W1) nq
  rw [← hW2] at B2 ⊢
  have B02 := B1.trans (B2.mono B1.size)
  have H2 := Lib.hid (H1.out.below B2)
  clear hW2 B1 B2 c5 c6 v1 v2 v3 v4 H1
  by_cases h2 : s = l.length
  rotate_left
  · have E1 := Lib.hid (show R = none from (HT.out m HM.out (by have := HSS.out; omega)).symm)
    have hne : ((s : Int) != (l.length : Int)) = true := by rw [bne_iff_ne]; omega
    clear HO HT HY H2
    go_wp2_with fail
    all_goals first | omega | skip
    go_ret3
    rw [E1.out]
    exact retRef_none B02 rfl
  have hne : ((s : Int) != (l.length : Int)) = false := by rw [bne_eq_false_iff_eq]; omega
  have hcaps := H2.out.caps
  have E1 := Lib.hid (show R = some ((l.take n5).drop 5, l.drop n7) by
    rw [HQ.out.1, HQ.out.2.2.1]
    exact (HY.out m HM.out (by have := HSS.out; omega)).symm)
  have h55 : 5 ≤ n5 := by have := HQ.out; omega
  have hs1 : ∀ W : World, (Instr.slice 24 (.slice (some ⟨b, off, none⟩) l.length cap) (some (.int .i64 5)) (some (.int .i64 (n5 : Int))) none).run Tryz.prog W = .ok (.slice (partA b off 5 cap) (n5 - 5) (cap - 5)) W := fun W => run_part2 W b off l.length cap 5 n5 (by omega) (by omega)
  have hs2 : ∀ W : World, (Instr.slice 24 (.slice (some ⟨b, off, none⟩) l.length cap) (some (.int .i64 (n7 : Int))) none none).run Tryz.prog W = .ok (.slice (partA b off n7 cap) (l.length - n7) (cap - n7)) W := fun W => run_drop W b off l.length cap n7 (by omega) (by omega)
  have D1 := H2.out.part 5 n5 cap (by omega) (by omega) (by omega) (by omega)
  have D2 := H2.out.part n7 l.length cap (by omega) (Nat.le_refl _) (by omega) (by omega)
  rw [List.take_length] at D2
  have D1 := Lib.hid D1
  have D2 := Lib.hid D2
  clear HO HT HY H2
  go_wp2_with fail
  all_goals first | omega | skip
  go_quiet (skip)
  all_goals first | omega | skip
  go_wp2_with fail
  go_ret3
  rw [E1.out]
  have B3 := below_drewN (Below.refl W2.heap.size W2) nq
  exact ⟨B02.trans (B3.mono B02.size), _, _, _, _, rfl, D1.out.below B3, D2.out.below B3, rfl⟩
end Go.Proofs.YtnhchdkchohnbaaGreatDoor
