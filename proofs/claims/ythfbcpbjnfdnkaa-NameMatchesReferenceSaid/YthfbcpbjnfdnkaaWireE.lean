import Derived.Test.YthfbcpbjnfdnkaaWireD
namespace Go.Proofs.Ythfbcpbjnfdnkaa
open Go.RowKit Go.Deep

theorem u64_nz (x : Nat) (h : x ≠ 0) : (((x : Nat) : Int) != 0) = true := by simp; exact h
theorem shift_form (x k : Nat) : (x : Int) / 2 ^ (8 * k) = ((x / 256 ^ k : Nat) : Int) := by
  rw [← Wir.pow_shift, Int.natCast_ediv]
  simp

set_option maxRecDepth 100000 in
set_option maxHeartbeats 400000 in
theorem putNumber_out (k : Int) (x : Nat) (w : World) (hk : k < 1 ∨ 8 < k) :
    Calls Try.prog 13 #[.int .i64 k, .int .u64 x] w (RetPut (Wir.putNumber k x) w) := by
  have E := Lib.hid (show Wir.putNumber k x = none by unfold Wir.putNumber; rw [if_pos hk])
  by_cases h1 : k < 1
  · clear hk
    go_enter Try.func13, Try.ntmps13
    go_wp2_with fail
    go_ret2
    exact ⟨Below.refl _ _, .inl ⟨E.out, rfl⟩⟩
  · have h8 : 8 < k := by omega
    clear hk
    go_enter Try.func13, Try.ntmps13
    go_wp2_with fail
    go_ret2
    exact ⟨Below.refl _ _, .inl ⟨E.out, rfl⟩⟩

set_option maxRecDepth 100000 in
set_option maxHeartbeats 400000 in
theorem putNumber_big (k x : Nat) (w : World) (hk1 : 1 ≤ k) (hk8 : k < 8) (hx : 256 ^ k ≤ x) :
    Calls Try.prog 13 #[.int .i64 k, .int .u64 x] w (RetPut (Wir.putNumber k x) w) := by
  have E := Lib.hid (show Wir.putNumber k x = none by unfold Wir.putNumber; rw [if_neg (by omega), if_neg (by simp; omega)])
  have hq : x / 256 ^ k ≠ 0 := by
    have hp : 0 < 256 ^ k := Nat.pow_pos (by omega)
    have := Nat.div_pos hx hp
    omega
  have hs := shift_form x k
  have hnz := u64_nz _ hq
  generalize x / 256 ^ k = q at hs hnz
  clear hx hq
  go_enter Try.func13, Try.ntmps13
  go_wp2_with fail
  go_ret2
  exact ⟨Below.refl _ _, .inl ⟨E.out, rfl⟩⟩

set_option maxRecDepth 100000 in
set_option maxHeartbeats 400000 in
theorem putNumber_fits (k x : Nat) (w : World) (hk1 : 1 ≤ k) (hk8 : k ≤ 8) (hx : x < 256 ^ k) :
    Calls Try.prog 13 #[.int .i64 k, .int .u64 x] w (RetPut (Wir.putNumber k x) w) := by
  have E := Lib.hid (show Wir.putNumber k x = some (Wir.enc k x) by unfold Wir.putNumber; rw [if_neg (by omega), if_pos (by simpa using hx)]; simp)
  have hq : x / 256 ^ k = 0 := Nat.div_eq_of_lt hx
  have hs := shift_form x k
  rw [hq] at hs
  have HX := Lib.hid hx
  clear hq hx
  have d1 : decide ((k : Int) < 1) = false := by simp; omega
  have d2 : decide (8 < (k : Int)) = false := by simp; omega
  by_cases hc : k < 8
  · have d3 : decide ((k : Int) < 8) = true := by simp; omega
    go_enter Try.func13, Try.ntmps13
    go_wp2_with (at_make; go_must (refine wpList_makefull_bs rfl _ _ rfl w.heap.size _ _ _ _ k rfl rfl rfl rfl (by omega) (Nat.le_refl _) ?_; intro w1 hown hgr))
    have hbel := below_of_only hgr
    clear hgr
    go_loopw [7, 1] (fun i y wr => ∃ j : Nat, j ≤ k ∧ i = .int .i64 (↑k - 1 - ↑j) ∧ y = .int .u64 ↑(x / 256 ^ j) ∧ Own wr w.heap.size (.slice (some ⟨w.heap.size, 0, none⟩) k k) (List.replicate (k - j) 0 ++ Wir.enc j x) ∧ Below w.heap.size w wr) (fun i _ _ => (intOf i + 1).toNat)
    case atStart => exact ⟨0, by omega, by simp, by simp, by simpa [Wir.enc] using hown, hbel⟩
    case round =>
      clear hown hbel
      obtain ⟨j, hj, rfl, rfl, hown, hbel⟩ := hrel
      have HB := Lib.hid hbel; clear hbel
      clear hs d1 d2 d3 hc
      have HO := Lib.hid hown
      by_cases hlt : j < k
      · have hge : decide (0 ≤ (k : Int) - 1 - j) = true := by simp; omega
        have hlen : (List.replicate (k - j) 0 ++ Wir.enc j x).length = k := by rw [List.length_append, List.length_replicate, Wir.enc_length]; omega
        have hstep := Lib.hid (Wir.enc_step k j x hlt)
        have hdiv := Lib.hid (show x / 256 ^ (j + 1) = x / 256 ^ j / 256 by rw [Nat.pow_succ, Nat.div_div_eq_div_mul])
        have hql : x / 256 ^ j ≤ x := Nat.div_le_self _ _
        rcases hown.cases with ⟨h', _⟩ | ⟨g, cap, hv, -, -, -, -, hcells, hfroz⟩
        · simp at h'
        simp only [Value.slice.injEq, Option.some.injEq, Addr.mk.injEq, and_true, true_and] at hv
        obtain ⟨rfl, -, rfl⟩ := hv
        have hc := hcells (k - 1 - j) (by rw [hlen]; omega)
        have hf := hfroz (k - 1 - j)
        generalize (List.replicate (k - j) 0 ++ Wir.enc j x).getD (k - 1 - j) 0 = old at hc
        have HL := Lib.hid hlen
        clear hown hcells hfroz hlen
        generalize x / 256 ^ j = q at hstep hdiv hql ⊢
        go_wp2_with fail
        obtain ⟨ho2, hg2⟩ := HO.out.set (k - 1 - j) (q % 256) (by omega)
        have hb2 := below_only HB.out (Nat.le_refl _) hg2 (fun g hg => by simp at hg; omega)
        have ho3 : Own (wr.setCell ⟨w.heap.size, k - 1 - j, none⟩ (bv (q % 256))) w.heap.size (.slice (some ⟨w.heap.size, 0, none⟩) k k) (List.replicate (k - (j + 1)) 0 ++ Wir.enc (j + 1) x) := by
          rw [← hstep.out, show k - j - 1 = k - 1 - j by omega]; exact ho2
        go_roundw
        case rel => exact ⟨j + 1, by omega, by congr 1; omega, by rw [hdiv.out]; rfl, ho3, hb2⟩
        case measure => simp [intOf]; omega
      · obtain rfl : j = k := by omega
        have hge : decide (0 ≤ (j : Int) - 1 - j) = false := by simp; omega
        clear hown
        go_wp2_with fail
        go_ret2
        have ho4 := HO.out
        rw [Nat.sub_self] at ho4
        exact ⟨HB.out, .inr ⟨_, _, E.out, rfl, ho4⟩⟩
  · have d3 : decide ((k : Int) < 8) = false := by simp; omega
    go_enter Try.func13, Try.ntmps13
    go_wp2_with (at_make; go_must (refine wpList_makefull_bs rfl _ _ rfl w.heap.size _ _ _ _ k rfl rfl rfl rfl (by omega) (Nat.le_refl _) ?_; intro w1 hown hgr))
    have hbel := below_of_only hgr
    clear hgr
    go_loopw [7, 1] (fun i y wr => ∃ j : Nat, j ≤ k ∧ i = .int .i64 (↑k - 1 - ↑j) ∧ y = .int .u64 ↑(x / 256 ^ j) ∧ Own wr w.heap.size (.slice (some ⟨w.heap.size, 0, none⟩) k k) (List.replicate (k - j) 0 ++ Wir.enc j x) ∧ Below w.heap.size w wr) (fun i _ _ => (intOf i + 1).toNat)
    case atStart => exact ⟨0, by omega, by simp, by simp, by simpa [Wir.enc] using hown, hbel⟩
    case round =>
      clear hown hbel
      obtain ⟨j, hj, rfl, rfl, hown, hbel⟩ := hrel
      have HB := Lib.hid hbel; clear hbel
      clear hs d1 d2 d3 hc
      have HO := Lib.hid hown
      by_cases hlt : j < k
      · have hge : decide (0 ≤ (k : Int) - 1 - j) = true := by simp; omega
        have hlen : (List.replicate (k - j) 0 ++ Wir.enc j x).length = k := by rw [List.length_append, List.length_replicate, Wir.enc_length]; omega
        have hstep := Lib.hid (Wir.enc_step k j x hlt)
        have hdiv := Lib.hid (show x / 256 ^ (j + 1) = x / 256 ^ j / 256 by rw [Nat.pow_succ, Nat.div_div_eq_div_mul])
        have hql : x / 256 ^ j ≤ x := Nat.div_le_self _ _
        rcases hown.cases with ⟨h', _⟩ | ⟨g, cap, hv, -, -, -, -, hcells, hfroz⟩
        · simp at h'
        simp only [Value.slice.injEq, Option.some.injEq, Addr.mk.injEq, and_true, true_and] at hv
        obtain ⟨rfl, -, rfl⟩ := hv
        have hc := hcells (k - 1 - j) (by rw [hlen]; omega)
        have hf := hfroz (k - 1 - j)
        generalize (List.replicate (k - j) 0 ++ Wir.enc j x).getD (k - 1 - j) 0 = old at hc
        have HL := Lib.hid hlen
        clear hown hcells hfroz hlen
        generalize x / 256 ^ j = q at hstep hdiv hql ⊢
        go_wp2_with fail
        obtain ⟨ho2, hg2⟩ := HO.out.set (k - 1 - j) (q % 256) (by omega)
        have hb2 := below_only HB.out (Nat.le_refl _) hg2 (fun g hg => by simp at hg; omega)
        have ho3 : Own (wr.setCell ⟨w.heap.size, k - 1 - j, none⟩ (bv (q % 256))) w.heap.size (.slice (some ⟨w.heap.size, 0, none⟩) k k) (List.replicate (k - (j + 1)) 0 ++ Wir.enc (j + 1) x) := by
          rw [← hstep.out, show k - j - 1 = k - 1 - j by omega]; exact ho2
        go_roundw
        case rel => exact ⟨j + 1, by omega, by congr 1; omega, by rw [hdiv.out]; rfl, ho3, hb2⟩
        case measure => simp [intOf]; omega
      · obtain rfl : j = k := by omega
        have hge : decide (0 ≤ (j : Int) - 1 - j) = false := by simp; omega
        clear hown
        go_wp2_with fail
        go_ret2
        have ho4 := HO.out
        rw [Nat.sub_self] at ho4
        exact ⟨HB.out, .inr ⟨_, _, E.out, rfl, ho4⟩⟩
end Go.Proofs.Ythfbcpbjnfdnkaa
