/- The reference's product. -/
import Derived.Test.YtgalddnblciciaaDoorRtB
import Derived.StillTailTactics
namespace Go.Proofs.YtgalddnblciciaaDoor
open Go.RowKit Go.Deep

theorem carry_eq (f : Nat) (o : List Nat) (j : Nat) : Rt.carry (f + 1) o j = if 65536 ≤ o.getD j 0 then (if j + 1 < o.length then Rt.carry f ((o.set (j + 1) ((o.getD (j + 1) 0 + o.getD j 0 / 65536) % 18446744073709551616)).set j (o.getD j 0 % 65536)) (j + 1) else none) else some o := rfl
theorem OwnW.cellAt {w : World} {base g n cap : Nat} {l : List Nat} (h : OwnW w base (.slice (some ⟨g, 0, none⟩) n cap) l) {i : Nat} (hi : i < l.length) : w.cell? ⟨g, i, none⟩ = some (wv (l.getD i 0)) := by
  rcases h.cases with ⟨h', _⟩ | ⟨g', cap', h', _, _, _, _, hc, _⟩
  · simp at h'
  · simp only [Value.slice.injEq, Option.some.injEq, Addr.mk.injEq, and_true] at h'
    obtain ⟨rfl, -, -⟩ := h'
    exact hc i hi
theorem OwnW.frozenAt {w : World} {base g n cap : Nat} {l : List Nat} (h : OwnW w base (.slice (some ⟨g, 0, none⟩) n cap) l) (i : Nat) : w.frozen? ⟨g, i, none⟩ = false := by
  rcases h.cases with ⟨h', _⟩ | ⟨g', cap', h', _, _, _, _, _, hf⟩
  · simp at h'
  · simp only [Value.slice.injEq, Option.some.injEq, Addr.mk.injEq, and_true] at h'
    obtain ⟨rfl, -, -⟩ := h'
    exact hf i
theorem drop_at (l : List Nat) (i : Nat) (h : i < l.length) : l.drop i = l.getD i 0 :: l.drop (i + 1) := by
  rw [List.drop_eq_getElem_cons h]
  simp [List.getD, h]
set_option maxRecDepth 100000 in
set_option maxHeartbeats 8000000 in
theorem product_any (a b r : List Nat) (ba bb : Nat) (va vb : Value) (w : World) (ha : OwnW w ba va a) (hb : OwnW w bb vb b) (hla : a.length ≤ 1000) (hlb : b.length ≤ 1000) (hr : Rt.prod a b = some r) :
    Calls Tryd.prog 42 #[va, vb] w (RetW r w) := by
  obtain ⟨a1, c1, rfl⟩ := ha.form
  obtain ⟨a2, c2, rfl⟩ := hb.form
  have HR := Lib.hid (show Rt.prodI b (a.drop 0) (List.replicate (a.length + b.length + 1) 0) 0 = some r from hr); clear hr
  have HA := Lib.hid ha; clear ha
  have HB := Lib.hid hb; clear hb
  have hAll := HA.out.1
  have hBll := HB.out.1
  have HAL := Lib.hid hAll; clear hAll
  have HBL := Lib.hid hBll; clear hBll
  obtain ⟨N, hN⟩ : ∃ N, N = a.length + b.length + 1 := ⟨_, rfl⟩
  rw [← hN] at HR
  have hNi : (a.length : Int) + b.length + 1 = (N : Int) := by omega
  have HN := Lib.hid hN; clear hN
  have hN2 : N ≤ 2001 := by have := HN.out; omega
  go_enter Tryd.func42, Tryd.ntmps42
  go_wp2_with (at_make; go_must (refine wpList_makefull_ws rfl _ _ rfl w.heap.size _ _ _ _ N rfl rfl rfl rfl (by omega) (Nat.le_refl _) ?_; intro w1 o1 h1))
  all_goals first | omega | skip
  clear hNi
  go_loopw [6] (fun x wr => ∃ (i : Nat) (o : List Nat), x = .int .i64 i ∧ i ≤ a.length ∧ o.length = N ∧ OwnW wr w.heap.size (.slice (some ⟨w.heap.size, 0, none⟩) N N) o ∧ Rt.prodI b (a.drop i) o i = some r ∧ w.grownBy wr none) (fun x _ => a.length - (intOf x).toNat)
  case atStart => exact ⟨0, _, rfl, Nat.zero_le _, by simp, o1, HR.out, h1⟩
  case round =>
    obtain ⟨i, o, rfl, hi, hol, own, hp, hg⟩ := hrel
    clear o1 h1 HR
    by_cases hil : i < a.length
    · rw [drop_at a i hil] at hp
      obtain ⟨o', hk, hi'⟩ : ∃ o', Rt.prodK (a.getD i 0) b o i = some o' ∧ Rt.prodI b (a.drop (i + 1)) o' (i + 1) = some r := by
        simp only [Rt.prodI] at hp
        split at hp
        · cases hp
        · exact ⟨_, by assumption, hp⟩
      have HI := Lib.hid hi'
      obtain ⟨g1, rfl, _, hg1, hcA⟩ := HA.out.at hil
      have hca := hcA i hil
      clear hcA hp hi'
      have hx64 : a.getD i 0 < 18446744073709551616 := HAL.out _ (by
        have e : a.getD i 0 = a[i] := by simp [List.getD, hil]
        rw [e]; exact List.getElem_mem hil)
      generalize a.getD i 0 = x at hk hca hx64
      go_wp2
      all_goals first | omega | skip
      go_loopw [7] (fun y wr2 => ∃ (k : Nat) (o2 : List Nat), y = .int .i64 k ∧ k ≤ b.length ∧ o2.length = N ∧ OwnW wr2 w.heap.size (.slice (some ⟨w.heap.size, 0, none⟩) N N) o2 ∧ Rt.prodK x (b.drop k) o2 (i + k) = some o' ∧ w.grownBy wr2 none) (fun y _ => b.length - (intOf y).toNat)
      case atStart => exact ⟨0, o, rfl, Nat.zero_le _, hol, own, hk, hg⟩
      case round =>
        obtain ⟨k, o2, rfl, hkl, hol2, own2, hpk, hg2⟩ := hrel
        clear own hk hg hol
        by_cases hkb : k < b.length
        · rw [drop_at b k hkb] at hpk
          obtain ⟨g2, rfl, _, hg3, hcB⟩ := HB.out.at hkb
          have hcb := hcB k hkb
          clear hcB
          have hy64 : b.getD k 0 < 18446744073709551616 := HBL.out _ (by
            have e : b.getD k 0 = b[k] := by simp [List.getD, hkb]
            rw [e]; exact List.getElem_mem hkb)
          generalize b.getD k 0 = y at hpk hcb hy64
          obtain ⟨m, hm⟩ : ∃ m, m = i + k := ⟨_, rfl⟩
          rw [← hm] at hpk
          have hmN : m < N := by have := HN.out; omega
          have hik : IntKind.i64.wrap ((i : Int) + (k : Int)) = (m : Int) := by simp only [IntKind.wrap_i64]; omega
          obtain ⟨o3, hc, hpk'⟩ : ∃ o3, Rt.carry (N - m) (o2.set m ((o2.getD m 0 + x * y % 18446744073709551616) % 18446744073709551616)) m = some o3 ∧ Rt.prodK x (b.drop (k + 1)) o3 (m + 1) = some o' := by
            simp only [Rt.prodK, hol2] at hpk
            split at hpk
            · cases hpk
            · exact ⟨_, by assumption, hpk⟩
          have HP := Lib.hid (show Rt.prodK x (b.drop (k + 1)) o3 (i + (k + 1)) = some o' by rw [show i + (k + 1) = m + 1 by omega]; exact hpk')
          have HM := Lib.hid hm
          have hco := own2.cellAt (i := m) (by rw [hol2]; exact hmN)
          have hfo := own2.frozenAt m
          have hca := ((below_of_only hg2).cell (p := ⟨g1, i, none⟩) hg1).trans hca
          have hcb := ((below_of_only hg2).cell (p := ⟨g2, k, none⟩) hg3).trans hcb
          have HO2 := Lib.hid hol2
          generalize hcg : o2.getD m 0 = c at hco hc
          obtain ⟨p, hp⟩ : ∃ p, p = x * y % 18446744073709551616 := ⟨_, rfl⟩
          rw [← hp] at hc
          have hmul : IntKind.u64.wrap ((x : Int) * (y : Int)) = (p : Int) := by simp only [IntKind.wrap_u64]; rw [hp]; simp
          obtain ⟨v, hv⟩ : ∃ v, v = (c + p) % 18446744073709551616 := ⟨_, rfl⟩
          rw [← hv] at hc
          have hadd : IntKind.u64.wrap ((c : Int) + (p : Int)) = (v : Int) := by simp only [IntKind.wrap_u64]; omega
          have hv64 : v < 18446744073709551616 := by omega
          have HOW := Lib.hid (own2.set m v hv64)
          have HC := Lib.hid hc
          have own2d : OwnW (wr.drewN 1) w.heap.size (.slice (some ⟨w.heap.size, 0, none⟩) N N) o2 := own2
          have HOW := Lib.hid (own2d.set m v hv64)
          clear hpk hpk' hc own2 hol2 hm hp hv hcg own2d
          go_wp2
          all_goals first | omega | skip
          go_still_tail 21, (by kernel_rfl)
          change wpList _ _ _ _ _ (wr.drewN 1)
          have c2 : (wr.drewN 1).cell? ⟨w.heap.size, m, none⟩ = some (wv c) := hco
          have f2 : (wr.drewN 1).frozen? ⟨w.heap.size, m, none⟩ = false := hfo
          have g4 : w.grownBy (wr.drewN 1) none := ⟨hg2.os, hg2.tape, hg2.output, hg2.size, hg2.block⟩
          have g5 := wgrown g4 HOW.out.2 (fun g hg => by cases hg; exact Nat.le_refl _)
          have HO := Lib.hid HOW.out.1
          clear hco hfo hca hcb hmul hadd HOW hg2 g4
          generalize wr.drewN 1 = wd at *
          go_wp2_with fail
          all_goals first | omega | skip
          go_loopw [8] (fun z wr3 => ∃ (j : Nat) (o4 : List Nat), z = .int .i64 j ∧ j < N ∧ o4.length = N ∧ OwnW wr3 w.heap.size (.slice (some ⟨w.heap.size, 0, none⟩) N N) o4 ∧ Rt.carry (N - j) o4 j = some o3 ∧ w.grownBy wr3 none) (fun z _ => N - (intOf z).toNat)
          case atStart => exact ⟨m, _, rfl, hmN, by rw [List.length_set]; exact HO2.out, HO.out, HC.out, g5⟩
          case round =>
            obtain ⟨j, o4, rfl, hj, hol4, own4, hc4, hg4⟩ := hrel
            clear HO HC g5 HO2 c2 f2
            have hNj : N - j = (N - (j + 1)) + 1 := by omega
            rw [hNj, carry_eq, hol4] at hc4
            clear hNj
            have hco := own4.cellAt (i := j) (by rw [hol4]; exact hj)
            have hfo := own4.frozenAt j
            by_cases hcar : 65536 ≤ o4.getD j 0
            · rw [if_pos hcar] at hc4
              obtain ⟨j1, hje⟩ : ∃ j1, j1 = j + 1 := ⟨_, rfl⟩
              rw [← hje] at hc4
              by_cases hj1 : j1 < N
              · rw [if_pos hj1] at hc4
                have hco1 := own4.cellAt (i := j1) (by rw [hol4]; exact hj1)
                have hfo1 := own4.frozenAt j1
                have own4d : OwnW (wr.drewN 1) w.heap.size (.slice (some ⟨w.heap.size, 0, none⟩) N N) o4 := own4
                have HL4 := Lib.hid hol4
                generalize hd1 : o4.getD j 0 = c at *
                generalize o4.getD j1 0 = d at *
                obtain ⟨q, hq⟩ : ∃ q, q = c / 65536 := ⟨_, rfl⟩
                obtain ⟨s, hs⟩ : ∃ s, s = c % 65536 := ⟨_, rfl⟩
                obtain ⟨u, hu⟩ : ∃ u, u = (d + q) % 18446744073709551616 := ⟨_, rfl⟩
                rw [← hq, ← hs, ← hu] at hc4
                have hdiv : (c : Int).tdiv 65536 = (q : Int) := by rw [Int.tdiv_eq_ediv_of_nonneg (by omega), hq]; simp
                have hmod : (c : Int).tmod 65536 = (s : Int) := by rw [Int.tmod_eq_emod_of_nonneg (by omega), hs]; simp
                have hwq : IntKind.u64.wrap (q : Int) = (q : Int) := by
                  have hc64 := own4.1 c (by
                    rw [← hd1]
                    have e : o4.getD j 0 = o4[j]'(by omega) := by simp [List.getD, show j < o4.length by omega]
                    rw [e]; exact List.getElem_mem _)
                  simp only [IntKind.wrap_u64]; omega
                have hadd : IntKind.u64.wrap ((d : Int) + (q : Int)) = (u : Int) := by simp only [IntKind.wrap_u64]; omega
                have hjj : IntKind.i64.wrap ((j : Int) + 1) = (j1 : Int) := by simp only [IntKind.wrap_i64]; omega
                have hs1 := own4d.set j1 u (by omega)
                have hs2 := hs1.1.set j s (by omega)
                have hs1c := hs1.1.cellAt (i := j) (by rw [List.length_set, hol4]; exact hj)
                rw [show (o4.set j1 u).getD j 0 = c by rw [← hd1]; simp only [List.getD]; rw [List.getElem?_set_ne (by omega)]] at hs1c
                have hs1f := hs1.1.frozenAt j
                have HS1 := Lib.hid hs1
                have HS2 := Lib.hid hs2
                have HC4 := Lib.hid hc4
                have HJE := Lib.hid hje
                clear hs1 hs2 hc4 own4 own4d hq hs hu hol4 hd1 hje
                have HCAR := Lib.hid hcar
                have hci : decide ((65536 : Int) ≤ (c : Int)) = true := decide_eq_true (by omega)
                clear hcar
                go_wp2
                all_goals first | omega | skip
                have H1C := Lib.hid hs1c
                have H1F := Lib.hid hs1f
                clear hs1c hs1f
                go_still_tail 14, (by kernel_rfl)
                change wpList _ _ _ _ _ (wr.drewN 1)
                have c2 : (wr.drewN 1).cell? ⟨w.heap.size, j1, none⟩ = some (wv d) := hco1
                have f2 : (wr.drewN 1).frozen? ⟨w.heap.size, j1, none⟩ = false := hfo1
                have c3 := H1C.out
                have f3 := H1F.out
                have g4 : w.grownBy (wr.drewN 1) none := ⟨hg4.os, hg4.tape, hg4.output, hg4.size, hg4.block⟩
                have g6 := wgrown (wgrown g4 HS1.out.2 (fun g hg => by cases hg; exact Nat.le_refl _)) HS2.out.2 (fun g hg => by cases hg; exact Nat.le_refl _)
                have HO5 := Lib.hid HS2.out.1
                clear hco hfo hco1 hfo1 hadd hdiv hwq HS1 HS2 H1C H1F hg4 g4 hci
                generalize wr.drewN 1 = wd2 at *
                go_wp2_with fail
                all_goals first | omega | skip
                go_roundw
                case rel => exact ⟨j1, _, rfl, hj1, by simp [HL4.out], HO5.out, HC4.out, g6⟩
                case measure =>
                  have := HJE.out
                  clear hjj hik
                  simp [intOf]; omega
              · rw [if_neg hj1] at hc4; cases hc4
            · rw [if_neg hcar] at hc4
              have hc4 := Option.some.inj hc4
              subst hc4
              have hcn : decide ((65536 : Int) ≤ (o4.getD j 0 : Int)) = false := decide_eq_false (by omega)
              generalize o4.getD j 0 = c at hco hcn
              clear hcar
              go_wp2
              all_goals first | omega | skip
              go_roundw
              case rel => exact ⟨k + 1, o4, by go_num, hkb, hol4, own4, HP.out, hg4⟩
              case measure => simp [intOf]; omega
        · rw [List.drop_eq_nil_of_le (by omega)] at hpk
          have hpk : some o2 = some o' := hpk
          have hpk := Option.some.inj hpk
          subst hpk
          go_wp2
          all_goals first | omega | skip
          go_roundw
          case rel => exact ⟨i + 1, o2, by go_num, hil, hol2, own2, HI.out, hg2⟩
          case measure => simp [intOf]; omega
    · rw [List.drop_eq_nil_of_le (by omega)] at hp
      have hp : some o = some r := hp
      have hp := Option.some.inj hp
      subst hp
      go_wp2
      all_goals first | omega | skip
      go_ret
      exact ⟨_, rfl, own, hg⟩
end Go.Proofs.YtgalddnblciciaaDoor
