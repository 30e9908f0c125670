/- The reference's Root. -/
import Derived.Test.YtgalddnblciciaaDoorRtC
namespace Go.Proofs.YtgalddnblciciaaDoor
open Go.RowKit Go.Deep

theorem rootF_eq (limit : List Nat) (deg b x : Nat) : Rt.rootF limit deg (b + 1) x = match Rt.power (Rt.dig 4 ((x + 2 ^ b) % 18446744073709551616)) (deg - 1) (Rt.dig 4 ((x + 2 ^ b) % 18446744073709551616)) with
    | none => none
    | some p => Rt.rootF limit deg b (if Rt.greater p limit then x else (x + 2 ^ b) % 18446744073709551616) := rfl
set_option maxRecDepth 100000 in
set_option maxHeartbeats 8000000 in
theorem root_any (n deg r : Nat) (hn : n < 312) (hd1 : 1 ≤ deg) (hd3 : deg ≤ 3) (hr : Rt.root n deg = some r) (w : World) :
    Calls Tryd.prog 22 #[.int .i64 n, .int .i64 deg] w fun e w' => e = .returned (.int .u32 r) ∧ w.grownBy w' none := by
  obtain ⟨X, hX, hXr⟩ : ∃ X, Rt.rootF (List.replicate (2 * deg) 0 ++ Rt.dig 4 n) deg 37 0 = some X ∧ X % 4294967296 = r := by
    unfold Rt.root at hr
    cases h : Rt.rootF (List.replicate (2 * deg) 0 ++ Rt.dig 4 n) deg 37 0 with
    | none => rw [h] at hr; cases hr
    | some X => rw [h] at hr; exact ⟨X, rfl, Option.some.inj hr⟩
  have HX := Lib.hid hX
  have HXR := Lib.hid hXr
  have hdl := Rt.dig_len 4 n
  have HDL := Lib.hid hdl
  clear hX hXr hr hdl
  go_enter Tryd.func22, Tryd.ntmps22
  go_wp2_with (go_at_call 41; refine (digits_any n (by omega) _).mono ?_)
  rintro e w1 ⟨v1, rfl, o1, h1⟩
  have hm64 : IntKind.u64.wrap (n : Int) = (n : Int) := by simp only [IntKind.wrap_u64]; omega
  go_wp2_with fail
  go_loopw [5, 6] (fun v i wr => ∃ j : Nat, i = .int .i64 j ∧ j ≤ 2 * deg ∧ OwnW wr w.heap.size v (List.replicate j 0 ++ Rt.dig 4 n) ∧ w.grownBy wr none) (fun _ i _ => 2 * deg - (intOf i).toNat)
  case atStart => exact ⟨0, rfl, Nat.zero_le _, by simpa using o1, h1⟩
  case round =>
    obtain ⟨j, rfl, hj, own, hg⟩ := hrel
    obtain ⟨a5, c5, rfl⟩ := own.form
    clear o1 h1
    by_cases hjd : j < 2 * deg
    · have hsz := hg.size
      have hlen : (List.replicate j 0 ++ Rt.dig 4 n).length ≤ 10 := by have := HDL.out; simp; omega
      have OL := ownW_built wr w.heap.size [0] (fun z hz => by simp at hz; omega) hsz (by simp)
      have HL := Lib.hid (show [0] ++ (List.replicate j 0 ++ Rt.dig 4 n) = List.replicate (j + 1) 0 ++ Rt.dig 4 n by rw [List.replicate_succ]; rfl)
      generalize List.replicate j 0 ++ Rt.dig 4 n = L at *
      go_wp2_with (at_builtin; go_must (refine wpList_append_ws rfl _ _ rfl w.heap.size (.slice (some ⟨wr.heap.size, 0, none⟩) 1 1) [0] rfl OL w.heap.size _ L rfl (own.alloc _) (by simp; omega) (Nat.le_trans hsz (by simp)) ?_; intro v2 w2 o2 h2))
      all_goals first | omega | skip
      go_roundw
      case rel => exact ⟨j + 1, by go_num, by omega, by rw [← HL.out]; exact o2, wgrown (only_alloc hg _) h2 (fun g hg' => by have := (OL.lt g hg').1; omega)⟩
      case measure => simp [intOf]; omega
    · obtain rfl : j = 2 * deg := by omega
      have hlen : (List.replicate (2 * deg) 0 ++ Rt.dig 4 n).length ≤ 10 := by have := HDL.out; simp; omega
      have hDg : Rt.Dg (List.replicate (2 * deg) 0 ++ Rt.dig 4 n) := fun x hx => by
        rcases List.mem_append.1 hx with hx | hx
        · exact Rt.dg_zeros _ x hx
        · exact Rt.dg_dig 4 n x hx
      generalize List.replicate (2 * deg) 0 ++ Rt.dig 4 n = L at *
      have OWN := Lib.hid own
      clear hj hjd own
      go_wp2_with fail
      all_goals first | omega | skip
      go_loopw [7, 8] (fun x i wr => ∃ b y : Nat, x = .int .u64 y ∧ i = .int .i64 ((b : Int) - 1) ∧ b ≤ 37 ∧ y < 18446744073709551616 ∧ OwnW wr w.heap.size (.slice a5 L.length c5) L ∧ Rt.rootF L deg b y = some X ∧ w.grownBy wr none) (fun _ i _ => (intOf i + 1).toNat)
      case atStart => exact ⟨37, 0, rfl, rfl, by omega, by omega, OWN.out, HX.out, hg⟩
      case round =>
        obtain ⟨b, y, rfl, rfl, hb, hy, own, hF, hg⟩ := hrel
        clear OWN HX
        cases b with
        | zero =>
          have hF : some y = some X := hF
          have hF := Option.some.inj hF
          subst hF
          have hxr := HXR.out
          have hmod : (y : Int).tmod 4294967296 = (r : Int) := by rw [Int.tmod_eq_emod_of_nonneg (by omega)]; omega
          have hw32 : IntKind.u32.wrap (r : Int) = (r : Int) := by simp only [IntKind.wrap_u32]; omega
          clear hxr HXR
          go_wp2_with fail
          all_goals first | omega | skip
          go_ret
          exact ⟨rfl, hg⟩
        | succ k =>
          have ek : ((k + 1 : Nat) : Int) - 1 = k := by omega
          rw [ek]
          clear ek
          rw [rootF_eq] at hF
          obtain ⟨z, hz⟩ : ∃ z, z = (y + 2 ^ k) % 18446744073709551616 := ⟨_, rfl⟩
          rw [← hz] at hF
          obtain ⟨q, hq⟩ : ∃ q, q = 2 ^ k := ⟨_, rfl⟩
          have hq36 : q ≤ 2 ^ 36 := by rw [hq]; exact Nat.pow_le_pow_right (by omega) (by omega)
          have h36 : 2 ^ 36 = 68719476736 := by decide
          have hqi : IntKind.u64.wrap ((2 : Int) ^ k) = (q : Int) := by
            have : ((2 : Int) ^ k) = ((2 ^ k : Nat) : Int) := by simp
            rw [this, ← hq]
            simp only [IntKind.wrap_u64]; omega
          rw [← hq] at hz
          have hzi : IntKind.u64.wrap ((y : Int) + (q : Int)) = (z : Int) := by simp only [IntKind.wrap_u64]; omega
          have hz64 : z < 18446744073709551616 := by omega
          have hDz := Rt.dg_dig 4 z
          have hlz := Rt.dig_len 4 z
          have hDZ := Lib.hid hDz
          obtain ⟨P, hP, hF⟩ : ∃ P, Rt.power (Rt.dig 4 z) (deg - 1) (Rt.dig 4 z) = some P ∧ Rt.rootF L deg k (if Rt.greater P L then y else z) = some X := by
            split at hF
            · cases hF
            · exact ⟨_, by assumption, hF⟩
          have HF := Lib.hid hF
          have HP := Lib.hid hP
          clear hF hP hz hq hq36 h36 hDz
          have hkk : (k : Int) < 64 := by omega
          go_wp2_with (go_at_call 41; refine (digits_any z hz64 _).mono ?_)
          all_goals first | omega | skip
          rintro e w4 ⟨v4, rfl, o4, h4⟩
          have g4 := only_trans hg h4
          have own4 := own.below (below_of_only h4)
          have O4 := Lib.hid (o4.mono (base' := w.heap.size) hg.size)
          clear o4 own hg h4 hzi hqi
          have HO := Lib.hid own4; clear own4
          go_wp2_with fail
          go_loopw [10, 11] (fun v i wr => ∃ (t : Nat) (p : List Nat), i = .int .i64 t ∧ 1 ≤ t ∧ t ≤ deg ∧ OwnW wr w.heap.size v p ∧ OwnW wr w.heap.size (.slice a5 L.length c5) L ∧ Rt.power (Rt.dig 4 z) (deg - t) p = some P ∧ Rt.Dg p ∧ p.length ≤ 5 * t ∧ w.grownBy wr none) (fun _ i _ => deg - (intOf i).toNat)
          case atStart => exact ⟨1, _, rfl, Nat.le_refl _, hd1, O4.out, HO.out, HP.out, hDZ.out, by omega, g4⟩
          case round =>
            obtain ⟨t, p, rfl, ht1, htd, op, oL, hpw, hDp, hlp, hg⟩ := hrel
            obtain ⟨ap, cp, rfl⟩ := op.form
            clear O4 HO HP g4
            by_cases htl : t < deg
            · obtain ⟨p2, hp2, _, hD2, hl2⟩ := Rt.prod_ok hDp hDZ.out
              have hpw2 : Rt.power (Rt.dig 4 z) (deg - (t + 1)) p2 = some P := by
                rw [show deg - t = (deg - (t + 1)) + 1 by omega] at hpw
                unfold Rt.power at hpw
                rw [hp2] at hpw
                exact hpw
              have HPW := Lib.hid hpw2
              have HP2 := Lib.hid hp2
              have HD2 := Lib.hid hD2
              have HDP := Lib.hid hDp
              clear hpw hpw2 hp2 hD2 hDp
              go_wp2_with (go_at_call 41; refine (digits_any z hz64 _).mono ?_)
              all_goals first | omega | skip
              rintro e w5 ⟨v5, rfl, o5, h5⟩
              have op5 := op.below (below_of_only h5)
              have oL5 := oL.below (below_of_only h5)
              have g5 := only_trans hg h5
              clear op oL hg h5
              go_wp2_with (go_at_call 42; refine (product_any p (Rt.dig 4 z) p2 _ _ _ _ _ op5 o5 (by omega) (by omega) HP2.out).mono ?_)
              rintro e w6 ⟨v6, rfl, o6, h6⟩
              have oL6 := oL5.below (below_of_only h6)
              have g6 := only_trans g5 h6
              have O6 := o6.mono (base' := w.heap.size) g5.size
              clear op5 oL5 g5 h6 o5 o6
              go_wp2_with fail
              all_goals first | omega | skip
              go_roundw
              case rel => exact ⟨t + 1, p2, by go_num, by omega, by omega, O6, oL6, HPW.out, HD2.out, by omega, g6⟩
              case measure => simp [intOf]; omega
            · obtain rfl : t = deg := by omega
              have hPp : p = P := by
                rw [Nat.sub_self] at hpw
                exact Option.some.inj hpw
              subst hPp
              clear hpw
              go_wp2_with (go_at_call 43; refine (greater_any p L _ _ _ _ _ op oL (by omega) (by omega)).mono ?_)
              all_goals first | omega | skip
              rintro e w7 ⟨rfl, rfl⟩
              cases hgr : Rt.greater p L
              · rw [hgr] at HF
                have HF2 := Lib.hid (show Rt.rootF L t k z = some X from HF.out)
                go_wp2_with fail
                all_goals first | omega | skip
                go_roundw
                case rel =>
                  (repeat apply Exists.intro)
                  refine ⟨?rel2, rfl⟩
                  exact ⟨k, z, rfl, by go_num, by omega, hz64, oL, HF2.out, hg⟩
                case measure => simp [intOf]
              · rw [hgr] at HF
                have HF2 := Lib.hid (show Rt.rootF L t k y = some X from HF.out)
                go_wp2_with fail
                all_goals first | omega | skip
                go_roundw
                case rel =>
                  (repeat apply Exists.intro)
                  refine ⟨?rel3, rfl⟩
                  exact ⟨k, y, rfl, by go_num, by omega, hy, oL, HF2.out, hg⟩
                case measure => simp [intOf]
end Go.Proofs.YtgalddnblciciaaDoor
