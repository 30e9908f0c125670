/- The reference's digits, greater. -/
import Derived.Test.YtgalddnblciciaaDoorRtA
namespace Go.Proofs.YtgalddnblciciaaDoor
open Go.RowKit Go.Deep

theorem wgrown {w w2 w3 : World} {o : Option Nat} (h : w.grownBy w2 none) (k : w2.grownBy w3 o) (ho : ∀ g, o = some g → w.heap.size ≤ g) : w.grownBy w3 none :=
  ⟨k.os.trans h.os, k.tape.trans h.tape, k.output.trans h.output, Nat.le_trans h.size k.size, fun i hi _ => (k.block i (Nat.lt_of_lt_of_le hi h.size) (fun e => by have := ho i e.symm; omega)).trans (h.block i hi (by simp))⟩
/-- What a call returns: words of its own. -/
def RetW (l : List Nat) (w : World) (e : Ending) (w' : World) : Prop := ∃ v, e = .returned v ∧ OwnW w' w.heap.size v l ∧ w.grownBy w' none

set_option maxRecDepth 100000 in
set_option maxHeartbeats 4000000 in
theorem digits_any (x : Nat) (hx : x < 18446744073709551616) (w : World) : Calls Tryd.prog 41 #[.int .u64 x] w (RetW (Rt.dig 4 x) w) := by
  generalize hR : Rt.dig 4 x = R
  have HR := Lib.hid hR; clear hR
  go_enter Tryd.func41, Tryd.ntmps41
  go_wp2_with fail
  go_loopw [0, 3] (fun x0 x3 wr => ∃ (y f : Nat) (l : List Nat), x0 = .int .u64 y ∧ y < 18446744073709551616 ∧ OwnW wr w.heap.size x3 l ∧ l ++ Rt.dig f y = R ∧ y < 65536 ^ f ∧ l.length + f ≤ 4 ∧ w.grownBy wr none) (fun x0 _ _ => (intOf x0).toNat)
  case atStart => exact ⟨x, 4, [], rfl, hx, OwnW.nil _ _, HR.out, by omega, by simp, only_refl _ _⟩
  case round =>
    obtain ⟨y, f, l, rfl, hy, own, hR, hyf, hlf, hg⟩ := hrel
    clear HR hx
    obtain ⟨va, vc, rfl⟩ := own.form
    by_cases hy0 : y = 0
    · subst hy0
      have hRl : l = R := by
        rw [← hR]
        cases f <;> simp [Rt.dig]
      clear hR
      go_wp2_with fail
      go_ret
      exact ⟨_, rfl, by rw [← hRl]; exact own, hg⟩
    · cases f with
      | zero => simp at hyf; omega
      | succ f =>
        have hD : l ++ [y % 65536] ++ Rt.dig f (y / 65536) = R := by
          rw [← hR, show Rt.dig (f + 1) y = if y = 0 then [] else (y % 65536) :: Rt.dig f (y / 65536) from rfl, if_neg hy0]
          simp
        have HD := Lib.hid hD
        have hyq : y / 65536 < 65536 ^ f := by rw [Nat.pow_succ] at hyf; exact Nat.div_lt_of_lt_mul (by rwa [Nat.mul_comm] at hyf)
        have HQ := Lib.hid hyq
        clear hD hR hyf hyq
        have hsz := hg.size
        have hl4 : l.length ≤ 4 := by omega
        have OL := ownW_built wr w.heap.size [y % 65536] (fun z hz => by simp at hz; omega) hsz (by simp)
        go_wp2_with (at_builtin; go_must (refine wpList_append_ws rfl _ _ rfl w.heap.size (.slice va l.length vc) l rfl (own.alloc _) w.heap.size _ [y % 65536] rfl OL (by simp; omega) (Nat.le_trans hsz (by simp)) ?_; intro v2 w2 o2 h2))
        all_goals first | omega | skip
        go_roundw
        case rel =>
          exact ⟨y / 65536, f, l ++ [y % 65536], by go_num, by omega, o2, HD.out, HQ.out, by simp; omega, wgrown (only_alloc hg _) h2 (fun g hg' => by have := (own.lt g hg').1; omega)⟩
        case measure => simp [intOf]; omega
set_option maxRecDepth 100000 in
set_option maxHeartbeats 4000000 in
theorem greater_any (a b : List Nat) (ba bb : Nat) (va vb : Value) (w : World) (ha : OwnW w ba va a) (hb : OwnW w bb vb b) (hla : a.length ≤ 1000) (hlb : b.length ≤ 1000) :
    Calls Tryd.prog 43 #[va, vb] w fun e w' => e = .returned (.bool (Rt.greater a b)) ∧ w' = w := by
  obtain ⟨a1, c1, rfl⟩ := ha.form
  obtain ⟨a2, c2, rfl⟩ := hb.form
  generalize hR : Rt.greater a b = R
  have HR := Lib.hid hR; clear hR
  have HA := Lib.hid ha; clear ha
  have HB := Lib.hid hb; clear hb
  obtain ⟨m, hm⟩ : ∃ m, m = max a.length b.length := ⟨_, rfl⟩
  have hm1 : m ≤ 1000 := by omega
  have hma : a.length ≤ m := by omega
  have hmb : b.length ≤ m := by omega
  have HM := Lib.hid (show Rt.grt a b m = R by rw [hm]; exact HR.out)
  have hcase : (a.length < b.length ∧ m = b.length) ∨ (b.length ≤ a.length ∧ m = a.length) := by omega
  clear hm HR
  go_enter Tryd.func43, Tryd.ntmps43
  rcases hcase with ⟨hab, hmm⟩ | ⟨hab, hmm⟩
  all_goals (
    have HMM := Lib.hid hmm; clear hmm
    go_wp2_with fail
    all_goals first | omega | skip
    go_loop [5] (fun x => ∃ j : Nat, x = .int .i64 ((j : Int) - 1) ∧ j ≤ m ∧ Rt.grt a b j = R) (fun x => (intOf x + 1).toNat)
    case atStart => exact ⟨m, by rw [HMM.out], Nat.le_refl _, HM.out⟩
    case round =>
      obtain ⟨j, rfl, hj, hR⟩ := hrel
      clear HM HMM hab
      cases j with
      | zero =>
        have hR : false = R := hR
        subst hR
        go_wp2_with fail
        all_goals first | omega | skip
        go_ret
        exact ⟨rfl, rfl⟩
      | succ k =>
        have hR : (if a.getD k 0 = b.getD k 0 then Rt.grt a b k else decide (b.getD k 0 < a.getD k 0)) = R := hR
        have ek : ((k + 1 : Nat) : Int) - 1 = k := by omega
        rw [ek]
        clear ek
        have HR := Lib.hid hR; clear hR
        by_cases hka : k < a.length
        · obtain ⟨g1, rfl, _, _, hcA⟩ := HA.out.at hka
          have hc1 := hcA k hka
          clear hcA
          by_cases hkb : k < b.length
          · obtain ⟨g2, rfl, _, _, hcB⟩ := HB.out.at hkb
            have hc2 := hcB k hkb
            clear hcB
            generalize a.getD k 0 = x at hc1 HR
            generalize b.getD k 0 = y at hc2 HR
            by_cases hxy : x = y
            · subst hxy
              have hR2 := Lib.hid (show Rt.grt a b k = R by have := HR.out; rwa [if_pos rfl] at this)
              go_wp2_with fail
              all_goals first | omega | skip
              go_round
              case rel => exact ⟨k, rfl, by omega, hR2.out⟩
              case measure => simp [intOf]
            · have hR2 : decide (y < x) = R := by have := HR.out; rwa [if_neg hxy] at this
              clear HR
              go_wp2_with fail
              all_goals first | omega | skip
              go_ret
              exact ⟨by rw [← hR2]; congr 2, rfl⟩
          · have ey : b.getD k 0 = 0 := by simp [List.getD, List.getElem?_eq_none (Nat.not_lt.1 hkb)]
            rw [ey] at HR
            clear ey
            generalize a.getD k 0 = x at hc1 HR
            by_cases hxy : x = 0
            · subst hxy
              have hR2 := Lib.hid (show Rt.grt a b k = R by have := HR.out; rwa [if_pos rfl] at this)
              go_wp2_with fail
              all_goals first | omega | skip
              go_round
              case rel => exact ⟨k, rfl, by omega, hR2.out⟩
              case measure => simp [intOf]
            · have hR2 : decide (0 < x) = R := by have := HR.out; rwa [if_neg hxy] at this
              clear HR
              go_wp2_with fail
              all_goals first | omega | skip
              go_ret
              exact ⟨by rw [← hR2]; congr 2, rfl⟩
        · have hkb : k < b.length ∨ b.length ≤ k := by omega
          have ex : a.getD k 0 = 0 := by simp [List.getD, List.getElem?_eq_none (Nat.not_lt.1 hka)]
          rw [ex] at HR
          clear ex
          rcases hkb with hkb | hkb
          · obtain ⟨g2, rfl, _, _, hcB⟩ := HB.out.at hkb
            have hc2 := hcB k hkb
            clear hcB
            generalize b.getD k 0 = y at hc2 HR
            by_cases hxy : 0 = y
            · subst hxy
              have hR2 := Lib.hid (show Rt.grt a b k = R by have := HR.out; rwa [if_pos rfl] at this)
              go_wp2_with fail
              all_goals first | omega | skip
              go_round
              case rel => exact ⟨k, rfl, by omega, hR2.out⟩
              case measure => simp [intOf]
            · have hR2 : decide (y < 0) = R := by have := HR.out; rwa [if_neg hxy] at this
              clear HR
              go_wp2_with fail
              all_goals first | omega | skip
              go_ret
              exact ⟨by rw [← hR2]; congr 2, rfl⟩
          · have ey : b.getD k 0 = 0 := by simp [List.getD, List.getElem?_eq_none hkb]
            rw [ey] at HR
            have hR2 := Lib.hid (show Rt.grt a b k = R by have := HR.out; rwa [if_pos rfl] at this)
            go_wp2_with fail
            all_goals first | omega | skip
            go_round
            case rel => exact ⟨k, rfl, by omega, hR2.out⟩
            case measure => simp [intOf])
end Go.Proofs.YtgalddnblciciaaDoor
