/- Any ticket and authenticator have the bytes of the reference implementation, which lead back to them, or are refused at the limits: for every pair of numbers and choice the law returns true. The variable sha.constants reads as the program's text lays it. -/
import Derived.Test.YtnhchdkchohnbaaDoorReqH
namespace Go.Proofs.YtnhchdkchohnbaaDoor
open Go.ChangeShapes Go.WideShapes Go.ChangeAt Go.RowKit Go.Deep

/-- What the choice makes of the numbers. -/
def Chosen (n m c X Y x0 y0 r : Nat) : Prop :=
  (((c : Int) == 1) = false ∧ ((c : Int) == 2) = false ∧ (n : Int).tmod 300 = (X : Int) ∧ (m : Int).tmod 300 = (Y : Int)) ∨
  (c = 1 ∧ (n : Int).tmod 300 = (x0 : Int) ∧ (m : Int).tmod 300 = (y0 : Int) ∧ (n : Int).tmod 60 = (r : Int) ∧ IntKind.i64.wrap (65500 + (r : Int)) = (X : Int) ∧ (m : Int).tmod 60 = (Y : Int)) ∨
  (c = 2 ∧ (n : Int).tmod 300 = (x0 : Int) ∧ (m : Int).tmod 300 = (y0 : Int) ∧ (n : Int).tmod 60 = (r : Int) ∧ IntKind.i64.wrap (65500 + (r : Int)) = (Y : Int) ∧ (m : Int).tmod 60 = (X : Int))
theorem chosen (n m l : Nat) (_hn : n < 65536) (_hm : m < 65536) : ∃ X Y x0 y0 r, X ≤ 1000000 ∧ Y ≤ 1000000 ∧ Chosen n m (l % 4) X Y x0 y0 r := by
  have e (a b : Nat) : (a : Int).tmod (b : Int) = ((a % b : Nat) : Int) := by rw [Int.tmod_eq_emod_of_nonneg (by omega)]; omega
  have w1 : IntKind.i64.wrap (65500 + ((n % 60 : Nat) : Int)) = ((65500 + n % 60 : Nat) : Int) := by simp only [IntKind.wrap_i64]; omega
  by_cases h1 : l % 4 = 1
  · exact ⟨65500 + n % 60, m % 60, n % 300, m % 300, n % 60, by omega, by omega, .inr (.inl ⟨h1, e n 300, e m 300, e n 60, w1, e m 60⟩)⟩
  · by_cases h2 : l % 4 = 2
    · exact ⟨m % 60, 65500 + n % 60, n % 300, m % 300, n % 60, by omega, by omega, .inr (.inr ⟨h2, e n 300, e m 300, e n 60, w1, e m 60⟩)⟩
    · exact ⟨n % 300, m % 300, 0, 0, 0, by omega, by omega, .inl ⟨by rw [beq_eq_false_iff_ne]; omega, by rw [beq_eq_false_iff_ne]; omega, e n 300, e m 300⟩⟩
set_option maxRecDepth 100000 in
set_option maxHeartbeats 20000000 in
theorem requestBytes_all (w : World) (n m : Nat) (hn : n < 65536) (hm : m < 65536) (l : Nat) (hl : l < 256) (hK : Consts w Sha.tab) : Calls Tryd.prog 11 #[.int .u16 (n : Int), .int .u16 (m : Int), .int .u8 (l : Int)] w (RetBool true w) := by
  have HK := Lib.hid hK; clear hK
  have vn : IntKind.i64.wrap (n : Int) = (n : Int) := by simp only [IntKind.wrap_i64]; omega
  have vm : IntKind.i64.wrap (m : Int) = (m : Int) := by simp only [IntKind.wrap_i64]; omega
  obtain ⟨X, Y, x0, y0, r, hnX, hnY, hch⟩ := chosen n m l hn hm
  obtain ⟨c, hc⟩ : ∃ c, c = l % 4 := ⟨_, rfl⟩
  have vc : (l : Int).tmod 4 = (c : Int) := by rw [Int.tmod_eq_emod_of_nonneg (by omega)]; omega
  rw [← hc] at hch
  clear hc
  rcases hch with ⟨c1, c2, vx, vy⟩ | ⟨rfl, vx, vy, vr, va, vb⟩ | ⟨rfl, vx, vy, vr, va, vb⟩
  all_goals (
    go_enter Tryd.func11, Tryd.ntmps11
    go_wp2_with fail
    refine (awake_rq _ HK.out).mono ?_
    rintro e W1 ⟨rfl, hb1⟩
    have G1 := only_of_below hb1 none
    clear hb1
    go_wp2_with fail
    generalize hV : W1 = V at *
    clear hV
    refine wp_reg Tryd.f11 12 7 (fun w' => Below V.heap.size V w') (by kernel_rfl) (by kernel_rfl) (by kernel_rfl) (below_drewN (Below.refl _ _) 1) (fun K hK h0 => ?_)
    refine reg_cast (listed' := #[false, false, false, false, false, false, false]) (by kernel_rfl) rfl ?_
    have HF := Lib.hid hK; clear hK
    refine reg_cut (α := Nat × Nat × Nat) 1 #[true, true, true, true, true, true, false] (fun a x => (((((a.put (some 44) (.int .i64 (X : Int))).put (some 45) (.slice (some ⟨x.2.1, 0, none⟩) X X)).put (some 46) (.int .i64 (Y : Int))).put (some 47) (.slice (some ⟨x.2.2, 0, none⟩) Y Y)).put (some 48) (.agg #[.slice (some ⟨x.2.1, 0, none⟩) X X, .slice (some ⟨x.2.2, 0, none⟩) Y Y])).put (some 9) (.pointer (some ⟨x.1, 0, none⟩)))
      (fun x w' => Below V.heap.size V w' ∧ V.heap.size ≤ x.1 ∧ Hq w' x.1 ∧ Own w' V.heap.size (.slice (some ⟨x.2.1, 0, none⟩) X X) (List.replicate X 0) ∧ Own w' V.heap.size (.slice (some ⟨x.2.2, 0, none⟩) Y Y) (List.replicate Y 0)) (fun x w2 hc => ?_) (fun CUT => ?_)
    rotate_left
    · simp only [Act.put, List.setIfInBounds_toArray, List.set_cons_zero, List.set_cons_succ] at CUT
      refine reg_take 0 44 (.int .i64 (X : Int)) (by kernel_rfl) (fun _ _ => by kernel_rfl) h0 ?_
      simp only [Act.put, List.setIfInBounds_toArray, List.set_cons_zero, List.set_cons_succ]
      refine reg_take 2 46 (.int .i64 (Y : Int)) (by kernel_rfl) (fun _ _ => by kernel_rfl) h0 ?_
      simp only [Act.put, List.setIfInBounds_toArray, List.set_cons_zero, List.set_cons_succ]
      refine reg_three 1 3 5 (by kernel_rfl) (by kernel_rfl) (HStep.make (some 45) (by kernel_rfl) (by kernel_rfl) (.tmp 44) (by kernel_rfl) X (by kernel_rfl) hnX (fun w' k => h0.trans (k.mono h0.size)) ?_) (HStep.make (some 47) (by kernel_rfl) (by kernel_rfl) (.tmp 46) (by kernel_rfl) Y (by kernel_rfl) hnY (fun w' k => h0.trans (k.mono h0.size)) ?_) (HStep.row (some 9) (by kernel_rfl) (by kernel_rfl) (by kernel_rfl) (fun w' k => h0.trans (k.mono h0.size)) ?_)
      · intro w1 g1 hb_1 oX
        have oX := oX.mono h0.size
        have h_1 := h0.trans (hb_1.mono h0.size)
        simp only [Act.put, List.setIfInBounds_toArray, List.set_cons_zero, List.set_cons_succ]
        refine reg_two 3 5 (by kernel_rfl) (by kernel_rfl) (HStep.make (some 47) (by kernel_rfl) (by kernel_rfl) (.tmp 46) (by kernel_rfl) Y (by kernel_rfl) hnY (fun w' k => h_1.trans (k.mono h_1.size)) ?_) (HStep.row (some 9) (by kernel_rfl) (by kernel_rfl) (by kernel_rfl) (fun w' k => h_1.trans (k.mono h_1.size)) ?_)
        · intro w2 g2 hb_2 oY
          have oY := oY.mono h_1.size
          have h_2 := h_1.trans (hb_2.mono h_1.size)
          have oX := oX.below hb_2
          simp only [Act.put, List.setIfInBounds_toArray, List.set_cons_zero, List.set_cons_succ]
          refine reg_take 4 48 (.agg #[.slice (some ⟨g1, 0, none⟩) X X, .slice (some ⟨g2, 0, none⟩) Y Y]) (by kernel_rfl) (fun _ _ => by kernel_rfl) h_2 ?_
          simp only [Act.put, List.setIfInBounds_toArray, List.set_cons_zero, List.set_cons_succ]
          refine reg_one 5 (by kernel_rfl) (by kernel_rfl) (HStep.row (some 9) (by kernel_rfl) (by kernel_rfl) (by kernel_rfl) (fun w' k => h_2.trans (k.mono h_2.size)) ?_)
          intro w3 g3 hge hb_3 hq
          have hgV := Nat.le_trans h_2.size hge
          have h_3 := h_2.trans (hb_3.mono h_2.size)
          have oX := oX.below hb_3
          have oY := oY.below hb_3
          simp only [Act.put, List.setIfInBounds_toArray, List.set_cons_zero, List.set_cons_succ]
          exact reg_cast (by kernel_rfl) rfl (CUT (g3, g1, g2) w3 ⟨h_3, hgV, hq, oX, oY⟩)
        · intro w4 g4 hge hb_4 hq
          have hgV := Nat.le_trans h_1.size hge
          have h_4 := h_1.trans (hb_4.mono h_1.size)
          have oX := oX.below hb_4
          simp only [Act.put, List.setIfInBounds_toArray, List.set_cons_zero, List.set_cons_succ]
          refine reg_one 3 (by kernel_rfl) (by kernel_rfl) (HStep.make (some 47) (by kernel_rfl) (by kernel_rfl) (.tmp 46) (by kernel_rfl) Y (by kernel_rfl) hnY (fun w' k => h_4.trans (k.mono h_4.size)) ?_)
          intro w5 g5 hb_5 oY
          have oY := oY.mono h_4.size
          have h_5 := h_4.trans (hb_5.mono h_4.size)
          have oX := oX.below hb_5
          have hq := hq.below hb_5
          simp only [Act.put, List.setIfInBounds_toArray, List.set_cons_zero, List.set_cons_succ]
          refine reg_take 4 48 (.agg #[.slice (some ⟨g1, 0, none⟩) X X, .slice (some ⟨g5, 0, none⟩) Y Y]) (by kernel_rfl) (fun _ _ => by kernel_rfl) h_5 ?_
          simp only [Act.put, List.setIfInBounds_toArray, List.set_cons_zero, List.set_cons_succ]
          exact reg_cast (by kernel_rfl) rfl (CUT (g4, g1, g5) w5 ⟨h_5, hgV, hq, oX, oY⟩)
      · intro w6 g6 hb_6 oY
        have oY := oY.mono h0.size
        have h_6 := h0.trans (hb_6.mono h0.size)
        simp only [Act.put, List.setIfInBounds_toArray, List.set_cons_zero, List.set_cons_succ]
        refine reg_two 1 5 (by kernel_rfl) (by kernel_rfl) (HStep.make (some 45) (by kernel_rfl) (by kernel_rfl) (.tmp 44) (by kernel_rfl) X (by kernel_rfl) hnX (fun w' k => h_6.trans (k.mono h_6.size)) ?_) (HStep.row (some 9) (by kernel_rfl) (by kernel_rfl) (by kernel_rfl) (fun w' k => h_6.trans (k.mono h_6.size)) ?_)
        · intro w7 g7 hb_7 oX
          have oX := oX.mono h_6.size
          have h_7 := h_6.trans (hb_7.mono h_6.size)
          have oY := oY.below hb_7
          simp only [Act.put, List.setIfInBounds_toArray, List.set_cons_zero, List.set_cons_succ]
          refine reg_take 4 48 (.agg #[.slice (some ⟨g7, 0, none⟩) X X, .slice (some ⟨g6, 0, none⟩) Y Y]) (by kernel_rfl) (fun _ _ => by kernel_rfl) h_7 ?_
          simp only [Act.put, List.setIfInBounds_toArray, List.set_cons_zero, List.set_cons_succ]
          refine reg_one 5 (by kernel_rfl) (by kernel_rfl) (HStep.row (some 9) (by kernel_rfl) (by kernel_rfl) (by kernel_rfl) (fun w' k => h_7.trans (k.mono h_7.size)) ?_)
          intro w8 g8 hge hb_8 hq
          have hgV := Nat.le_trans h_7.size hge
          have h_8 := h_7.trans (hb_8.mono h_7.size)
          have oY := oY.below hb_8
          have oX := oX.below hb_8
          simp only [Act.put, List.setIfInBounds_toArray, List.set_cons_zero, List.set_cons_succ]
          exact reg_cast (by kernel_rfl) rfl (CUT (g8, g7, g6) w8 ⟨h_8, hgV, hq, oX, oY⟩)
        · intro w9 g9 hge hb_9 hq
          have hgV := Nat.le_trans h_6.size hge
          have h_9 := h_6.trans (hb_9.mono h_6.size)
          have oY := oY.below hb_9
          simp only [Act.put, List.setIfInBounds_toArray, List.set_cons_zero, List.set_cons_succ]
          refine reg_one 1 (by kernel_rfl) (by kernel_rfl) (HStep.make (some 45) (by kernel_rfl) (by kernel_rfl) (.tmp 44) (by kernel_rfl) X (by kernel_rfl) hnX (fun w' k => h_9.trans (k.mono h_9.size)) ?_)
          intro w10 g10 hb_10 oX
          have oX := oX.mono h_9.size
          have h_10 := h_9.trans (hb_10.mono h_9.size)
          have oY := oY.below hb_10
          have hq := hq.below hb_10
          simp only [Act.put, List.setIfInBounds_toArray, List.set_cons_zero, List.set_cons_succ]
          refine reg_take 4 48 (.agg #[.slice (some ⟨g10, 0, none⟩) X X, .slice (some ⟨g6, 0, none⟩) Y Y]) (by kernel_rfl) (fun _ _ => by kernel_rfl) h_10 ?_
          simp only [Act.put, List.setIfInBounds_toArray, List.set_cons_zero, List.set_cons_succ]
          exact reg_cast (by kernel_rfl) rfl (CUT (g9, g10, g6) w10 ⟨h_10, hgV, hq, oX, oY⟩)
      · intro w11 g11 hge hb_11 hq
        have hgV := Nat.le_trans h0.size hge
        have h_11 := h0.trans (hb_11.mono h0.size)
        simp only [Act.put, List.setIfInBounds_toArray, List.set_cons_zero, List.set_cons_succ]
        refine reg_two 1 3 (by kernel_rfl) (by kernel_rfl) (HStep.make (some 45) (by kernel_rfl) (by kernel_rfl) (.tmp 44) (by kernel_rfl) X (by kernel_rfl) hnX (fun w' k => h_11.trans (k.mono h_11.size)) ?_) (HStep.make (some 47) (by kernel_rfl) (by kernel_rfl) (.tmp 46) (by kernel_rfl) Y (by kernel_rfl) hnY (fun w' k => h_11.trans (k.mono h_11.size)) ?_)
        · intro w12 g12 hb_12 oX
          have oX := oX.mono h_11.size
          have h_12 := h_11.trans (hb_12.mono h_11.size)
          have hq := hq.below hb_12
          simp only [Act.put, List.setIfInBounds_toArray, List.set_cons_zero, List.set_cons_succ]
          refine reg_one 3 (by kernel_rfl) (by kernel_rfl) (HStep.make (some 47) (by kernel_rfl) (by kernel_rfl) (.tmp 46) (by kernel_rfl) Y (by kernel_rfl) hnY (fun w' k => h_12.trans (k.mono h_12.size)) ?_)
          intro w13 g13 hb_13 oY
          have oY := oY.mono h_12.size
          have h_13 := h_12.trans (hb_13.mono h_12.size)
          have hq := hq.below hb_13
          have oX := oX.below hb_13
          simp only [Act.put, List.setIfInBounds_toArray, List.set_cons_zero, List.set_cons_succ]
          refine reg_take 4 48 (.agg #[.slice (some ⟨g12, 0, none⟩) X X, .slice (some ⟨g13, 0, none⟩) Y Y]) (by kernel_rfl) (fun _ _ => by kernel_rfl) h_13 ?_
          simp only [Act.put, List.setIfInBounds_toArray, List.set_cons_zero, List.set_cons_succ]
          exact reg_cast (by kernel_rfl) rfl (CUT (g11, g12, g13) w13 ⟨h_13, hgV, hq, oX, oY⟩)
        · intro w14 g14 hb_14 oY
          have oY := oY.mono h_11.size
          have h_14 := h_11.trans (hb_14.mono h_11.size)
          have hq := hq.below hb_14
          simp only [Act.put, List.setIfInBounds_toArray, List.set_cons_zero, List.set_cons_succ]
          refine reg_one 1 (by kernel_rfl) (by kernel_rfl) (HStep.make (some 45) (by kernel_rfl) (by kernel_rfl) (.tmp 44) (by kernel_rfl) X (by kernel_rfl) hnX (fun w' k => h_14.trans (k.mono h_14.size)) ?_)
          intro w15 g15 hb_15 oX
          have oX := oX.mono h_14.size
          have h_15 := h_14.trans (hb_15.mono h_14.size)
          have hq := hq.below hb_15
          have oY := oY.below hb_15
          simp only [Act.put, List.setIfInBounds_toArray, List.set_cons_zero, List.set_cons_succ]
          refine reg_take 4 48 (.agg #[.slice (some ⟨g15, 0, none⟩) X X, .slice (some ⟨g14, 0, none⟩) Y Y]) (by kernel_rfl) (fun _ _ => by kernel_rfl) h_15 ?_
          simp only [Act.put, List.setIfInBounds_toArray, List.set_cons_zero, List.set_cons_succ]
          exact reg_cast (by kernel_rfl) rfl (CUT (g11, g15, g14) w15 ⟨h_15, hgV, hq, oX, oY⟩)
    obtain ⟨g, gx, gy⟩ := x
    obtain ⟨hb2, hgV, hq, oX, oY⟩ := hc
    dsimp only at hb2 hgV hq oX oY ⊢
    simp only [Act.put, List.setIfInBounds_toArray, List.set_cons_zero, List.set_cons_succ]
    have RW := Hb.row hq #[.slice (some ⟨gx, 0, none⟩) X X, .slice (some ⟨gy, 0, none⟩) Y Y]
    have hb3 := below_of_only (grown_new (only_of_below hb2 none) RW.2 hgV)
    have oX3 := oX.only RW.2 (.inr (oX.sep hq (by decide)))
    have oY3 := oY.only RW.2 (.inr (oY.sep hq (by decide)))
    have q3 := RW.1
    refine reg_one 6 (by kernel_rfl) (by kernel_rfl) (HStep.of_law #[] (by kernel_rfl) (fun K' hK' => wpList_store_rowTo rfl 68 (.tmp 9) (.tmp 48) (by kernel_rfl) (by kernel_rfl) g #[.slice (some ⟨gx, 0, none⟩) X X, .slice (some ⟨gy, 0, none⟩) Y Y] (by kernel_rfl) (by kernel_rfl) _ _ hq (info_rq _ _) rfl (rq_one _ _ rfl rfl) (lawQ_done (hK' _ _ hb3 ?_))))
    simp only [List.setIfInBounds_toArray, List.set_cons_zero, List.set_cons_succ]
    refine reg_done (by kernel_rfl) (HF.out _ _ ?_)
    generalize World.setRow _ g _ = W3 at *
    have G3 := only_trans G1 (only_of_below hb3 none)
    have lx : (List.replicate X 0).length = X := List.length_replicate
    have ly : (List.replicate Y 0).length = Y := List.length_replicate
    generalize List.replicate X 0 = LX at *
    generalize List.replicate Y 0 = LY at *
    have T3 : Qb W3 g _ LX _ LY := ⟨q3, oX3.bs.rs, oY3.bs.rs⟩
    have hsx : LX.length ≤ 1000000 := by omega
    have hsy : LY.length ≤ 1000000 := by omega
    have v7 : IntKind.i64.wrap (7 + (X : Int)) = 7 + (X : Int) := by simp only [IntKind.wrap_i64]; omega
    have v8 : IntKind.i64.wrap (7 + (X : Int) + (Y : Int)) = 7 + (X : Int) + (Y : Int) := by simp only [IntKind.wrap_i64]; omega
    have v9 : ((7 + LX.length + LY.length : Nat) : Int) = 7 + (X : Int) + (Y : Int) := by omega
    have V9 := Lib.hid v9
    have LL := Lib.hid (And.intro lx ly)
    clear v9 lx ly G1
    go_wp2_with (refine wpList_load_row rfl _ _ rfl g rfl _ _ (0, 0) _ T3.1 rfl rfl (info_rq _ _) ?_)
    refine (rqbytes_any _ _ LX LY W3 T3.2.1 T3.2.2 (by have := LL.out; omega) (by have := LL.out; omega)).mono ?_
    rintro e w4 ⟨hb4, ht4⟩
    have T4 := T3.below hb4
    have G4 := only_trans G3 (only_of_below hb4 none)
    have c0 := T4.c0
    have c1 := T4.c1
    clear T3 G3
    rcases ht4 with ⟨hR, rfl⟩ | ⟨b, v4, hR, rfl, o4⟩
    · have HR := Lib.hid hR
      clear hR hb4
      go_wp2_with fail
      refine (refrqbytes_any _ _ LX LY w4 T4.2.1 T4.2.2 (by have := LL.out; omega) (by have := LL.out; omega)).mono ?_
      rintro e w5 ⟨hb5, ht5⟩
      rw [HR.out] at ht5
      rcases ht5 with ⟨_, rfl⟩ | ⟨_, _, hno, _⟩
      rotate_left
      · cases hno
      have T5 := T4.below hb5
      have G5 := only_trans G4 (only_of_below hb5 none)
      clear T4 G4 c0 c1 hb5
      go_wp2_with fail
      refine (same_yes _ _ [] w5 (Rs.nil _) (Rs.nil _)).mono ?_
      rintro e w6 ⟨rfl, hb6⟩
      have T6 := T5.below hb6
      have G6 := only_trans G5 (only_of_below hb6 none)
      clear T5 G5 hb6
      go_wp2_with (refine wpList_load_rowG (by kernel_rfl) _ _ rfl g rfl _ _ (0, 0) _ T6.1 rfl rfl (info_rq _ _) ?_)
      refine (rqsize_any _ _ LX LY w6 T6.2.1 T6.2.2 (by have := LL.out; omega) (by have := LL.out; omega)).mono ?_
      rintro e w7 ⟨rfl, g7⟩
      rw [V9.out]
      have G7 := only_trans G6 g7
      clear T6 G6 g7
      go_wp2_with fail
      refine (rqparse_any _ [] w7 (Rs.nil _) (by simp)).mono ?_
      rintro e w8 ⟨hb8, u8, v8', x, y, rfl, ox, oy, hxy⟩
      rw [show Req.parse [] = none from (Req.parse_ref (by simp)).trans (Req.refParse_head (.inl (by simp)))]
      obtain ⟨ua, uc, rfl⟩ := ox.form
      obtain ⟨va, vc, rfl⟩ := oy.form
      have F := fresh_row w8 #[.slice none 0 0, .slice none 0 0] #[.slice ua x.length uc, .slice va y.length vc] 68
      have G9 := only_trans (only_trans G7 (only_of_below hb8 none)) F.2
      clear ox oy hxy G7
      go_upto_region 18 with (refine wpList_store_rowTo rfl _ _ _ rfl rfl w8.heap.size _ rfl rfl _ _ (heap_alloc_new _ _) (info_rq _ _) (by rfl) (rq_one _ _ rfl rfl) ?_)
      generalize World.setRow _ w8.heap.size _ = W9 at *
      clear F hb8
      go_wp2_with fail
      go_ret
      exact ⟨rfl, below_of_only G9⟩
    · obtain ⟨xb, yb, rfl⟩ := o4.form
      have HR := Lib.hid hR
      have O4 := Lib.hid o4.bs.rs
      clear hR hb4 o4
      go_wp2_with fail
      refine (refrqbytes_any _ _ LX LY w4 T4.2.1 T4.2.2 (by have := LL.out; omega) (by have := LL.out; omega)).mono ?_
      rintro e w5 ⟨hb5, ht5⟩
      rw [HR.out] at ht5
      rcases ht5 with ⟨hno, _⟩ | ⟨b', v5, hb', rfl, o5⟩
      · cases hno
      cases hb'
      obtain ⟨x5, y5, rfl⟩ := o5.form
      have T5 := T4.below hb5
      have G5 := only_trans G4 (only_of_below hb5 none)
      have O5 := Lib.hid (O4.out.below hb5)
      have P5 := Lib.hid o5.bs.rs
      clear T4 G4 c0 c1 hb5 O4 o5
      go_wp2_with fail
      refine (same_yes _ _ b w5 O5.out P5.out).mono ?_
      rintro e w6 ⟨rfl, hb6⟩
      have T6 := T5.below hb6
      have G6 := only_trans G5 (only_of_below hb6 none)
      have O6 := Lib.hid (O5.out.below hb6)
      clear T5 G5 hb6 O5 P5
      go_wp2_with (refine wpList_load_rowG (by kernel_rfl) _ _ rfl g rfl _ _ (0, 0) _ T6.1 rfl rfl (info_rq _ _) ?_)
      refine (rqsize_any _ _ LX LY w6 T6.2.1 T6.2.2 (by have := LL.out; omega) (by have := LL.out; omega)).mono ?_
      rintro e w7 ⟨rfl, g7⟩
      rw [V9.out]
      have G7 := only_trans G6 g7
      have O7 := Lib.hid (O6.out.below (below_of_only g7))
      clear T6 G6 g7 O6
      go_wp2_with fail
      refine (rqparse_any _ b w7 O7.out (by have := (Req.bytes_some HR.out).2.2; have := LL.out; omega)).mono ?_
      rintro e w8 ⟨hb8, u8, v8', x, y, rfl, ox, oy, hxy⟩
      rw [Req.parse_bytes HR.out] at hxy ⊢
      obtain ⟨rfl, rfl⟩ : x = LX ∧ y = LY := by injection hxy with h1 h2; exact ⟨h1, h2⟩
      obtain ⟨ua, uc, rfl⟩ := ox.form
      obtain ⟨va, vc, rfl⟩ := oy.form
      have F := fresh_row w8 #[.slice none 0 0, .slice none 0 0] #[.slice ua x.length uc, .slice va y.length vc] 68
      have G9 := only_trans (only_trans G7 (only_of_below hb8 none)) F.2
      have Q9 := F.1
      clear ox oy hxy G7
      go_upto_region 18 with (refine wpList_store_rowTo rfl _ _ _ rfl rfl w8.heap.size _ rfl rfl _ _ (heap_alloc_new _ _) (info_rq _ _) (by rfl) (rq_one _ _ rfl rfl) ?_)
      generalize World.setRow _ w8.heap.size _ = W9 at *
      generalize w8.heap.size = b8 at *
      clear F hb8
      have d0 : W9.cell? ⟨b8, 0, none⟩ = some (.slice ua x.length uc) := Q9.cell (i := 0) rfl
      have d1 : W9.cell? ⟨b8, 1, none⟩ = some (.slice va y.length vc) := Q9.cell (i := 1) rfl
      have lx := LL.out.1
      have ly := LL.out.2
      go_wp2_with fail
      go_ret
      exact ⟨rfl, below_of_only G9⟩)
theorem u16_range {a : Int} (h : (Lit.int .u16 a).wf = true) : 0 ≤ a ∧ a < 65536 := by
  have := bounds_u16 h
  omega
theorem requestBytes_walk (n : Int) (wn : (Lit.int .u16 n).wf = true) (m : Int) (wm : (Lit.int .u16 m).wf = true) (l : Int) (wl : (Lit.int .u8 l).wf = true) (w : World) (hK : Consts w Sha.tab) :
    Calls Tryd.prog 11 #[.int .u16 n, .int .u16 m, .int .u8 l] w (RetBool true w) := by
  have bn := u16_range wn
  have bm := u16_range wm
  have bl := u8_range wl
  obtain ⟨n, rfl⟩ := Int.eq_ofNat_of_zero_le bn.1
  obtain ⟨m, rfl⟩ := Int.eq_ofNat_of_zero_le bm.1
  obtain ⟨l, rfl⟩ := Int.eq_ofNat_of_zero_le bl.1
  exact requestBytes_all w n m (by omega) (by omega) l (by omega) hK

/-! ### THE ROW's STEP -/
namespace requestBytesF
theorem own : ownKnob Tryd.prog.godebug = none := by kernel_rfl
theorem laidOut : laidOutB Tryd.prog = true := by kernel_rfl
theorem gT : Tryd.prog.globalNamed "toll/sha.constants" = some 0 := by kernel_rfl
theorem gTType : (Tryd.prog.globals[0]?).map (·.type) = some 141 := by kernel_rfl
theorem door_met (os : Os) (args : Array Value) : laidMetH Tryd.prog Rows.requestBytesRow.laid ((World.doorLaid Tryd.prog 400 os).forCall (fun _ _ => 0) ⟨#[], args, []⟩).memory :=
  laidMetH_of_parts3 (fuel := 8) (laidMet_of_run' 8 (by kernel_rfl) (by kernel_rfl)) (by kernel_rfl) (by kernel_rfl)
theorem of_laid {W : World} (h : laidMetH Tryd.prog Rows.requestBytesRow.laid W) : Consts W Sha.tab := fun i hi => by
  rw [MakeChecks.laidMetH_plain _ _ _ (by kernel_rfl)] at h
  have hT := Lib.tabIs_of_head (k := .u32) (zs := Sha.tableL.map fun n : Nat => (n : Int)) gT gTType Tryd.underlying141 Tryd.underlying49 (by kernel_rfl) (by kernel_rfl) h
  have hl : i < Sha.tableL.length := hi
  rw [hT.cell gT i (by simpa using hl)]
  simp [Sha.tab, List.getD, hl]
set_option maxRecDepth 100000 in
theorem lifted (os : Os) (started : os.Started) (H : Type) (enc : TypeId × Value → H) :
    ReturnsInHanded {} Tryd.checked os 11 .any (fun w args => (Rows.requestBytesSpec.pre enc Tryd.prog Tryd.f11 [] false w args ∧ laidMetH Tryd.prog Rows.requestBytesRow.laid w) ∧ sizedMet enc Tryd.prog Tryd.f11 (OpenSpec.ofChange Rows.requestBytesSpec) false w args)
      (Rows.requestBytesSpec.post enc Tryd.prog Tryd.f11 false true false false) := by
  refine returnsInHanded_of_change_and (C := Tryd.checked) (X := fun w _ => laidMetH Tryd.prog Rows.requestBytesRow.laid w) (fun _ _ _ hh h => h.of_heap hh) own started (by kernel_rfl) Tryd.func11
    (ChangeSpec.witness_shaped (enc := enc) (C := Tryd.checked) (os := os) (X := fun w _ => laidMetH Tryd.prog Rows.requestBytesRow.laid w) false (World.doorLaid Tryd.prog 400 os) #[.int .u16 0, .int .u16 0, .int .u8 0] 8 rfl (World.shaped_of_RefB (by kernel_rfl) (by kernel_rfl)) (by kernel_rfl) (by kernel_rfl) (by kernel_rfl) (door_met os _)) ?_
  intro W base args ds gs before hval0 hW _ _ hL _
  have hK := of_laid hL
  have hval : ∀ (j : Nat) t v, Tryd.f11.params[j]? = some t → args[j]? = some v → Value.okWide Tryd.prog W .any base t v := hval0
  have hW' := hW
  obtain ⟨p, q, hA0, hV, rfl, _, _⟩ := hW
  have hA : DataW.TrodAll enc Tryd.prog W 0 (fun _ => true) true Tryd.f11.params.toList args.toList ds p := hA0
  rw [Tryd.params11] at hA hval
  obtain ⟨v0, vs0, d0, ds0, p0, q0, hargs, rfl, rfl, h0, r0⟩ := trodAll_cons hA
  obtain ⟨v1, vs1, d1, ds1, p1, q1, rfl, rfl, rfl, h1, r1⟩ := trodAll_cons r0
  obtain ⟨v2, vs2, d2, ds2, p2, q2, rfl, rfl, rfl, h2, r2⟩ := trodAll_cons r1
  obtain ⟨rfl, rfl, rfl⟩ := trodAll_nil r2
  obtain rfl : args = #[v0, v1, v2] := by cases args; simp_all
  obtain ⟨rfl, rfl⟩ := trodVars_none hV
  have k0 := h0
  have lt0 : ∀ x ∈ p0, x.block < W.heap.size := by obtain ⟨m, hm⟩ := k0; exact DataW.trod_lt m _ _ _ hm
  obtain ⟨a0, rfl, _, _, w0⟩ := open_int Tryd.underlying74 (hval 0 74 v0 rfl rfl) h0
  have k1 := h1
  have lt1 : ∀ x ∈ p1, x.block < W.heap.size := by obtain ⟨m, hm⟩ := k1; exact DataW.trod_lt m _ _ _ hm
  obtain ⟨a1, rfl, _, _, w1⟩ := open_int Tryd.underlying74 (hval 1 74 v1 rfl rfl) h1
  have k2 := h2
  have lt2 : ∀ x ∈ p2, x.block < W.heap.size := by obtain ⟨m, hm⟩ := k2; exact DataW.trod_lt m _ _ _ hm
  obtain ⟨a2, rfl, _, _, w2⟩ := open_int Tryd.underlying5 (hval 2 5 v2 rfl rfl) h2
  refine (requestBytes_walk a0 w0 a1 w1 a2 w2 W hK).mono fun e W' ⟨he, bel⟩ => ?_
  subst he
  exact ⟨_, rfl, _, _, _, [], _, [], hW', trodAll_mk1 (shut_bool Tryd.underlying4 _), (trodAll_cons_mk (Below.trod laidOut (by kernel_rfl) (of_decide_eq_true (by kernel_rfl)) k0 bel lt0) (trodAll_cons_mk (Below.trod laidOut (by kernel_rfl) (of_decide_eq_true (by kernel_rfl)) k1 bel lt1) (trodAll_cons_mk (Below.trod laidOut (by kernel_rfl) (of_decide_eq_true (by kernel_rfl)) k2 bel lt2) trodAll_mk0))), rfl, bel.frame _, fun h => by cases h⟩
theorem over : Rows.requestBytesRow.holds Tryd.pinned (OpenSpec.ofChange Rows.requestBytesSpec) :=
  OpenClaim.holds_of_wide 11 Tryd.f11 rfl rfl rfl rfl rfl rfl rfl ⟨rfl, rfl, rfl, rfl, rfl⟩ rfl rfl rfl rfl rfl (by kernel_rfl) Tryd.func11 (by kernel_rfl)
    (of_decide_eq_true (by kernel_rfl)) (by unfold Func.isWrapper; first | (rw [if_pos (by decide +kernel)]; kernel_rfl) | (rw [if_neg (by decide +kernel)]; exact ⟨rfl, rfl⟩))
    (fun os started H enc _ => lifted os started H enc)
end requestBytesF
/-- The row. -/
theorem requestBytes_row : Rows.RequestBytesSaid := requestBytesF.over
/-- The statement: the card. -/
theorem requestBytes_holds : Rows.RequestBytesCardSaid :=
  Claim7.holds_tied_plain_at .later [] [.data] true Rows.requestBytesCard.stood.harness false
    requestBytes_row (fun _ h => by cases h) (by kernel_rfl) (fun _ h => by cases h) requestBytes_row_tie rfl ⟨rfl, rfl⟩ (by kernel_rfl) rfl
    (fun f fn hf hfn => by
      obtain rfl : f = 11 := Option.some.inj ((show Tryd.prog.funcNamed "toll/tolllaw14.RequestBytes" = some 11 by kernel_rfl).symm.trans hf) |>.symm
      obtain rfl : fn = Tryd.f11 := (Option.some.inj (Tryd.func11.symm.trans hfn)).symm
      exact ⟨by kernel_rfl, fun j t ht => by
        rw [Tryd.params11] at ht
        have hm : t ∈ [74, 74, 5] := by simpa using Array.mem_of_getElem? ht
        have hall : ([74, 74, 5].all fun u => !Tryd.prog.wantsStandIn u) = true := by kernel_rfl
        exact (show Tryd.prog.wantsStandIn t = false by simpa using List.all_eq_true.1 hall t hm)⟩)
    (by kernel_rfl)
#print axioms requestBytes_holds
end Go.Proofs.YtnhchdkchohnbaaDoor
