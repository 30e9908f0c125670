/- Layer 14: Parse of a request, in the program. -/
import Derived.Test.YtnhchdkchohnbaaGreatDoorReqA
namespace Go.Proofs.YtnhchdkchohnbaaGreatDoor
open Go.RowKit Go.Deep

theorem rq_one (u v : Value) (hu : u.oneCell' = true) (hv : v.oneCell' = true) : (#[u, v] : Array Value).all (·.oneCell') = true := by
  simp only [List.all_toArray, List.all_cons, List.all_nil, hu, hv]; rfl
def RetRq (w : World) (o : Option (List Nat × List Nat)) (e : Ending) (w' : World) : Prop :=
  Below w.heap.size w w' ∧ ∃ u v x y, e = .returned (.tuple #[.agg #[u, v], .bool o.isSome]) ∧ Own w' w.heap.size u x ∧ Own w' w.heap.size v y ∧ (x, y) = o.getD ([], [])
theorem Rs.nil (w : World) : Rs w (.slice none 0 0) [] := ⟨AllB.nil, by simp, .inl ⟨rfl, rfl⟩⟩
theorem retRq_none {w w' : World} {e : Ending} (h : Below w.heap.size w w') (he : e = .returned (.tuple #[.agg #[.slice none 0 0, .slice none 0 0], .bool false])) : RetRq w none e w' :=
  ⟨h, .slice none 0 0, .slice none 0 0, [], [], he, Own.nil _ _, Own.nil _ _, rfl⟩
set_option maxRecDepth 100000 in
theorem ix_head0 (W : World) : (Instr.index 102 (.agg #[.int .u8 65, .int .u8 80, .int .u8 1]) (.int .i64 0)).run Tryz.prog W = .ok (.int .u8 65) W := by kernel_rfl
set_option maxRecDepth 100000 in
theorem ix_head1 (W : World) : (Instr.index 102 (.agg #[.int .u8 65, .int .u8 80, .int .u8 1]) (.int .i64 1)).run Tryz.prog W = .ok (.int .u8 80) W := by kernel_rfl
set_option maxRecDepth 100000 in
theorem ix_head2 (W : World) : (Instr.index 102 (.agg #[.int .u8 65, .int .u8 80, .int .u8 1]) (.int .i64 2)).run Tryz.prog W = .ok (.int .u8 1) W := by kernel_rfl
theorem string_len (r : Wir.R) (k : Nat) (hk : 1 ≤ k ∧ k ≤ 8) : (Wir.string r k).1.l.length ≤ r.l.length := by
  have h := num_len r k
  rw [Wir.stringK r k hk]
  by_cases hb : (Wir.num r k).1.bad = true
  · rw [if_pos hb]; simp [Wir.failed]
  · rw [if_neg hb]
    refine Nat.le_trans ?_ h
    unfold Wir.next
    split
    · simp [Wir.failed]
    · simp
namespace Req
theorem parse_long {b : List Nat} (h : 65536 < b.length) : parse b = none := by unfold parse; rw [if_pos h]
theorem parse_a {b : List Nat} {A : Wir.R × Nat} (hA : Wir.num ⟨b, false⟩ 1 = A) (h : A.2 ≠ 65) : parse b = none := by
  subst hA; unfold parse
  split
  · rfl
  · rfl
theorem parse_b {b : List Nat} {A B : Wir.R × Nat} (hA : Wir.num ⟨b, false⟩ 1 = A) (hB : Wir.num A.1 1 = B) (h : B.2 ≠ 80) : parse b = none := by
  subst hA hB; unfold parse
  split
  · rfl
  · split
    · rfl
    · rfl
theorem parse_c {b : List Nat} {A B C : Wir.R × Nat} (hA : Wir.num ⟨b, false⟩ 1 = A) (hB : Wir.num A.1 1 = B) (hC : Wir.num B.1 1 = C) (h : C.2 ≠ 1) : parse b = none := by
  subst hA hB hC; unfold parse
  split
  · rfl
  · split
    · rfl
    · split
      · rfl
      · rfl
theorem parse_rest {b : List Nat} {A B C : Wir.R × Nat} (hl : ¬ 65536 < b.length) (hA : Wir.num ⟨b, false⟩ 1 = A) (hB : Wir.num A.1 1 = B) (hC : Wir.num B.1 1 = C) (h1 : A.2 = 65) (h2 : B.2 = 80) (h3 : C.2 = 1) :
    parse b = if (Wir.string (Wir.string C.1 2).1 2).1.bad = true ∨ (Wir.string (Wir.string C.1 2).1 2).1.l.length ≠ 0 then none else some ((Wir.string C.1 2).2, (Wir.string (Wir.string C.1 2).1 2).2) := by
  subst hA hB hC; unfold parse
  rw [if_neg hl, if_neg (by omega), if_neg (by omega), if_neg (by omega)]
end Req
def Qst (w wr : World) (p : Nat) (rd : Wir.R) : Prop := Rd wr p rd ∧ Hb wr w.heap.size #[.slice none 0 0, .slice none 0 0] 59 ∧ w.grownBy wr none
set_option maxRecDepth 100000 in
set_option maxHeartbeats 8000000 in
theorem rqparse_any (v : Value) (l : List Nat) (w : World) (h : Rs w v l) (hb : l.length ≤ 140737488355328) :
    Calls Tryz.prog 25 #[v] w (RetRq w (Req.parse l)) := by
  obtain ⟨a, cap, rfl⟩ := h.form
  have Z0 := Hb.new w #[.slice none 0 0, .slice none 0 0] 59
  have G0 := only_alloc (only_refl w none) (.cells #[.slice none 0 0, .slice none 0 0] 59)
  have H := Lib.hid (h.below (below_of_only G0))
  clear h
  generalize hR : Req.parse l = R
  have HR := Lib.hid hR; clear hR
  go_enter Tryz.func25, Tryz.ntmps25
  go_upto_region 1 with fail
  generalize w.alloc (.cells #[.slice none 0 0, .slice none 0 0] 59) = V0 at *
  by_cases hlong : 65536 < l.length
  · have E1 := Lib.hid (show R = none by rw [← HR.out]; exact Req.parse_long hlong)
    clear HR
    go_wp2_with (first | refine wpList_buildTo rfl 59 _ rfl _ rfl #[.slice none 0 0, .slice none 0 0] (by kernel_rfl) ?_ | refine wpList_store_rowTo rfl _ _ _ rfl rfl w.heap.size _ rfl rfl _ _ Z0 (info_rq _ _) (by rfl) (rq_one _ _ rfl rfl) ?_)
    all_goals first | omega | skip
    try simp only [Exit.inBlock, Exit.then, Exit.noGoto_ret]
    refine bodyPost_ret (results_row_tmp rfl _ _ w.heap.size _ _ (0, 0) _ rfl (Z0.row _).1 rfl rfl (info_rq _ _)) rfl ?_
    rw [E1.out]
    exact retRq_none (row_own _ Z0 G0 (Nat.le_refl _)) rfl
  have HLL := Lib.hid hlong
  go_wp2_with fail
  all_goals first | omega | skip
  refine (new_any _ l V0 H.out hb).mono ?_
  rintro e w1 ⟨p, rfl, hp, rd, hb1⟩
  have Z1 := Z0.only (only_of_below hb1 none)
  have G1 := only_trans G0 (only_of_below hb1 none)
  have hpw := Nat.le_trans G0.size hp
  have hzp := Nat.lt_of_lt_of_le Z0.lt hp
  clear Z0 G0 hp hb1
  go_wp2_with fail
  refine (head_any w1).mono ?_
  rintro e w2 ⟨rfl, g2⟩
  have ST2 := Lib.hid (show Qst w w2 p ⟨l, false⟩ from ⟨rd.only g2, Z1.only g2, only_trans G1 g2⟩)
  clear rd Z1 G1 g2
  generalize hA : Wir.num ⟨l, false⟩ 1 = A
  generalize hB : Wir.num A.1 1 = B
  generalize hC : Wir.num B.1 1 = C
  have HA := Lib.hid hA
  have HB := Lib.hid hB
  have HC := Lib.hid hC
  have HLC := Lib.hid (show C.1.l.length ≤ l.length by
    rw [← hC]
    refine Nat.le_trans (num_len _ _) ?_
    rw [← hB]
    refine Nat.le_trans (num_len _ _) ?_
    rw [← hA]
    exact num_len _ _)
  clear hA hB hC
  have HS := Lib.hid HR.out
  clear HR
  go_wp2_with fail
  go_loopw [15] (fun x wr => ∃ (j : Int) (rd : Wir.R), x = .int .i64 j ∧ ((j = 0 ∧ rd = ⟨l, false⟩) ∨ (j = 1 ∧ rd = A.1 ∧ A.2 = 65) ∨ (j = 2 ∧ rd = B.1 ∧ A.2 = 65 ∧ B.2 = 80) ∨ (j = 3 ∧ rd = C.1 ∧ A.2 = 65 ∧ B.2 = 80 ∧ C.2 = 1)) ∧ Qst w wr p rd) (fun x _ => 4 - (intOf x).toNat)
  case atStart => exact ⟨0, _, rfl, .inl ⟨rfl, rfl⟩, ST2.out⟩
  case round =>
    obtain ⟨j, rd, rfl, hj, st⟩ := hrel
    clear ST2
    have hrd := st.1
    rcases hj with ⟨rfl, rfl⟩ | ⟨rfl, rfl, ha⟩ | ⟨rfl, rfl, ha, hbb⟩ | ⟨rfl, rfl, ha, hbb, hcc⟩
    · have hix := ix_head0
      have ZZ := st.2.1
      have GG := st.2.2
      go_wp2_with (go_at_call 57; refine (rnum_any p ⟨l, false⟩ 1 wr hrd).mono ?_)
      rintro e w6 ⟨rfl, rd6, g6⟩
      have Z6 := ZZ.keep g6 (by intro e; cases e; omega)
      have G6 := grown_new GG g6 hpw
      clear ZZ GG hrd st g6
      rw [HA.out] at rd6 ⊢
      by_cases hc : A.2 = 65
      · have hc2 : ((A.2 : Int) != 65) = false := by rw [bne_eq_false_iff_eq]; omega
        go_wp2_with fail
        all_goals first | omega | skip
        go_roundw
        case rel => exact ⟨1, _, by go_num, .inr (.inl ⟨rfl, rfl, hc⟩), rd6, Z6, G6⟩
        case measure => decide
      · have hc2 : ((A.2 : Int) != 65) = true := by rw [bne_iff_ne]; omega
        have E1 := Lib.hid (show R = none from ((Req.parse_a HA.out hc).symm.trans HS.out).symm)
        clear HS HA HB HC
        generalize A.2 = xx at *
        go_wp2_with (first | refine wpList_buildTo rfl 59 _ rfl _ rfl #[.slice none 0 0, .slice none 0 0] (by kernel_rfl) ?_ | refine wpList_store_rowTo rfl _ _ _ rfl rfl w.heap.size _ rfl rfl _ _ Z6 (info_rq _ _) (by rfl) (rq_one _ _ rfl rfl) ?_)
        all_goals first | omega | skip
        try simp only [Exit.inBlock, Exit.then, Exit.noGoto_ret]
        refine bodyPost_ret (results_row_tmp rfl _ _ w.heap.size _ _ (0, 0) _ rfl (Z6.row _).1 rfl rfl (info_rq _ _)) rfl ?_
        rw [E1.out]
        exact retRq_none (row_own _ Z6 G6 (Nat.le_refl _)) rfl
    · have hix := ix_head1
      have ZZ := st.2.1
      have GG := st.2.2
      go_wp2_with (go_at_call 57; refine (rnum_any p A.1 1 wr hrd).mono ?_)
      rintro e w6 ⟨rfl, rd6, g6⟩
      have Z6 := ZZ.keep g6 (by intro e; cases e; omega)
      have G6 := grown_new GG g6 hpw
      clear ZZ GG hrd st g6
      rw [HB.out] at rd6 ⊢
      by_cases hc : B.2 = 80
      · have hc2 : ((B.2 : Int) != 80) = false := by rw [bne_eq_false_iff_eq]; omega
        go_wp2_with fail
        all_goals first | omega | skip
        go_roundw
        case rel => exact ⟨2, _, by go_num, .inr (.inr (.inl ⟨rfl, rfl, ha, hc⟩)), rd6, Z6, G6⟩
        case measure => decide
      · have hc2 : ((B.2 : Int) != 80) = true := by rw [bne_iff_ne]; omega
        have E1 := Lib.hid (show R = none from ((Req.parse_b HA.out HB.out hc).symm.trans HS.out).symm)
        clear HS HA HB HC
        generalize B.2 = xx at *
        go_wp2_with (first | refine wpList_buildTo rfl 59 _ rfl _ rfl #[.slice none 0 0, .slice none 0 0] (by kernel_rfl) ?_ | refine wpList_store_rowTo rfl _ _ _ rfl rfl w.heap.size _ rfl rfl _ _ Z6 (info_rq _ _) (by rfl) (rq_one _ _ rfl rfl) ?_)
        all_goals first | omega | skip
        try simp only [Exit.inBlock, Exit.then, Exit.noGoto_ret]
        refine bodyPost_ret (results_row_tmp rfl _ _ w.heap.size _ _ (0, 0) _ rfl (Z6.row _).1 rfl rfl (info_rq _ _)) rfl ?_
        rw [E1.out]
        exact retRq_none (row_own _ Z6 G6 (Nat.le_refl _)) rfl
    · have hix := ix_head2
      have ZZ := st.2.1
      have GG := st.2.2
      go_wp2_with (go_at_call 57; refine (rnum_any p B.1 1 wr hrd).mono ?_)
      rintro e w6 ⟨rfl, rd6, g6⟩
      have Z6 := ZZ.keep g6 (by intro e; cases e; omega)
      have G6 := grown_new GG g6 hpw
      clear ZZ GG hrd st g6
      rw [HC.out] at rd6 ⊢
      by_cases hc : C.2 = 1
      · have hc2 : ((C.2 : Int) != 1) = false := by rw [bne_eq_false_iff_eq]; omega
        go_wp2_with fail
        all_goals first | omega | skip
        go_roundw
        case rel => exact ⟨3, _, by go_num, .inr (.inr (.inr ⟨rfl, rfl, ha, hbb, hc⟩)), rd6, Z6, G6⟩
        case measure => decide
      · have hc2 : ((C.2 : Int) != 1) = true := by rw [bne_iff_ne]; omega
        have E1 := Lib.hid (show R = none from ((Req.parse_c HA.out HB.out HC.out hc).symm.trans HS.out).symm)
        clear HS HA HB HC
        generalize C.2 = xx at *
        go_wp2_with (first | refine wpList_buildTo rfl 59 _ rfl _ rfl #[.slice none 0 0, .slice none 0 0] (by kernel_rfl) ?_ | refine wpList_store_rowTo rfl _ _ _ rfl rfl w.heap.size _ rfl rfl _ _ Z6 (info_rq _ _) (by rfl) (rq_one _ _ rfl rfl) ?_)
        all_goals first | omega | skip
        try simp only [Exit.inBlock, Exit.then, Exit.noGoto_ret]
        refine bodyPost_ret (results_row_tmp rfl _ _ w.heap.size _ _ (0, 0) _ rfl (Z6.row _).1 rfl rfl (info_rq _ _)) rfl ?_
        rw [E1.out]
        exact retRq_none (row_own _ Z6 G6 (Nat.le_refl _)) rfl
    · have HS := Lib.hid ((Req.parse_rest HLL.out HA.out HB.out HC.out ha hbb hcc).symm.trans HS.out)
      have ZZ := st.2.1
      have GG := st.2.2
      have HLC := Lib.hid (Nat.le_trans HLC.out (Nat.le_of_not_lt HLL.out))
      obtain ⟨rc, xc⟩ := C
      clear HA HB HC st ha hbb hcc
      dsimp only at HS HLC hrd ⊢
      generalize hX : Wir.string rc 2 = X at HS
      obtain ⟨rx, x⟩ := X
      dsimp only at HS
      generalize hY : Wir.string rx 2 = Y at HS
      obtain ⟨ry, y⟩ := Y
      dsimp only at HS
      have HX := Lib.hid hX
      have HY := Lib.hid hY
      have HLX := Lib.hid (show rx.l.length ≤ rc.l.length by have := string_len rc 2 (by omega); rw [show ((2 : Nat) : Int) = 2 from rfl, hX] at this; exact this)
      clear hX hY
      go_wp2_with (go_at_call 58; refine (rString_any p rc 2 wr hrd (by have := HLC.out; omega)).mono ?_)
      rintro e w6 ⟨v6, rfl, o6, rd6, g6⟩
      rw [HX.out] at o6 rd6
      obtain ⟨va6, vc6, rfl⟩ := o6.form
      have Z6 := ZZ.keep g6 (by intro e; cases e; omega)
      have G6 := grown_new GG g6 hpw
      have hp6 := hrd.lt
      have HB6 := Lib.hid GG.size
      have HB7 := Lib.hid G6.size
      have N6 := Lib.hid (fun e => by have := (o6.lt p e).1; omega : (Value.slice va6 x.length vc6).ownBlock ≠ some p)
      clear ZZ GG hrd g6
      go_wp2_with (go_at_call 58; refine (rString_any p rx 2 w6 rd6 (by have := HLC.out; have := HLX.out; omega)).mono ?_)
      rintro e w7 ⟨v7, rfl, o7, rd7, g7⟩
      rw [HY.out] at o7 rd7
      obtain ⟨va7, vc7, rfl⟩ := o7.form
      have Z7 := Z6.keep g7 (by intro e; cases e; omega)
      have G7 := grown_new G6 g7 hpw
      have O6 := o6.only g7 (.inr N6.out)
      clear Z6 G6 rd6 g7 o6 N6
      have F := fresh_row w7 #[.slice none 0 0, .slice none 0 0] #[.slice va6 x.length vc6, .slice va7 y.length vc7] 59
      have Z8 := Z7.only F.2
      have G8 := only_trans G7 F.2
      have rd8 := rd7.only F.2
      have O8 := O6.below (below_of_only F.2)
      have P8 := o7.below (below_of_only F.2)
      have Q8 := F.1
      clear Z7 G7 rd7 O6 o7
      go_upto_region 11 with (first | refine wpList_buildTo rfl 59 _ rfl _ rfl #[.slice va6 x.length vc6, .slice va7 y.length vc7] (by kernel_rfl) ?_ | refine wpList_store_rowTo rfl _ _ _ rfl rfl w7.heap.size _ rfl rfl _ _ (heap_alloc_new _ _) (info_rq _ _) (by rfl) (rq_one _ _ rfl rfl) ?_)
      generalize World.setRow _ w7.heap.size _ = W8 at *
      generalize w7.heap.size = b8 at *
      clear F
      generalize hD : (!ry.bad && ry.l.length == 0) = D
      go_wp2_with (go_at_call 59; refine (done_any p ry W8 rd8).mono ?_)
      rintro e w9 ⟨rfl, rfl⟩
      rw [hD]
      cases D
      · have hbad : ry.bad = true ∨ ry.l.length ≠ 0 := by
          cases hk : ry.bad
          · right; intro h0; rw [hk, h0] at hD; cases hD
          · left; rfl
        have E1 := Lib.hid (show R = none by rw [← HS.out, if_pos hbad])
        clear HS hbad hD
        go_wp2_with (first | refine wpList_buildTo rfl 59 _ rfl _ rfl #[.slice none 0 0, .slice none 0 0] (by kernel_rfl) ?_ | refine wpList_store_rowTo rfl _ _ _ rfl rfl w.heap.size _ rfl rfl _ _ Z8 (info_rq _ _) (by rfl) (rq_one _ _ rfl rfl) ?_)
        all_goals first | omega | skip
        try simp only [Exit.inBlock, Exit.then, Exit.noGoto_ret]
        refine bodyPost_ret (results_row_tmp rfl _ _ w.heap.size _ _ (0, 0) _ rfl (Z8.row _).1 rfl rfl (info_rq _ _)) rfl ?_
        rw [E1.out]
        exact retRq_none (row_own _ Z8 G8 (Nat.le_refl _)) rfl
      · have hkb : ry.bad = false ∧ ry.l.length = 0 := by
          cases hk : ry.bad
          · rw [hk] at hD; exact ⟨rfl, by simpa using hD⟩
          · rw [hk] at hD; cases hD
        have E1 := Lib.hid (show R = some (x, y) by
          rw [← HS.out, if_neg]
          rintro (h | h)
          · rw [hkb.1] at h; cases h
          · exact h hkb.2)
        clear HS hkb hD
        go_wp2_with (first | refine wpList_load_row rfl _ _ rfl b8 rfl _ _ (0, 0) _ Q8 rfl rfl (info_rq _ _) ?_ | refine wpList_store_rowTo rfl _ _ _ rfl rfl w.heap.size _ rfl rfl _ _ Z8 (info_rq _ _) (by rfl) (rq_one _ _ rfl rfl) ?_)
        try simp only [Exit.inBlock, Exit.then, Exit.noGoto_ret]
        refine bodyPost_ret (results_row_tmp rfl _ _ w.heap.size _ _ (0, 0) _ rfl (Z8.row _).1 rfl rfl (info_rq _ _)) rfl ?_
        rw [E1.out]
        exact ⟨row_own _ Z8 G8 (Nat.le_refl _), _, _, x, y, rfl, (O8.only (Z8.row _).2 (.inr (O8.sep Z8 (by decide)))).mono HB6.out, (P8.only (Z8.row _).2 (.inr (P8.sep Z8 (by decide)))).mono HB7.out, rfl⟩
end Go.Proofs.YtnhchdkchohnbaaGreatDoor
