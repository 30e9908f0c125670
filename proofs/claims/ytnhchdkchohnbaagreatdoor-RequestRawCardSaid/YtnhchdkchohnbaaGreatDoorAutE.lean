/- Layer 13: Parse of an authenticator, in the reference. -/
import Derived.Test.YtnhchdkchohnbaaGreatDoorAutD
namespace Go.Proofs.YtnhchdkchohnbaaGreatDoor
open Go.RowKit Go.Deep

theorem Aut.refParse_short {l : List Nat} (h : l.length < 17) : Aut.refParse l = none := by unfold Aut.refParse; rw [if_pos (.inl h)]
theorem Aut.refParse_kind {l : List Nat} (h : l.getD 0 0 ≠ 2) : Aut.refParse l = none := by unfold Aut.refParse; rw [if_pos (.inr h)]
theorem Aut.refParse_noname {l : List Nat} {m : Nat} (hm : m = l.length - 16) (h2 : (Nam.refRead ⟨(l.take m).drop 1, false⟩).2 = none) : Aut.refParse l = none := by
  subst hm
  unfold Aut.refParse
  split
  · rfl
  · simp only [h2]
theorem Aut.refParse_rest {l : List Nat} {m : Nat} {n : Nam.N} (hm : m = l.length - 16) (h2 : (Nam.refRead ⟨(l.take m).drop 1, false⟩).2 = some n) (h3 : 0 < (Nam.refRead ⟨(l.take m).drop 1, false⟩).1.l.length) : Aut.refParse l = none := by
  subst hm
  unfold Aut.refParse
  split
  · rfl
  · simp only [h2]
theorem Aut.refParse_name {l : List Nat} {m : Nat} {n : Nam.N} (h17 : ¬ l.length < 17) (hk : l.getD 0 0 = 2) (hm : m = l.length - 16) (h2 : (Nam.refRead ⟨(l.take m).drop 1, false⟩).2 = some n) (h3 : ¬ 0 < (Nam.refRead ⟨(l.take m).drop 1, false⟩).1.l.length) :
    Aut.refParse l = if 1099511627776 < (Wir.num ⟨l.drop m, false⟩ 8).2 ∨ 999999 < (Wir.num ⟨l.drop (m + 8), false⟩ 4).2 then none else some ⟨n, (Wir.num ⟨l.drop m, false⟩ 8).2, (Wir.num ⟨l.drop (m + 8), false⟩ 4).2, (Wir.num ⟨l.drop (m + 12), false⟩ 4).2⟩ := by
  subst hm
  unfold Aut.refParse
  rw [if_neg (by rintro (h | h); exact h17 h; exact h hk), h2]
  dsimp only
  rw [if_neg h3]
set_option maxRecDepth 100000 in
set_option maxHeartbeats 4000000 in
theorem refauparse_any (v : Value) (l : List Nat) (w : World) (h : Rs w v l) (hb : l.length ≤ 1000000) :
    Calls Tryz.prog 38 #[v] w (RetAut w (Aut.refParse l)) := by
  have Z0 := Hb.new w (au ⟨#[]⟩ (.slice none 0 0) 0 0 0) 32
  have G0 := only_alloc (only_refl w none) (.cells (au ⟨#[]⟩ (.slice none 0 0) 0 0 0) 32)
  have H := Lib.hid (h.below (below_of_only G0)); clear h
  obtain ⟨va, cap, rfl⟩ := H.out.form
  generalize hR : Aut.refParse l = R
  have HR := Lib.hid hR; clear hR
  go_enter Tryz.func38, Tryz.ntmps38
  go_upto_region 1 with fail
  rw [au0]
  generalize w.alloc (.cells (au ⟨#[]⟩ (.slice none 0 0) 0 0 0) 32) = V at *
  by_cases h17 : l.length < 17
  · have E1 := Lib.hid (show R = none by rw [← HR.out]; exact Aut.refParse_short h17)
    have hmw : IntKind.i64.wrap ((l.length : Int) - 16) = (l.length : Int) - 16 := by simp only [IntKind.wrap_i64]; omega
    clear HR H
    go_wp2_with (first | refine wpList_buildTo rfl 32 _ rfl _ rfl (au ⟨#[]⟩ (.slice none 0 0) 0 0 0) (by kernel_rfl) ?_ | refine wpList_store_rowTo rfl _ _ _ rfl rfl w.heap.size _ rfl rfl _ _ Z0 (info_au _ _ _ _ _) (by simp only [au_size]) (au_one _ _ _ _ _ rfl) ?_)
    all_goals first | omega | skip
    try simp only [Exit.inBlock, Exit.then, Exit.noGoto_ret]
    refine bodyPost_ret (results_row_tmp rfl _ _ w.heap.size _ _ (0, 0) _ rfl (Z0.row _).1 rfl rfl (info_au _ _ _ _ _)) rfl ?_
    rw [E1.out]
    exact retAut_none (row_own _ Z0 G0 (Nat.le_refl _)) rfl
  obtain ⟨b, off, rfl, hc⟩ := H.out.at (k := 0) (by omega)
  have c0 := hc 0 (by omega)
  rw [Nat.add_zero] at c0
  clear hc
  obtain ⟨m, hm⟩ : ∃ m, m = l.length - 16 := ⟨_, rfl⟩
  have hmw : IntKind.i64.wrap ((l.length : Int) - 16) = (m : Int) := by simp only [IntKind.wrap_i64]; omega
  have hm1 : 1 ≤ m := by omega
  by_cases hk : l.getD 0 0 = 2
  rotate_left
  · have E1 := Lib.hid (show R = none by rw [← HR.out]; exact Aut.refParse_kind hk)
    have hne : (((l.getD 0 0 : Nat) : Int) != 2) = true := by rw [bne_iff_ne]; omega
    clear HR H hm
    generalize l.getD 0 0 = x0 at *
    go_wp2_with (first | refine wpList_buildTo rfl 32 _ rfl _ rfl (au ⟨#[]⟩ (.slice none 0 0) 0 0 0) (by kernel_rfl) ?_ | refine wpList_store_rowTo rfl _ _ _ rfl rfl w.heap.size _ rfl rfl _ _ Z0 (info_au _ _ _ _ _) (by simp only [au_size]) (au_one _ _ _ _ _ rfl) ?_)
    all_goals first | omega | skip
    try simp only [Exit.inBlock, Exit.then, Exit.noGoto_ret]
    refine bodyPost_ret (results_row_tmp rfl _ _ w.heap.size _ _ (0, 0) _ rfl (Z0.row _).1 rfl rfl (info_au _ _ _ _ _)) rfl ?_
    rw [E1.out]
    exact retAut_none (row_own _ Z0 G0 (Nat.le_refl _)) rfl
  rw [hk] at c0
  have hcaps := H.out.caps
  obtain ⟨m8, h8⟩ : ∃ x, x = m + 8 := ⟨_, rfl⟩
  obtain ⟨m12, h12⟩ : ∃ x, x = m + 12 := ⟨_, rfl⟩
  have hm8 : IntKind.i64.wrap ((m : Int) + 8) = (m8 : Int) := by simp only [IntKind.wrap_i64]; omega
  have hm12 : IntKind.i64.wrap ((m : Int) + 12) = (m12 : Int) := by simp only [IntKind.wrap_i64]; omega
  have s1 : ∀ W : World, (Instr.slice 24 (.slice (some ⟨b, off, none⟩) l.length cap) (some (.int .i64 1)) (some (.int .i64 (m : Int))) none).run Tryz.prog W = .ok (.slice (partA b off 1 cap) (m - 1) (cap - 1)) W := fun W => run_part2 W b off l.length cap 1 m (by omega) (by omega)
  have R1 := Lib.hid (H.out.part 1 m cap (by omega) (by omega) (by omega) (by omega))
  have HN := Lib.hid (fun h2 => (Aut.refParse_noname hm h2).symm.trans HR.out)
  have HT := Lib.hid (fun n h2 h3 => (Aut.refParse_rest (n := n) hm h2 h3).symm.trans HR.out)
  have HS := Lib.hid (fun n h2 h3 => (Aut.refParse_name (n := n) h17 hk hm h2 h3).symm.trans HR.out)
  have HL := Lib.hid (show ((l.take m).drop 1).length ≤ 1000000 by rw [List.length_drop, List.length_take]; omega)
  have HMM := Lib.hid hm
  rw [← h8, ← h12] at HS
  have H8 := Lib.hid h8
  have H12 := Lib.hid h12
  have hall := H.out.1
  clear HR hk hm h8 h12
  go_wp2_with fail
  all_goals first | omega | skip
  refine (refread_any V _ ⟨(l.take m).drop 1, false⟩ V R1.out (Below.refl _ _) HL.out).mono ?_
  rintro e w4 ⟨h4, u4, v4, ss4, q4, rfl, rs4, o4, hq4, hn4⟩
  obtain ⟨va4, vc4, rfl⟩ := o4.ss.form
  obtain ⟨ua4, uc4, rfl⟩ := rs4.form
  have Z4 := Z0.only h4
  have G4 := only_trans G0 h4
  have O4 := o4.mono G0.size
  have HO4 := Lib.hid (show ∀ g, (Value.slice va4 ss4.length vc4).ownBlock = some g → g ≠ w.heap.size from fun g e => by have := (o4.lt g e).1; have := Z0.lt; omega)
  have hs2 : ∀ W : World, (Instr.slice 24 (.slice (some ⟨b, off, none⟩) l.length cap) (some (.int .i64 (m : Int))) none none).run Tryz.prog W = .ok (.slice (partA b off m cap) (l.length - m) (cap - m)) W := fun W => run_drop W b off l.length cap m (by have := HMM.out; omega) (by omega)
  have hs3 : ∀ W : World, (Instr.slice 24 (.slice (some ⟨b, off, none⟩) l.length cap) (some (.int .i64 (m8 : Int))) none none).run Tryz.prog W = .ok (.slice (partA b off m8 cap) (l.length - m8) (cap - m8)) W := fun W => run_drop W b off l.length cap m8 (by have := HMM.out; have := H8.out; omega) (by omega)
  have hs4 : ∀ W : World, (Instr.slice 24 (.slice (some ⟨b, off, none⟩) l.length cap) (some (.int .i64 (m12 : Int))) none none).run Tryz.prog W = .ok (.slice (partA b off m12 cap) (l.length - m12) (cap - m12)) W := fun W => run_drop W b off l.length cap m12 (by have := HMM.out; have := H12.out; omega) (by omega)
  have D0 := H.out.part m l.length cap (by have := HMM.out; omega) (Nat.le_refl _) (by omega) (by omega)
  have D8 := H.out.part m8 l.length cap (by have := HMM.out; have := H8.out; omega) (Nat.le_refl _) (by omega) (by omega)
  have D12 := H.out.part m12 l.length cap (by have := HMM.out; have := H12.out; omega) (Nat.le_refl _) (by omega) (by omega)
  rw [List.take_length] at D0 D8 D12
  have D0 := Lib.hid D0
  have D8 := Lib.hid D8
  have D12 := Lib.hid D12
  have hlt := Wir.num_lt (r := ⟨l.drop m12, false⟩) (k := 4) (by omega) (fun x hx => hall x (List.mem_of_mem_drop hx))
  have e4 : ((4 : Nat) : Int) = 4 := rfl
  rw [e4] at hlt
  have HZ := Lib.hid (show (Wir.num ⟨l.drop m12, false⟩ 4).2 < 4294967296 by omega)
  clear Z0 G0 o4 R1 s1 HL c0 hall hlt e4
  generalize Nam.refRead ⟨(l.take m).drop 1, false⟩ = RR at *
  obtain ⟨⟨Rl, Rb⟩, o⟩ := RR
  dsimp only at hn4 rs4 HN HT HS ⊢
  have RA := (Hb.new w4 #[.slice none 0 0, .bool false] 87).alloc (.cells #[.string ⟨#[]⟩, .slice none 0 0] 29)
  have NA := Hb.new (w4.alloc (.cells #[.slice none 0 0, .bool false] 87)) #[.string ⟨#[]⟩, .slice none 0 0] 29
  simp only [World.size_alloc] at NA
  obtain ⟨x0, x1, x2, x3, x4, x5⟩ := RA.two (.slice ua4 Rl.length uc4)
  have NB := (NA.far (p := ⟨w4.heap.size, 0, none⟩) (Nat.succ_ne_self _) (.slice ua4 Rl.length uc4)).far (p := ⟨w4.heap.size, 1, none⟩) (Nat.succ_ne_self _) (.bool Rb)
  obtain ⟨y0, y1, y2, y3, y4, y5⟩ := NB.two (.string q4)
  have RC := (Hb.new w4 #[.slice ua4 Rl.length uc4, .bool Rb] 87).alloc (.cells #[.string q4, .slice va4 ss4.length vc4] 29)
  have NC := Hb.new (w4.alloc (.cells #[.slice ua4 Rl.length uc4, .bool Rb] 87)) #[.string q4, .slice va4 ss4.length vc4] 29
  simp only [World.size_alloc] at NC
  have F5 := only_alloc (only_alloc (only_refl w4 none) (.cells #[.slice ua4 Rl.length uc4, .bool Rb] 87)) (.cells #[.string q4, .slice va4 ss4.length vc4] 29)
  go_upto_region 5 with fail
  clear x0 x1 x2 x3 x4 x5 y0 y1 y2 y3 y4 y5 RA NA NB
  generalize (w4.alloc (.cells #[.slice ua4 Rl.length uc4, .bool Rb] 87)).alloc (.cells #[.string q4, .slice va4 ss4.length vc4] 29) = V5 at *
  have Z5 := Z4.only F5
  have G5 := only_trans G4 F5
  have O5 := O4.below (below_of_only F5)
  have B5 := only_trans h4 F5
  clear Z4 G4 O4 h4 F5
  generalize w4.heap.size = b4 at *
  cases o with
  | none =>
    have E1 := Lib.hid (show R = none from (HN.out rfl).symm)
    clear HN HT HS
    go_wp2_with (first | refine wpList_buildTo rfl 32 _ rfl _ rfl (au ⟨#[]⟩ (.slice none 0 0) 0 0 0) (by kernel_rfl) ?_ | refine wpList_store_rowTo rfl _ _ _ rfl rfl w.heap.size _ rfl rfl _ _ Z5 (info_au _ _ _ _ _) (by simp only [au_size]) (au_one _ _ _ _ _ rfl) ?_)
    all_goals first | omega | skip
    try simp only [Exit.inBlock, Exit.then, Exit.noGoto_ret]
    refine bodyPost_ret (results_row_tmp rfl _ _ w.heap.size _ _ (0, 0) _ rfl (Z5.row _).1 rfl rfl (info_au _ _ _ _ _)) rfl ?_
    rw [E1.out]
    exact retAut_none (row_own _ Z5 G5 (Nat.le_refl _)) rfl
  | some n =>
    have hn4 : nm q4 ss4 = n := hn4
    have r0 := RC.cell (i := 0) rfl
    by_cases h3 : 0 < Rl.length
    · have E1 := Lib.hid (show R = none from (HT.out n rfl h3).symm)
      clear HN HT HS
      go_wp2_with (first | refine wpList_buildTo rfl 32 _ rfl _ rfl (au ⟨#[]⟩ (.slice none 0 0) 0 0 0) (by kernel_rfl) ?_ | refine wpList_store_rowTo rfl _ _ _ rfl rfl w.heap.size _ rfl rfl _ _ Z5 (info_au _ _ _ _ _) (by simp only [au_size]) (au_one _ _ _ _ _ rfl) ?_)
      all_goals first | omega | skip
      try simp only [Exit.inBlock, Exit.then, Exit.noGoto_ret]
      refine bodyPost_ret (results_row_tmp rfl _ _ w.heap.size _ _ (0, 0) _ rfl (Z5.row _).1 rfl rfl (info_au _ _ _ _ _)) rfl ?_
      rw [E1.out]
      exact retAut_none (row_own _ Z5 G5 (Nat.le_refl _)) rfl
    have HS := Lib.hid (HS.out n rfl h3)
    clear HN HT
    go_wp2_with fail
    all_goals first | omega | skip
    refine (refnum_any V _ ⟨l.drop m, false⟩ 8 V5 D0.out (below_of_only B5) (by show (l.drop m).length ≤ _; rw [List.length_drop]; omega)).mono ?_
    rintro e w6 ⟨u6, rfl, rs6, hb6⟩
    obtain ⟨ua6, uc6, rfl⟩ := rs6.form
    generalize Wir.num ⟨l.drop m, false⟩ 8 = X at *
    have F7 := only_trans (only_of_below hb6 none) (only_alloc (only_refl w6 none) (.cells #[.slice ua6 X.1.l.length uc6, .bool X.1.bad] 87))
    have Z7 := Z5.only F7
    have G7 := only_trans G5 F7
    have O7 := O5.below (below_of_only F7)
    have B7 := only_trans B5 F7
    have N7 := NC.only F7
    clear Z5 G5 O5 B5 RC NC rs6 hb6 F7 r0
    go_upto_region 8 with fail
    generalize w6.alloc (.cells #[.slice ua6 X.1.l.length uc6, .bool X.1.bad] 87) = V7 at *
    clear hs2
    go_wp2_with fail
    refine (refnum_any V _ ⟨l.drop m8, false⟩ 4 V7 D8.out (below_of_only B7) (by show (l.drop m8).length ≤ _; rw [List.length_drop]; omega)).mono ?_
    rintro e w8 ⟨u8, rfl, rs8, hb8⟩
    obtain ⟨ua8, uc8, rfl⟩ := rs8.form
    generalize Wir.num ⟨l.drop m8, false⟩ 4 = Y at *
    have F9 := only_trans (only_of_below hb8 none) (only_alloc (only_refl w8 none) (.cells #[.slice ua8 Y.1.l.length uc8, .bool Y.1.bad] 87))
    have Z9 := Z7.only F9
    have G9 := only_trans G7 F9
    have O9 := O7.below (below_of_only F9)
    have B9 := only_trans B7 F9
    have N9 := N7.only F9
    clear Z7 G7 O7 B7 N7 rs8 hb8 F9
    go_upto_region 9 with fail
    generalize w8.alloc (.cells #[.slice ua8 Y.1.l.length uc8, .bool Y.1.bad] 87) = V9 at *
    clear hs3
    go_wp2_with fail
    refine (refnum_any V _ ⟨l.drop m12, false⟩ 4 V9 D12.out (below_of_only B9) (by show (l.drop m12).length ≤ _; rw [List.length_drop]; omega)).mono ?_
    rintro e w10 ⟨u10, rfl, rs10, hb10⟩
    obtain ⟨ua10, uc10, rfl⟩ := rs10.form
    generalize Wir.num ⟨l.drop m12, false⟩ 4 = Zn at *
    have F11 := only_trans (only_of_below hb10 none) (only_alloc (only_refl w10 none) (.cells #[.slice ua10 Zn.1.l.length uc10, .bool Zn.1.bad] 87))
    have Z11 := Z9.only F11
    have G11 := only_trans G9 F11
    have O11 := O9.below (below_of_only F11)
    have N11 := N9.only F11
    clear Z9 G9 O9 B9 N9 rs10 hb10 F11
    go_upto_region 10 with fail
    generalize w10.alloc (.cells #[.slice ua10 Zn.1.l.length uc10, .bool Zn.1.bad] 87) = V11 at *
    clear hs4
    obtain ⟨xr, x⟩ := X
    obtain ⟨yr, y⟩ := Y
    obtain ⟨zr, z⟩ := Zn
    dsimp only at HS HZ ⊢
    by_cases hx : 1099511627776 < x
    · have E1 := Lib.hid (show R = none by rw [← HS.out, if_pos (.inl hx)])
      clear HS
      go_wp2_with (first | refine wpList_buildTo rfl 32 _ rfl _ rfl (au ⟨#[]⟩ (.slice none 0 0) 0 0 0) (by kernel_rfl) ?_ | refine wpList_store_rowTo rfl _ _ _ rfl rfl w.heap.size _ rfl rfl _ _ Z11 (info_au _ _ _ _ _) (by simp only [au_size]) (au_one _ _ _ _ _ rfl) ?_)
      all_goals first | omega | skip
      try simp only [Exit.inBlock, Exit.then, Exit.noGoto_ret]
      refine bodyPost_ret (results_row_tmp rfl _ _ w.heap.size _ _ (0, 0) _ rfl (Z11.row _).1 rfl rfl (info_au _ _ _ _ _)) rfl ?_
      rw [E1.out]
      exact retAut_none (row_own _ Z11 G11 (Nat.le_refl _)) rfl
    by_cases hy : 999999 < y
    · have E1 := Lib.hid (show R = none by rw [← HS.out, if_pos (.inr hy)])
      clear HS
      go_wp2_with (first | refine wpList_buildTo rfl 32 _ rfl _ rfl (au ⟨#[]⟩ (.slice none 0 0) 0 0 0) (by kernel_rfl) ?_ | refine wpList_store_rowTo rfl _ _ _ rfl rfl w.heap.size _ rfl rfl _ _ Z11 (info_au _ _ _ _ _) (by simp only [au_size]) (au_one _ _ _ _ _ rfl) ?_)
      all_goals first | omega | skip
      try simp only [Exit.inBlock, Exit.then, Exit.noGoto_ret]
      refine bodyPost_ret (results_row_tmp rfl _ _ w.heap.size _ _ (0, 0) _ rfl (Z11.row _).1 rfl rfl (info_au _ _ _ _ _)) rfl ?_
      rw [E1.out]
      exact retAut_none (row_own _ Z11 G11 (Nat.le_refl _)) rfl
    have E1 := Lib.hid (show R = some ⟨n, x, y, z⟩ by
      rw [← HS.out, if_neg]
      rintro (h | h)
      · exact hx h
      · exact hy h)
    clear HS
    have hz := HZ.out
    have hwx : IntKind.i64.wrap (x : Int) = (x : Int) := by simp only [IntKind.wrap_i64]; omega
    have hwy : IntKind.u32.wrap (y : Int) = (y : Int) := by simp only [IntKind.wrap_u32]; omega
    have hwz : IntKind.u32.wrap (z : Int) = (z : Int) := by simp only [IntKind.wrap_u32]; omega
    have n0 := N11.cell (i := 0) rfl
    have n1 := N11.cell (i := 1) rfl
    go_wp2_with (first | refine wpList_buildTo rfl 32 _ rfl _ rfl (au q4 (.slice va4 ss4.length vc4) x y z) (by kernel_rfl) ?_ | refine wpList_store_rowTo rfl _ _ _ rfl rfl w.heap.size _ rfl rfl _ _ Z11 (info_au _ _ _ _ _) (by simp only [au_size]) (au_one _ _ _ _ _ rfl) ?_)
    all_goals first | omega | skip
    try simp only [Exit.inBlock, Exit.then, Exit.noGoto_ret]
    refine bodyPost_ret (results_row_tmp rfl _ _ w.heap.size _ _ (0, 0) _ rfl (Z11.row _).1 rfl rfl (info_au _ _ _ _ _)) rfl ?_
    rw [E1.out]
    refine ⟨row_own _ Z11 G11 (Nat.le_refl _), q4, _, ss4, x, y, z, rfl, ?_, hq4, by omega, hz, ?_⟩
    · exact O11.only (Z11.row _).2 (by
        cases he : (Value.slice va4 ss4.length vc4).ownBlock with
        | none => exact .inl rfl
        | some g => exact .inr (fun e => HO4.out g he (by cases e; rfl)))
    · show aut q4 ss4 x y z = _
      unfold aut
      rw [hn4]; rfl
end Go.Proofs.YtnhchdkchohnbaaGreatDoor
