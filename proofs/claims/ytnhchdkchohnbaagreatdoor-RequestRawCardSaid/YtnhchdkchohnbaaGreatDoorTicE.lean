/- Layer 12: Parse of a ticket, in the reference. -/
import Derived.Test.YtnhchdkchohnbaaGreatDoorTicD
namespace Go.Proofs.YtnhchdkchohnbaaGreatDoor
open Go.RowKit Go.Deep

theorem Tic.refParse_short {l : List Nat} (h : l.length < 33) : Tic.refParse l = none := by unfold Tic.refParse; rw [if_pos (.inl h)]
theorem Tic.refParse_kind {l : List Nat} (h : l.getD 0 0 ≠ 1) : Tic.refParse l = none := by unfold Tic.refParse; rw [if_pos (.inr h)]
theorem Tic.refParse_noname {l : List Nat} {m : Nat} (hm : m = l.length - 32) (h2 : (Nam.refRead ⟨(l.take m).drop 1, false⟩).2 = none) : Tic.refParse l = none := by
  subst hm
  unfold Tic.refParse
  split
  · rfl
  · simp only [h2]
theorem Tic.refParse_rest {l : List Nat} {m : Nat} {n : Nam.N} (hm : m = l.length - 32) (h2 : (Nam.refRead ⟨(l.take m).drop 1, false⟩).2 = some n) (h3 : 0 < (Nam.refRead ⟨(l.take m).drop 1, false⟩).1.l.length) : Tic.refParse l = none := by
  subst hm
  unfold Tic.refParse
  split
  · rfl
  · simp only [h2]
theorem Tic.refParse_name {l : List Nat} {m : Nat} {n : Nam.N} (h33 : ¬ l.length < 33) (hk : l.getD 0 0 = 1) (hm : m = l.length - 32) (h2 : (Nam.refRead ⟨(l.take m).drop 1, false⟩).2 = some n) (h3 : ¬ 0 < (Nam.refRead ⟨(l.take m).drop 1, false⟩).1.l.length) :
    Tic.refParse l = if (Wir.num ⟨l.drop (m + 8), false⟩ 8).2 < (Wir.num ⟨l.drop m, false⟩ 8).2 ∨ 1099511627776 < (Wir.num ⟨l.drop (m + 8), false⟩ 8).2 then none else some ⟨n, (Wir.num ⟨l.drop m, false⟩ 8).2, (Wir.num ⟨l.drop (m + 8), false⟩ 8).2, (l.drop (m + 16)).take 16⟩ := by
  subst hm
  unfold Tic.refParse
  rw [if_neg (by rintro (h | h); exact h33 h; exact h hk), h2]
  dsimp only
  rw [if_neg h3]
theorem run_drop (w : World) (b off len cap i : Nat) (hi : i ≤ len) (_hc : len ≤ cap) : (Instr.slice 24 (.slice (some ⟨b, off, none⟩) len cap) (some (.int .i64 i)) none none).run Tryz.prog w = .ok (.slice (partA b off i cap) (len - i) (cap - i)) w := by
  unfold partA
  simp [Instr.slice, Instr.sliceBounds, Instr.sliceBound, run_underlying Tryz.underlying24, go_sem]
  intro h'
  omega
theorem wpStill_buildTo {P : Program} {ops : Array Oper} {rest : List Oper} {o : Oper} {a : Act} {w : World} {Q : Act → Prop} (hgd : o.guard = none) (t : TypeId) (parts : Array (Nat × Operand)) (ho : o.op = .build t parts)
    (d : Option Tmp) (hd : o.dst = d) (cells : Array Value) (hf : P.built t (parts.map fun (i, x) => (i, a.eval x)).toList = some cells)
    (h : wpStill P ops w Q rest (a.put d (.agg cells))) : wpStill P ops w Q (o :: rest) a := by
  subst hd
  have hw : Region.wanted o (yielded ops a.tmps) = true := by simp [Region.wanted, hgd]
  refine wpStill_step fun K hK => ?_
  rw [if_pos hw]
  unfold Oper.still execOp
  simp only [ho, Sem.run_bind, run_build w _ _ _ hf, Result.andThen_ok, Sem.run_pure, Oper.stillUpon]
  exact ⟨trivial, hK _ h⟩
theorem wpStill_run {P : Program} {ops : Array Oper} {rest : List Oper} {o : Oper} {a : Act} {w : World} {Q : Act → Prop} (hgd : o.guard = none) (v : Value) (hrun : (execOp a.eval o).run P w = .ok (.value v) w)
    (h : wpStill P ops w Q rest (a.put o.dst v)) : wpStill P ops w Q (o :: rest) a := by
  have hw : Region.wanted o (yielded ops a.tmps) = true := by simp [Region.wanted, hgd]
  refine wpStill_step fun K hK => ?_
  rw [if_pos hw]
  unfold Oper.still
  simp only [hrun, Oper.stillUpon]
  exact ⟨trivial, hK _ h⟩
theorem exec_arrayPtr {o : Oper} {a : Act} {w : World} {x : Operand} {ad : Option Addr} {cp : Nat} (ho : o.op = .sliceToArrayPointer 22 x) (hx : a.eval x = .slice ad 16 cp) :
    (execOp a.eval o).run Tryz.prog w = .ok (.value (.pointer ad)) w := by
  unfold execOp
  simp only [ho, hx, Sem.run_bind, Sem.run_pure, Result.andThen_ok, run_arrayAt w 22 5 16 ad 16 cp Tryz.underlying22 (Nat.le_refl _)]
set_option maxRecDepth 100000 in
set_option maxHeartbeats 4000000 in
theorem reftkparse_any (v : Value) (l : List Nat) (w : World) (h : Rs w v l) (hb : l.length ≤ 1000000) :
    Calls Tryz.prog 22 #[v] w (RetTic w (Tic.refParse l)) := by
  have Z0 := Hb.new w (tk ⟨#[]⟩ (.slice none 0 0) 0 0 (fun _ => 0)) 41
  have G0 := only_alloc (only_refl w none) (.cells (tk ⟨#[]⟩ (.slice none 0 0) 0 0 (fun _ => 0)) 41)
  have H := Lib.hid (h.below (below_of_only G0)); clear h
  obtain ⟨va, cap, rfl⟩ := H.out.form
  generalize hR : Tic.refParse l = R
  have HR := Lib.hid hR; clear hR
  go_enter Tryz.func22, Tryz.ntmps22
  go_upto_region 1 with fail
  rw [tk0]
  generalize w.alloc (.cells (tk ⟨#[]⟩ (.slice none 0 0) 0 0 (fun _ => 0)) 41) = V at *
  by_cases h33 : l.length < 33
  · have E1 := Lib.hid (show R = none by rw [← HR.out]; exact Tic.refParse_short h33)
    clear HR H
    go_wp2_with (first | refine wpList_buildTo rfl _ _ rfl _ rfl (tk ⟨#[]⟩ (.slice none 0 0) 0 0 (fun _ => 0)) (by kernel_rfl) ?_ | refine wpList_store_rowTo rfl _ _ _ rfl rfl w.heap.size _ rfl rfl _ _ Z0 (info_tk _ _ _ _ _) (by simp only [tk_size]) (tk_one _ _ _ _ _ rfl) ?_)
    all_goals first | omega | skip
    try simp only [Exit.inBlock, Exit.then, Exit.noGoto_ret]
    refine bodyPost_ret (results_row_tmp rfl _ _ w.heap.size _ _ (0, 0) _ rfl (Z0.row _).1 rfl rfl (info_tk _ _ _ _ _)) rfl ?_
    rw [E1.out]
    exact retTic_none (row_own _ Z0 G0 (Nat.le_refl _)) rfl
  obtain ⟨b, off, rfl, hc⟩ := H.out.at (k := 0) (by omega)
  have c0 := hc 0 (by omega)
  rw [Nat.add_zero] at c0
  clear hc
  by_cases hk : l.getD 0 0 = 1
  rotate_left
  · have E1 := Lib.hid (show R = none by rw [← HR.out]; exact Tic.refParse_kind hk)
    have hne : (((l.getD 0 0 : Nat) : Int) != 1) = true := by rw [bne_iff_ne]; omega
    clear HR H
    generalize l.getD 0 0 = x0 at *
    go_wp2_with (first | refine wpList_buildTo rfl _ _ rfl _ rfl (tk ⟨#[]⟩ (.slice none 0 0) 0 0 (fun _ => 0)) (by kernel_rfl) ?_ | refine wpList_store_rowTo rfl _ _ _ rfl rfl w.heap.size _ rfl rfl _ _ Z0 (info_tk _ _ _ _ _) (by simp only [tk_size]) (tk_one _ _ _ _ _ rfl) ?_)
    all_goals first | omega | skip
    try simp only [Exit.inBlock, Exit.then, Exit.noGoto_ret]
    refine bodyPost_ret (results_row_tmp rfl _ _ w.heap.size _ _ (0, 0) _ rfl (Z0.row _).1 rfl rfl (info_tk _ _ _ _ _)) rfl ?_
    rw [E1.out]
    exact retTic_none (row_own _ Z0 G0 (Nat.le_refl _)) rfl
  rw [hk] at c0
  have hcaps := H.out.caps
  obtain ⟨m, hm⟩ : ∃ m, m = l.length - 32 := ⟨_, rfl⟩
  have hmw : IntKind.i64.wrap ((l.length : Int) - 32) = (m : Int) := by simp only [IntKind.wrap_i64]; omega
  obtain ⟨m8, h8⟩ : ∃ x, x = m + 8 := ⟨_, rfl⟩
  obtain ⟨m16, h16⟩ : ∃ x, x = m + 16 := ⟨_, rfl⟩
  have hm8 : IntKind.i64.wrap ((m : Int) + 8) = (m8 : Int) := by simp only [IntKind.wrap_i64]; omega
  have hm16 : IntKind.i64.wrap ((m : Int) + 16) = (m16 : Int) := by simp only [IntKind.wrap_i64]; omega
  have s1 : ∀ W : World, (Instr.slice 24 (.slice (some ⟨b, off, none⟩) l.length cap) (some (.int .i64 1)) (some (.int .i64 (m : Int))) none).run Tryz.prog W = .ok (.slice (partA b off 1 cap) (m - 1) (cap - 1)) W := fun W => run_part2 W b off l.length cap 1 m (by omega) (by omega)
  have R1 := Lib.hid (H.out.part 1 m cap (by omega) (by omega) (by omega) (by omega))
  have HN := Lib.hid (fun h2 => (Tic.refParse_noname hm h2).symm.trans HR.out)
  have HT := Lib.hid (fun n h2 h3 => (Tic.refParse_rest (n := n) hm h2 h3).symm.trans HR.out)
  have HS := Lib.hid (fun n h2 h3 => (Tic.refParse_name (n := n) h33 hk hm h2 h3).symm.trans HR.out)
  have hlen1 : ((l.take m).drop 1).length = m - 1 := by rw [List.length_drop, List.length_take]; omega
  have HL := Lib.hid hlen1
  have HMM := Lib.hid hm
  rw [← h8, ← h16] at HS
  have H8 := Lib.hid h8
  have H16 := Lib.hid h16
  clear HR hk hm h8 h16
  go_wp2_with fail
  all_goals first | omega | skip
  refine (refread_any V _ ⟨(l.take m).drop 1, false⟩ V R1.out (Below.refl _ _) (by show ((l.take m).drop 1).length ≤ _; have := HMM.out; omega)).mono ?_
  rintro e w4 ⟨h4, u4, v4, ss4, q4, rfl, rs4, o4, hq4, hn4⟩
  obtain ⟨va4, vc4, rfl⟩ := o4.ss.form
  obtain ⟨ua4, uc4, rfl⟩ := rs4.form
  have Z4 := Z0.only h4
  have G4 := only_trans G0 h4
  have O4 := o4.mono G0.size
  have HO4 := Lib.hid (show ∀ g, (Value.slice va4 ss4.length vc4).ownBlock = some g → g ≠ w.heap.size from fun g e => by have := (o4.lt g e).1; have := Z0.lt; omega)
  have hs2 : ∀ W : World, (Instr.slice 24 (.slice (some ⟨b, off, none⟩) l.length cap) (some (.int .i64 (m : Int))) none none).run Tryz.prog W = .ok (.slice (partA b off m cap) (l.length - m) (cap - m)) W := fun W => run_drop W b off l.length cap m (by have := HMM.out; omega) (by omega)
  have hs3 : ∀ W : World, (Instr.slice 24 (.slice (some ⟨b, off, none⟩) l.length cap) (some (.int .i64 (m8 : Int))) none none).run Tryz.prog W = .ok (.slice (partA b off m8 cap) (l.length - m8) (cap - m8)) W := fun W => run_drop W b off l.length cap m8 (by have := HMM.out; have := H8.out; omega) (by omega)
  have hs4 : ∀ W : World, (Instr.slice 24 (.slice (some ⟨b, off, none⟩) l.length cap) (some (.int .i64 (m16 : Int))) none none).run Tryz.prog W = .ok (.slice (partA b off m16 cap) (l.length - m16) (cap - m16)) W := fun W => run_drop W b off l.length cap m16 (by have := HMM.out; have := H16.out; omega) (by omega)
  have D0 := H.out.part m l.length cap (by have := HMM.out; omega) (Nat.le_refl _) (by omega) (by omega)
  have D8 := H.out.part m8 l.length cap (by have := HMM.out; have := H8.out; omega) (Nat.le_refl _) (by omega) (by omega)
  have D16 := H.out.part m16 l.length cap (by have := HMM.out; have := H16.out; omega) (Nat.le_refl _) (by omega) (by omega)
  rw [List.take_length] at D0 D8 D16
  have D0 := Lib.hid D0
  have D8 := Lib.hid D8
  have D16 := Lib.hid D16
  clear Z0 G0 o4 R1 s1 hlen1 HL c0
  generalize Nam.refRead ⟨(l.take m).drop 1, false⟩ = RR at *
  obtain ⟨⟨Rl, Rb⟩, o⟩ := RR
  dsimp only at hn4 rs4 HN HT HS ⊢
  have RA := (Hb.new w4 #[.slice none 0 0, .bool false] 87).alloc (.cells #[.string ⟨#[]⟩, .slice none 0 0] 29)
  have NA := Hb.new (w4.alloc (.cells #[.slice none 0 0, .bool false] 87)) #[.string ⟨#[]⟩, .slice none 0 0] 29
  simp only [World.size_alloc] at NA
  obtain ⟨x0, x1, x2, x3, x4, x5⟩ := RA.two (.slice ua4 Rl.length uc4)
  have NB := (NA.far (p := ⟨w4.heap.size, 0, none⟩) (Nat.succ_ne_self _) (.slice ua4 Rl.length uc4)).far (p := ⟨w4.heap.size, 1, none⟩) (Nat.succ_ne_self _) (.bool Rb)
  obtain ⟨y0, y1, y2, y3, y4, y5⟩ := NB.two (.string q4)
  have RC := (Hb.new w4 #[.slice ua4 Rl.length uc4, .bool Rb] 87).alloc (.cells #[.string q4, .slice va4 ss4.length vc4] 29)
  have NC := Hb.new (w4.alloc (.cells #[.slice ua4 Rl.length uc4, .bool Rb] 87)) #[.string q4, .slice va4 ss4.length vc4] 29
  simp only [World.size_alloc] at NC
  have F5 := only_alloc (only_alloc (only_refl w4 none) (.cells #[.slice ua4 Rl.length uc4, .bool Rb] 87)) (.cells #[.string q4, .slice va4 ss4.length vc4] 29)
  go_upto_region 5 with fail
  clear x0 x1 x2 x3 x4 x5 y0 y1 y2 y3 y4 y5 RA NA NB
  generalize (w4.alloc (.cells #[.slice ua4 Rl.length uc4, .bool Rb] 87)).alloc (.cells #[.string q4, .slice va4 ss4.length vc4] 29) = V5 at *
  have Z5 := Z4.only F5
  have G5 := only_trans G4 F5
  have O5 := O4.below (below_of_only F5)
  have hz4 : w.heap.size < w4.heap.size := Z4.lt
  have B5 := only_trans h4 F5
  clear Z4 G4 O4 h4 F5
  generalize w4.heap.size = b4 at *
  cases o with
  | none =>
    have E1 := Lib.hid (show R = none from (HN.out rfl).symm)
    clear HN HT HS
    go_wp2_with (first | refine wpList_buildTo rfl _ _ rfl _ rfl (tk ⟨#[]⟩ (.slice none 0 0) 0 0 (fun _ => 0)) (by kernel_rfl) ?_ | refine wpList_store_rowTo rfl _ _ _ rfl rfl w.heap.size _ rfl rfl _ _ Z5 (info_tk _ _ _ _ _) (by simp only [tk_size]) (tk_one _ _ _ _ _ rfl) ?_)
    all_goals first | omega | skip
    try simp only [Exit.inBlock, Exit.then, Exit.noGoto_ret]
    refine bodyPost_ret (results_row_tmp rfl _ _ w.heap.size _ _ (0, 0) _ rfl (Z5.row _).1 rfl rfl (info_tk _ _ _ _ _)) rfl ?_
    rw [E1.out]
    exact retTic_none (row_own _ Z5 G5 (Nat.le_refl _)) rfl
  | some n =>
    have hn4 : nm q4 ss4 = n := hn4
    have r0 := RC.cell (i := 0) rfl
    by_cases h3 : 0 < Rl.length
    · have E1 := Lib.hid (show R = none from (HT.out n rfl h3).symm)
      clear HN HT HS
      go_wp2_with (first | refine wpList_buildTo rfl _ _ rfl _ rfl (tk ⟨#[]⟩ (.slice none 0 0) 0 0 (fun _ => 0)) (by kernel_rfl) ?_ | refine wpList_store_rowTo rfl _ _ _ rfl rfl w.heap.size _ rfl rfl _ _ Z5 (info_tk _ _ _ _ _) (by simp only [tk_size]) (tk_one _ _ _ _ _ rfl) ?_)
      all_goals first | omega | skip
      try simp only [Exit.inBlock, Exit.then, Exit.noGoto_ret]
      refine bodyPost_ret (results_row_tmp rfl _ _ w.heap.size _ _ (0, 0) _ rfl (Z5.row _).1 rfl rfl (info_tk _ _ _ _ _)) rfl ?_
      rw [E1.out]
      exact retTic_none (row_own _ Z5 G5 (Nat.le_refl _)) rfl
    have HS := Lib.hid (HS.out n rfl h3)
    clear HN HT
    go_wp2_with fail
    all_goals first | omega | skip
    refine (refnum_any V _ ⟨l.drop m, false⟩ 8 V5 D0.out (below_of_only B5) (by show (l.drop m).length ≤ _; rw [List.length_drop]; omega)).mono ?_
    rintro e w6 ⟨u6, rfl, rs6, hb6⟩
    obtain ⟨ua6, uc6, rfl⟩ := rs6.form
    generalize Wir.num ⟨l.drop m, false⟩ 8 = S at *
    have F7 := only_trans (only_of_below hb6 none) (only_alloc (only_refl w6 none) (.cells #[.slice ua6 S.1.l.length uc6, .bool S.1.bad] 87))
    have Z7 := Z5.only F7
    have G7 := only_trans G5 F7
    have O7 := O5.below (below_of_only F7)
    have B7 := only_trans B5 F7
    have N7 := NC.only F7
    clear Z5 G5 O5 B5 RC NC rs6 hb6 F7 r0
    go_upto_region 8 with fail
    generalize w6.alloc (.cells #[.slice ua6 S.1.l.length uc6, .bool S.1.bad] 87) = V7 at *
    clear hs2
    go_wp2_with fail
    refine (refnum_any V _ ⟨l.drop m8, false⟩ 8 V7 D8.out (below_of_only B7) (by show (l.drop m8).length ≤ _; rw [List.length_drop]; omega)).mono ?_
    rintro e w8 ⟨u8, rfl, rs8, hb8⟩
    obtain ⟨ua8, uc8, rfl⟩ := rs8.form
    generalize Wir.num ⟨l.drop m8, false⟩ 8 = E at *
    have F9 := only_trans (only_of_below hb8 none) (only_alloc (only_refl w8 none) (.cells #[.slice ua8 E.1.l.length uc8, .bool E.1.bad] 87))
    have Z9 := Z7.only F9
    have G9 := only_trans G7 F9
    have O9 := O7.below (below_of_only F9)
    have B9 := only_trans B7 F9
    have N9 := N7.only F9
    clear Z7 G7 O7 B7 N7 rs8 hb8 F9
    go_upto_region 9 with fail
    generalize w8.alloc (.cells #[.slice ua8 E.1.l.length uc8, .bool E.1.bad] 87) = V9 at *
    clear hs3
    obtain ⟨sr, sx⟩ := S
    obtain ⟨er, ex⟩ := E
    dsimp only at HS ⊢
    by_cases hse : ex < sx
    · have E1 := Lib.hid (show R = none by rw [← HS.out, if_pos (.inl hse)])
      clear HS
      go_wp2_with (first | refine wpList_buildTo rfl _ _ rfl _ rfl (tk ⟨#[]⟩ (.slice none 0 0) 0 0 (fun _ => 0)) (by kernel_rfl) ?_ | refine wpList_store_rowTo rfl _ _ _ rfl rfl w.heap.size _ rfl rfl _ _ Z9 (info_tk _ _ _ _ _) (by simp only [tk_size]) (tk_one _ _ _ _ _ rfl) ?_)
      all_goals first | omega | skip
      try simp only [Exit.inBlock, Exit.then, Exit.noGoto_ret]
      refine bodyPost_ret (results_row_tmp rfl _ _ w.heap.size _ _ (0, 0) _ rfl (Z9.row _).1 rfl rfl (info_tk _ _ _ _ _)) rfl ?_
      rw [E1.out]
      exact retTic_none (row_own _ Z9 G9 (Nat.le_refl _)) rfl
    by_cases hmx : 1099511627776 < ex
    · have E1 := Lib.hid (show R = none by rw [← HS.out, if_pos (.inr hmx)])
      clear HS
      go_wp2_with (first | refine wpList_buildTo rfl _ _ rfl _ rfl (tk ⟨#[]⟩ (.slice none 0 0) 0 0 (fun _ => 0)) (by kernel_rfl) ?_ | refine wpList_store_rowTo rfl _ _ _ rfl rfl w.heap.size _ rfl rfl _ _ Z9 (info_tk _ _ _ _ _) (by simp only [tk_size]) (tk_one _ _ _ _ _ rfl) ?_)
      all_goals first | omega | skip
      try simp only [Exit.inBlock, Exit.then, Exit.noGoto_ret]
      refine bodyPost_ret (results_row_tmp rfl _ _ w.heap.size _ _ (0, 0) _ rfl (Z9.row _).1 rfl rfl (info_tk _ _ _ _ _)) rfl ?_
      rw [E1.out]
      exact retTic_none (row_own _ Z9 G9 (Nat.le_refl _)) rfl
    have E1 := Lib.hid (show R = some ⟨n, sx, ex, (l.drop m16).take 16⟩ by
      rw [← HS.out, if_neg]
      rintro (h | h)
      · exact hse h
      · exact hmx h)
    clear HS
    have hws : IntKind.i64.wrap (sx : Int) = (sx : Int) := by simp only [IntKind.wrap_i64]; omega
    have hwe : IntKind.i64.wrap (ex : Int) = (ex : Int) := by simp only [IntKind.wrap_i64]; omega
    have n0 := N9.cell (i := 0) rfl
    have n1 := N9.cell (i := 1) rfl
    have D9 := Lib.hid (D16.out.below (below_of_only B9))
    go_upto_region 11 with fail
    all_goals first | omega | skip
    have hlm : l.length - m16 = 16 := by have := HMM.out; have := H16.out; omega
    have hpa : partA b off m16 cap = some ⟨b, off + m16, none⟩ := if_neg (by have := HMM.out; have := H16.out; omega)
    have hld : (l.drop m16).length = 16 := by rw [List.length_drop, hlm]
    rw [hlm, hpa] at D9 hs4
    obtain ⟨kf, hkf⟩ : ∃ kf : Nat → Nat, kf = fun i => (l.drop m16).getD i 0 := ⟨_, rfl⟩
    have HC := Lib.hid (show ∀ j v, (arr .u8 16 kf)[j]? = some v → V9.cell? ((⟨b, off + m16, none⟩ : Addr).add j) = some v from fun j v hj => by
      rcases D9.out.2.2 with ⟨h, _⟩ | ⟨x, cp, h, _, hc⟩
      · cases h
      · simp only [Value.slice.injEq, Option.some.injEq] at h
        obtain ⟨rfl, -, -⟩ := h
        have hj16 : j < 16 := by
          rcases Nat.lt_or_ge j 16 with h' | h'
          · exact h'
          · rw [Array.getElem?_eq_none (by rw [arr_size]; exact h')] at hj; cases hj
        rw [arr_get _ _ _ _ hj16] at hj
        rw [hc j (by omega), ← hj, hkf])
    have KB := Lib.hid (show Aes.B8 kf from fun i => by rw [hkf]; exact D9.out.1.get i)
    have E2 := Lib.hid (show (l.drop m16).take 16 = Sea.nl 16 kf by rw [hkf, nl_getD _ hld, List.take_of_length_le (by omega)])
    clear D9 hlm hpa hld hkf
    go_still_tail 12, (by kernel_rfl)
    refine wpStill_run rfl (.pointer (some ⟨b, off + m16, none⟩)) (exec_arrayPtr rfl rfl) ?_
    refine wpStill_load_arr rfl _ _ rfl ⟨b, off + m16, none⟩ rfl _ _ HC.out rfl rfl (info16s _) ?_
    refine wpStill_buildTo rfl _ _ rfl _ rfl (tk q4 (.slice va4 ss4.length vc4) sx ex kf) (by kernel_rfl) ?_
    refine wpStill_nil ?_
    change wpList _ _ _ _ _ (V9.drewN 1)
    have ZD : Hb (V9.drewN 1) w.heap.size (tk ⟨#[]⟩ (.slice none 0 0) 0 0 fun _ => 0) 41 := Z9
    have GD : w.grownBy (V9.drewN 1) none := only_drewN G9 1
    have OD : OwnS (V9.drewN 1) w.heap.size (.slice va4 ss4.length vc4) ss4 := O9
    have hb4lt : ∀ g, (Value.slice va4 ss4.length vc4).ownBlock = some g → g ≠ w.heap.size := HO4.out
    clear Z9 G9 O9 B9 N9 n0 n1 hs4 HC
    generalize V9.drewN 1 = VD at *
    go_wp2_with (refine wpList_store_rowTo rfl _ _ _ rfl rfl w.heap.size _ rfl rfl _ _ ZD (info_tk _ _ _ _ _) (by simp only [tk_size]) (tk_one _ _ _ _ _ rfl) ?_)
    try simp only [Exit.inBlock, Exit.then, Exit.noGoto_ret]
    refine bodyPost_ret (results_row_tmp rfl _ _ w.heap.size _ _ (0, 0) _ rfl (ZD.row _).1 rfl rfl (info_tk _ _ _ _ _)) rfl ?_
    rw [E1.out]
    refine ⟨row_own _ ZD GD (Nat.le_refl _), q4, _, ss4, sx, ex, kf, rfl, ?_, hq4, KB.out, ?_⟩
    · exact OD.only (ZD.row _).2 (by
        cases he : (Value.slice va4 ss4.length vc4).ownBlock with
        | none => exact .inl rfl
        | some g => exact .inr (fun e => hb4lt g he (by cases e; rfl)))
    · show tic q4 ss4 sx ex kf = _
      unfold tic
      rw [hn4, E2.out]; rfl
end Go.Proofs.YtnhchdkchohnbaaGreatDoor
