/- Any name is valid as in the reference implementation, and then has its text and its bytes, which lead back to it: for every name the law returns true. No condition. -/
import Derived.Test.YthfbcpbjnfdnkaaNameQ
import Derived.Deep.RegionHeld3
namespace Go.Proofs.Ythfbcpbjnfdnkaa
open Go.ChangeShapes Go.WideShapes Go.ChangeAt Go.RowKit Go.Deep

theorem text_len (q : ByteArray) (ss : List ByteArray) : (Nam.text (nm q ss)).length ≤ 5000 := by
  unfold Nam.text
  cases hv : Nam.valid (nm q ss)
  · simp
  · obtain ⟨hw, h1, h8, hall⟩ := valid_parts hv
    have a := slashed_len (ss.map bl) hall
    rw [List.length_map] at a
    have b := escape_len (bl q)
    have c := (Nam.word_len hw).2
    rw [if_pos rfl]
    simp only [List.length_append, List.length_cons]
    have e1 : (nm q ss).parts = ss.map bl := rfl
    have e2 : (nm q ss).realm = bl q := rfl
    rw [e1, e2]
    omega
theorem parse_nil : Nam.parse [] = none := by decide +kernel
theorem read_nil : (Nam.refRead ⟨[], false⟩).2 = none := by decide +kernel
theorem read_back {n : Nam.N} (h : Nam.valid n = true) : Nam.refRead ⟨Nam.bytes n, false⟩ = (⟨[], false⟩, some n) := by
  have := Nam.refRead_bytes n [] h
  rwa [List.append_nil] at this
set_option maxRecDepth 100000 in
set_option maxHeartbeats 4000000 in
theorem nameMatchesReference_walk (w : World) (q0 : ByteArray) (w0 : q0.size ≤ maxLen) (u0 : Value) (s0 : List ByteArray) (x0 : Ss w u0 s0) :
    Calls Try.prog 10 #[.agg #[.string q0, u0]] w (RetBool true w) := by
  obtain ⟨a0, k0, rfl⟩ := x0.form
  have g := only_alloc (only_refl w none) (.cells #[.string q0, .slice a0 s0.length k0] 53)
  have na := Nb.fresh x0 w0
  clear x0
  go_enter Try.func10, Try.ntmps10
  go_wp2_with fail
  refine (awake_name _).mono ?_
  rintro e W1 ⟨rfl, hb1⟩
  have na1 := na.below hb1
  have g1 := only_trans g (only_of_below hb1 none)
  clear na g hb1
  have c0 := na1.c0
  have c1 := na1.c1
  go_wp2_with fail
  refine (few_any q0 _ s0 _ na1.2.1 w0).mono ?_
  rintro e W2 ⟨rfl, h2⟩
  have na2 := na1.only h2
  have g2 := only_trans g1 h2
  clear na1 g1 h2 c0 c1
  cases hf0 : few q0 s0
  · go_wp2_with fail
    refine (awake_name _).mono ?_
    rintro e w9 ⟨rfl, hb9⟩
    go_wp2_with fail
    go_ret
    exact ⟨rfl, below_of_only (only_trans g2 (only_of_below hb9 none))⟩
  have c0 := na2.c0
  have c1 := na2.c1
  have htl := text_len q0 s0
  go_wp2_with fail
  refine (text_any q0 w0 _ s0 _ na2.2.1).mono ?_
  rintro e W3 ⟨rfl, h3⟩
  have na3 := na2.only h3
  have g3 := only_trans g2 h3
  clear na2 g2 h3 c0 c1
  have hsz : (⟨(Nam.text (nm q0 s0)).toArray⟩ : ByteArray).size ≤ 5000 := by show (Nam.text (nm q0 s0)).toArray.size ≤ _; simpa using htl
  have HT := Lib.hid (show (⟨(Nam.text (nm q0 s0)).toArray⟩ : ByteArray) = ⟨(Nam.text (nm q0 s0)).toArray⟩ from rfl)
  have HTB := Lib.hid (show bl ⟨(Nam.text (nm q0 s0)).toArray⟩ = Nam.text (nm q0 s0) from rfl)
  generalize hTX : (⟨(Nam.text (nm q0 s0)).toArray⟩ : ByteArray) = TX at hsz HTB ⊢
  have HX := Lib.hid hTX; clear hTX HT htl
  have c0 := na3.c0
  have c1 := na3.c1
  go_wp2_with fail
  refine (nbytes_any q0 w0 _ s0 _ na3.2.1).mono ?_
  rintro e W4 ⟨hb4, ht⟩
  have na4 := na3.below hb4
  have g4 := only_trans g3 (only_of_below hb4 none)
  clear na3 g3 hb4 c0 c1
  have na4d : Nb W4.drew w.heap.size q0 (.slice a0 s0.length k0) s0 := na4
  have g4d : w.grownBy W4.drew none := ⟨g4.os, g4.tape, g4.output, g4.size, g4.block⟩
  have c0 := na4.c0
  have c1 := na4.c1
  cases hv : Nam.valid (nm q0 s0)
  · rw [if_neg (by rw [hv]; simp)] at ht
    rcases ht with ⟨_, rfl⟩ | ⟨l, v, hl, _⟩
    rotate_left
    · cases hl
    go_wp2_with fail
    go_region_held3 (fun w' => w'.cell? ⟨w.heap.size, 0, none⟩ = some (.string q0) ∧ w'.cell? ⟨w.heap.size, 1, none⟩ = some (.slice a0 s0.length k0)) (first | exact ⟨c0, c1⟩ | exact ⟨c0', c1'⟩) (first
      | (go_at_call 38; refine (valid_any q0 w0 _ s0 _ (by exact na4d.2.1)).mono ?_; rintro e w5 ⟨rfl, h5⟩; rw [hv]; have na5 := na4d.only h5; have g5 := only_trans g4d h5; have c0' := na5.c0; have c1' := na5.c1)
      | (go_at_call 36; refine (refvalid_any q0 w0 _ s0 w5 (by exact na5.2.1)).mono ?_; rintro e w6 ⟨rfl, h6⟩; rw [hv]; have na6 := na5.only h6; have g6 := only_trans g5 h6; have c0' := na6.c0; have c1' := na6.c1)
      | (go_at_call 39; refine (reftext_any q0 w0 _ s0 w6 (by exact na6.2.1)).mono ?_; rintro e w7 ⟨rfl, h7⟩; rw [HX.out]; have na7 := na6.only h7; have g7 := only_trans g6 h7; have c0' := na7.c0; have c1' := na7.c1)
      | (go_at_call 36; refine (refvalid_any q0 w0 _ s0 w7 (by exact na7.2.1)).mono ?_; rintro e w8 ⟨rfl, h8⟩; rw [hv]; have na8 := na7.only h8; have g8 := only_trans g7 h8; have c0' := na8.c0; have c1' := na8.c1))
    have HTN := Lib.hid (show bl TX = [] by rw [HTB.out]; unfold Nam.text; rw [hv]; rfl)
    clear c0' c1' c0 c1 na4 g4 na4d g4d
    go_wp2_with fail
    refine (parse_any TX _ (by unfold maxLen; omega)).mono ?_
    rintro e wa ⟨ha, va, sa, ra, rfl, oa, hra, hna⟩
    rw [HTN.out, parse_nil] at hna ⊢
    obtain ⟨rfl, rfl⟩ := (nm_inj (r := ra) (ss := sa) (q := ⟨#[]⟩) (tt := [])).1 hna
    obtain ⟨xa, ya, rfl⟩ : ∃ a c, va = .slice a 0 c := oa.ss.form
    have ga := only_alloc (only_trans g8 ha) (.cells #[.string ⟨#[]⟩, .slice xa 0 ya] 53)
    clear oa ha hna
    obtain ⟨x0, x1, x2, x3, x4, x5⟩ := zero_two wa ⟨#[]⟩
    go_wp2_with fail
    refine (new_any _ [] _ ⟨AllB.nil, by simp, .inl ⟨rfl, rfl⟩⟩ (by simp)).mono ?_
    rintro e wb ⟨p, rfl, hp, hrd, hbb⟩
    clear x0 x1 x2 x3 x4 x5
    go_wp2_with fail
    refine (nread_any p _ wb hrd (by simp)).mono ?_
    rintro e wc ⟨gc, ⟨vc, sc, qc, rfl, oc, hqc, hnc⟩, _⟩
    rw [read_nil] at hnc ⊢
    obtain ⟨rfl, rfl⟩ := (nm_inj (r := qc) (ss := sc) (q := ⟨#[]⟩) (tt := [])).1 hnc
    obtain ⟨xc, yc, rfl⟩ : ∃ a c, vc = .slice a 0 c := oc.ss.form
    have Bc := hbb.trans (below_reader gc hp hbb.size)
    have gc := only_alloc (only_trans ga (only_of_below Bc none)) (.cells #[.string ⟨#[]⟩, .slice xc 0 yc] 53)
    clear oc hnc Bc hbb hrd
    obtain ⟨x0, x1, x2, x3, x4, x5⟩ := zero_two wc ⟨#[]⟩
    go_wp2_with fail
    go_ret
    exact ⟨rfl, below_of_only gc⟩
  · rw [if_pos hv] at ht
    rcases ht with ⟨hno, _⟩ | ⟨l, v, hl, rfl, o4⟩
    · cases hno
    cases hl
    have O4 := o4.bs.rs
    obtain ⟨b4, k4, rfl⟩ := o4.form
    clear o4
    go_wp2_with fail
    go_region_held3 (fun w' => w'.cell? ⟨w.heap.size, 0, none⟩ = some (.string q0) ∧ w'.cell? ⟨w.heap.size, 1, none⟩ = some (.slice a0 s0.length k0)) (first | exact ⟨c0, c1⟩ | exact ⟨c0', c1'⟩) (first
      | (go_at_call 38; refine (valid_any q0 w0 _ s0 _ (by exact na4d.2.1)).mono ?_; rintro e w5 ⟨rfl, h5⟩; rw [hv]; have na5 := na4d.only h5; have g5 := only_trans g4d h5; have c0' := na5.c0; have c1' := na5.c1)
      | (go_at_call 36; refine (refvalid_any q0 w0 _ s0 w5 (by exact na5.2.1)).mono ?_; rintro e w6 ⟨rfl, h6⟩; rw [hv]; have na6 := na5.only h6; have g6 := only_trans g5 h6; have c0' := na6.c0; have c1' := na6.c1)
      | (go_at_call 39; refine (reftext_any q0 w0 _ s0 w6 (by exact na6.2.1)).mono ?_; rintro e w7 ⟨rfl, h7⟩; rw [HX.out]; have na7 := na6.only h7; have g7 := only_trans g6 h7; have c0' := na7.c0; have c1' := na7.c1)
      | (go_at_call 36; refine (refvalid_any q0 w0 _ s0 w7 (by exact na7.2.1)).mono ?_; rintro e w8 ⟨rfl, h8⟩; rw [hv]; have na8 := na7.only h8; have g8 := only_trans g7 h8; have c0' := na8.c0; have c1' := na8.c1))
    have R8 := O4.below ((Below.drew (Below.refl _ W4)).trans (below_of_only (only_trans (only_trans (only_trans h5 h6) h7) h8) |>.mono (by simp)))
    clear c0 c1 na4 g4 na4d g4d O4 h5 h6 h7 h8 na5 na6 na7 g5 g6 g7
    have hbl := Nam.bytes_len hv
    go_wp2_with fail
    refine (parse_any TX _ (by unfold maxLen; omega)).mono ?_
    rintro e wa ⟨ha, va, sa, ra, rfl, oa, hra, hna⟩
    have hps : Nam.parse (bl TX) = some (nm q0 s0) := by rw [HTB.out]; exact (Nam.parse_iff _ _).2 ⟨hv, rfl⟩
    rw [hps] at hna ⊢
    obtain ⟨rfl, rfl⟩ := nm_inj.1 hna
    obtain ⟨xa, ya, rfl⟩ := oa.ss.form
    have na9 := (na8.only ha).alloc (.cells #[.string ra, .slice xa sa.length ya] 53)
    have ma := Nb.fresh oa.ss hra
    have ga := only_alloc (only_trans g8 ha) (.cells #[.string ra, .slice xa sa.length ya] 53)
    have Ra := (R8.below (below_of_only ha)).below (below_of_only (only_alloc (only_refl wa none) (.cells #[.string ra, .slice xa sa.length ya] 53)))
    clear oa ha hna na8 g8 R8 hps
    obtain ⟨x0, x1, x2, x3, x4, x5⟩ := zero_two wa ra
    go_wp2_with fail
    refine (new_any _ _ _ Ra (by omega)).mono ?_
    rintro e wb ⟨p, rfl, hp, hrd, hbb⟩
    clear x0 x1 x2 x3 x4 x5
    go_wp2_with fail
    refine (nread_any p _ wb hrd (by show (Nam.bytes _).length ≤ _; omega)).mono ?_
    rintro e wc ⟨gc, ⟨vc, sc, qc, rfl, oc, hqc, hnc⟩, hrc⟩
    rw [read_back hv] at hnc hrc ⊢
    obtain ⟨rfl, rfl⟩ := nm_inj.1 hnc
    have hrc := hrc rfl
    obtain ⟨xc, yc, rfl⟩ := oc.ss.form
    have Bc := hbb.trans (below_reader gc hp hbb.size)
    have nc := (na9.below Bc).alloc (.cells #[.string qc, .slice xc sc.length yc] 53)
    have mc := (ma.below Bc).alloc (.cells #[.string qc, .slice xc sc.length yc] 53)
    have kc := Nb.fresh oc.ss hqc
    have gc := only_alloc (only_trans ga (only_of_below Bc none)) (.cells #[.string qc, .slice xc sc.length yc] 53)
    have Rc := (Ra.below Bc).below (below_of_only (only_alloc (only_refl wc none) (.cells #[.string qc, .slice xc sc.length yc] 53)))
    have hrd := hrc.only (only_alloc (only_refl wc none) (.cells #[.string qc, .slice xc sc.length yc] 53))
    clear oc hnc Bc hbb na9 ma ga Ra hrc hp
    obtain ⟨x0, x1, x2, x3, x4, x5⟩ := zero_two wc qc
    have c0 := nc.c0
    have c1 := nc.c1
    go_wp2_with fail
    refine (refbytes_any qc _ sc _ nc.2.1 hv).mono ?_
    rintro e wd ⟨vd, rfl, od, hbd⟩
    have nd := nc.below hbd
    have md := mc.below hbd
    have kd := kc.below hbd
    have gd := only_trans gc (only_of_below hbd none)
    have Rd1 := Rc.below hbd
    have Rd2 := od.bs.rs
    have hrd2 := hrd.below hbd
    obtain ⟨bd, kd1, rfl⟩ := od.form
    clear od nc mc kc gc Rc hrd hbd c0 c1 x0 x1 x2 x3 x4 x5
    go_wp2_with fail
    refine (same_yes _ _ _ _ Rd1 Rd2).mono ?_
    rintro e we ⟨rfl, hbe⟩
    have ne := nd.below hbe
    have me := md.below hbe
    have ke := kd.below hbe
    have ge := only_trans gd (only_of_below hbe none)
    have hre := hrd2.below hbe
    clear nd md kd gd Rd1 Rd2 hrd2 hbe
    have c0 := ne.c0
    have c1 := ne.c1
    have d0 := me.c0
    have d1 := me.c1
    go_wp2_with fail
    refine (refsame_name qc qc _ _ sc sc _ me.2.1 ne.2.1).mono ?_
    rintro e wf ⟨rfl, hf⟩
    rw [show decide (qc = qc ∧ sc = sc) = true from decide_eq_true ⟨rfl, rfl⟩]
    have nf := ne.only hf
    have kf := ke.only hf
    have gf := only_trans ge hf
    have hrf := hre.only hf
    clear ne me ke ge hre hf c0 c1 d0 d1
    have c0 := nf.c0
    have c1 := nf.c1
    have d0 := kf.c0
    have d1 := kf.c1
    go_wp2_with fail
    refine (refsame_name qc qc _ _ sc sc _ kf.2.1 nf.2.1).mono ?_
    rintro e wg ⟨rfl, hg⟩
    rw [show decide (qc = qc ∧ sc = sc) = true from decide_eq_true ⟨rfl, rfl⟩]
    have gg := only_trans gf hg
    have hrg := hrf.only hg
    clear nf kf gf hrf hg c0 c1 d0 d1
    go_wp2_with fail
    refine (done_any p _ _ hrg).mono ?_
    rintro e wh ⟨rfl, rfl⟩
    go_wp2_with fail
    go_ret
    exact ⟨rfl, below_of_only gg⟩

/-! ### THE ROW's STEP -/
namespace nameMatchesReferenceF
theorem own : ownKnob Try.prog.godebug = none := by kernel_rfl
theorem laidOut : laidOutB Try.prog = true := by kernel_rfl
set_option maxRecDepth 100000 in
theorem lifted (os : Os) (started : os.Started) (H : Type) (enc : TypeId × Value → H) :
    ReturnsInHanded {} Try.checked os 10 .any (Rows.nameMatchesReferenceSpec.pre6 enc Try.prog Try.f10 Rows.nameMatchesReferenceRow.domain false) (Rows.nameMatchesReferenceSpec.post enc Try.prog Try.f10 false true false false) := by
  refine returnsInHanded_of_change (C := Try.checked) own started (by kernel_rfl) Try.func10
    (ChangeSpec.witness6 (enc := enc) (C := Try.checked) false ⟨#[], #[.agg #[.string ByteArray.empty, .slice none 0 0]], []⟩ 8 (by kernel_rfl) (by kernel_rfl) (by kernel_rfl) (by kernel_rfl)) ?_
  intro W base args ds gs before hval0 hW _ _
  have hval : ∀ (j : Nat) t v, Try.f10.params[j]? = some t → args[j]? = some v → Value.okWide Try.prog W .any base t v := hval0
  have hW' := hW
  obtain ⟨p, q, hA0, hV, rfl, _, _⟩ := hW
  have hA : DataW.TrodAll enc Try.prog W 0 (fun _ => true) true Try.f10.params.toList args.toList ds p := hA0
  rw [Try.params10] at hA hval
  obtain ⟨v0, vs0, d0, ds0, p0, q0, hargs, rfl, rfl, h0, r0⟩ := trodAll_cons hA
  obtain ⟨rfl, rfl, rfl⟩ := trodAll_nil r0
  obtain rfl : args = #[v0] := by cases args; simp_all
  obtain ⟨rfl, rfl⟩ := trodVars_none hV
  have k0 := h0
  have lt0 : ∀ x ∈ p0, x.block < W.heap.size := by obtain ⟨m, hm⟩ := k0; exact DataW.trod_lt m _ _ _ hm
  obtain ⟨q0, u0, ss0, rfl, w0, x0⟩ := open_name (hval 0 53 v0 rfl rfl) h0
  refine (nameMatchesReference_walk W q0 w0 u0 ss0 x0).mono fun e W' ⟨he, bel⟩ => ?_
  subst he
  exact ⟨_, rfl, _, _, _, [], _, [], hW', trodAll_mk1 (shut_bool Try.underlying4 _), (trodAll_cons_mk (Below.trod laidOut (by kernel_rfl) (of_decide_eq_true (by kernel_rfl)) k0 bel lt0) trodAll_mk0), rfl, bel.frame _, fun h => by cases h⟩
theorem over : Rows.nameMatchesReferenceRow.holds Try.pinned (OpenSpec.ofChange Rows.nameMatchesReferenceSpec) :=
  OpenClaim.holds_of_wide 10 Try.f10 rfl rfl rfl rfl rfl rfl rfl ⟨rfl, rfl, rfl, rfl, rfl⟩ rfl rfl rfl rfl rfl (by kernel_rfl) Try.func10 (by kernel_rfl)
    (of_decide_eq_true (by kernel_rfl)) (by unfold Func.isWrapper; first | (rw [if_pos (by decide +kernel)]; kernel_rfl) | (rw [if_neg (by decide +kernel)]; exact ⟨rfl, rfl⟩))
    (fun os started H enc _ => lifted os started H enc)
end nameMatchesReferenceF
/-- The statement. -/
theorem nameMatchesReference_holds : Rows.NameMatchesReferenceSaid := nameMatchesReferenceF.over
#print axioms nameMatchesReference_holds
end Go.Proofs.Ythfbcpbjnfdnkaa
