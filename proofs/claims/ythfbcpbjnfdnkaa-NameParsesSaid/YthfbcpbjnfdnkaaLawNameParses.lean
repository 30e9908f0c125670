/- Any string is the text of the name of the reference implementation, or of none: for every string the law returns true. No condition. -/
import Derived.Test.YthfbcpbjnfdnkaaNameQ
namespace Go.Proofs.Ythfbcpbjnfdnkaa
open Go.ChangeShapes Go.WideShapes Go.ChangeAt Go.RowKit Go.Deep

set_option maxRecDepth 100000 in
set_option maxHeartbeats 4000000 in
theorem nameParses_walk (s : ByteArray) (hs : s.size ≤ maxLen) (w : World) :
    Calls Try.prog 8 #[.string s] w (RetBool true w) := by
  unfold maxLen at hs
  by_cases hc : 500 < s.size
  · go_enter Try.func8, Try.ntmps8
    go_wp2_with fail
    refine (awake_name _).mono ?_
    rintro e w1 ⟨rfl, hb1⟩
    have B1 := Lib.hid hb1; clear hb1
    go_wp2_with fail
    refine (awake_name _).mono ?_
    rintro e w2 ⟨rfl, hb2⟩
    have B2 := Lib.hid (B1.out.trans (hb2.mono B1.out.size)); clear hb2 B1
    go_wp2_with fail
    go_ret
    exact ⟨rfl, B2.out⟩
  have HP := Lib.hid (Nam.parse_ref (bl s))
  go_enter Try.func8, Try.ntmps8
  go_wp2_with fail
  refine (awake_name _).mono ?_
  rintro e w1 ⟨rfl, hb1⟩
  have g1 := only_of_below hb1 none
  clear hb1
  go_wp2_with fail
  all_goals first | omega | skip
  refine (parse_any s _ (by unfold maxLen; omega)).mono ?_
  rintro e w2 ⟨h2, v2, ss2, r2, rfl, o2, hr2, hn2⟩
  obtain ⟨va2, vc2, rfl⟩ := o2.ss.form
  have m2 := Nb.fresh o2.ss hr2
  have g2 := only_alloc (only_trans g1 h2) (.cells #[.string r2, .slice va2 ss2.length vc2] 53)
  clear o2 h2 g1
  obtain ⟨x0, x1, x2, x3, x4, x5⟩ := zero_two w2 r2
  go_wp2_with fail
  refine (refparse_any s _ (by omega)).mono ?_
  rintro e w3 ⟨h3, v3, ss3, r3, rfl, o3, hr3, hn3⟩
  rw [← HP.out] at hn3 ⊢
  obtain ⟨rfl, rfl⟩ := nm_inj.1 (hn3.trans hn2.symm)
  obtain ⟨va3, vc3, rfl⟩ := o3.ss.form
  have m3 := (m2.only h3).alloc (.cells #[.string r3, .slice va3 ss3.length vc3] 53)
  have n3 := Nb.fresh o3.ss hr3
  have g3 := only_alloc (only_trans g2 h3) (.cells #[.string r3, .slice va3 ss3.length vc3] 53)
  clear x0 x1 x2 x3 x4 x5 m2 g2 h3 o3 hn3 hr2
  obtain ⟨x0, x1, x2, x3, x4, x5⟩ := zero_two w3 r3
  have c0 := m3.c0
  have c1 := m3.c1
  have HPI := Lib.hid (Nam.parse_iff (bl s))
  generalize Nam.parse (bl s) = o at *
  go_wp2_with fail
  refine (refsame_name r3 r3 _ _ ss3 ss3 _ m3.2.1 n3.2.1).mono ?_
  rintro e w4 ⟨rfl, h4⟩
  rw [show decide (r3 = r3 ∧ ss3 = ss3) = true from decide_eq_true ⟨rfl, rfl⟩]
  have m4 := m3.only h4
  have g4 := only_trans g3 h4
  clear x0 x1 x2 x3 x4 x5 c0 c1 m3 n3 g3 h4
  have c0 := m4.c0
  have c1 := m4.c1
  cases o with
  | none =>
    go_wp2_with fail
    go_ret
    exact ⟨rfl, below_of_only g4⟩
  | some n =>
    have HT := Lib.hid (show (⟨(Nam.text (nm r3 ss3)).toArray⟩ : ByteArray) = s by
      rw [show nm r3 ss3 = n from hn2, ((HPI.out n).1 rfl).2, mk_bl])
    go_wp2_with fail
    refine (text_any r3 hr3 _ ss3 _ m4.2.1).mono ?_
    rintro e w5 ⟨rfl, h5⟩
    rw [HT.out]
    have g5 := only_trans g4 h5
    clear c0 c1 m4 g4 h5
    go_wp2_with fail
    go_ret
    exact ⟨rfl, below_of_only g5⟩

/-! ### THE ROW's STEP -/
namespace nameParsesF
theorem own : ownKnob Try.prog.godebug = none := by kernel_rfl
theorem laidOut : laidOutB Try.prog = true := by kernel_rfl
set_option maxRecDepth 100000 in
theorem lifted (os : Os) (started : os.Started) (H : Type) (enc : TypeId × Value → H) :
    ReturnsInHanded {} Try.checked os 8 .any (Rows.nameParsesSpec.pre6 enc Try.prog Try.f8 Rows.nameParsesRow.domain false) (Rows.nameParsesSpec.post enc Try.prog Try.f8 false true false false) := by
  refine returnsInHanded_of_change (C := Try.checked) own started (by kernel_rfl) Try.func8
    (ChangeSpec.witness6 (enc := enc) (C := Try.checked) false ⟨#[], #[.string ByteArray.empty], []⟩ 8 (by kernel_rfl) (by kernel_rfl) (by kernel_rfl) (by kernel_rfl)) ?_
  intro W base args ds gs before hval0 hW _ _
  have hval : ∀ (j : Nat) t v, Try.f8.params[j]? = some t → args[j]? = some v → Value.okWide Try.prog W .any base t v := hval0
  have hW' := hW
  obtain ⟨p, q, hA0, hV, rfl, _, _⟩ := hW
  have hA : DataW.TrodAll enc Try.prog W 0 (fun _ => true) true Try.f8.params.toList args.toList ds p := hA0
  rw [Try.params8] at hA hval
  obtain ⟨v0, vs0, d0, ds0, p0, q0, hargs, rfl, rfl, h0, r0⟩ := trodAll_cons hA
  obtain ⟨rfl, rfl, rfl⟩ := trodAll_nil r0
  obtain rfl : args = #[v0] := by cases args; simp_all
  obtain ⟨rfl, rfl⟩ := trodVars_none hV
  have k0 := h0
  have lt0 : ∀ x ∈ p0, x.block < W.heap.size := by obtain ⟨m, hm⟩ := k0; exact DataW.trod_lt m _ _ _ hm
  obtain ⟨a0, rfl, _, _, w0⟩ := Go.ChangeMaps.open_string Try.underlying9 (hval 0 9 v0 rfl rfl) h0
  refine (nameParses_walk a0 w0 W).mono fun e W' ⟨he, bel⟩ => ?_
  subst he
  exact ⟨_, rfl, _, _, _, [], _, [], hW', trodAll_mk1 (shut_bool Try.underlying4 _), (trodAll_cons_mk (Below.trod laidOut (by kernel_rfl) (of_decide_eq_true (by kernel_rfl)) k0 bel lt0) trodAll_mk0), rfl, bel.frame _, fun h => by cases h⟩
theorem over : Rows.nameParsesRow.holds Try.pinned (OpenSpec.ofChange Rows.nameParsesSpec) :=
  OpenClaim.holds_of_wide 8 Try.f8 rfl rfl rfl rfl rfl rfl rfl ⟨rfl, rfl, rfl, rfl, rfl⟩ rfl rfl rfl rfl rfl (by kernel_rfl) Try.func8 (by kernel_rfl)
    (of_decide_eq_true (by kernel_rfl)) (by unfold Func.isWrapper; first | (rw [if_pos (by decide +kernel)]; kernel_rfl) | (rw [if_neg (by decide +kernel)]; exact ⟨rfl, rfl⟩))
    (fun os started H enc _ => lifted os started H enc)
end nameParsesF
/-- The statement. -/
theorem nameParses_holds : Rows.NameParsesSaid := nameParsesF.over
#print axioms nameParses_holds
end Go.Proofs.Ythfbcpbjnfdnkaa
