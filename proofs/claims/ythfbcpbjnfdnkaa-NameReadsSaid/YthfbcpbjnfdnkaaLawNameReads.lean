/- Any bytes begin with the bytes of the name of the reference implementation, or of none; the reader is after them then: for every bytes the law returns true. No condition. -/
import Derived.Test.YthfbcpbjnfdnkaaNameQ
namespace Go.Proofs.Ythfbcpbjnfdnkaa
open Go.ChangeShapes Go.WideShapes Go.ChangeAt Go.RowKit Go.Deep

set_option maxRecDepth 100000 in
set_option maxHeartbeats 4000000 in
theorem nameReads_walk (w : World) (v : Value) (l : List Nat) (h : Rs w v l) :
    Calls Try.prog 11 #[v] w (RetBool true w) := by
  obtain ⟨a, cap, rfl⟩ := h.form
  have hn := h.2.1
  by_cases hc : 500 < l.length
  · clear h
    go_enter Try.func11, Try.ntmps11
    go_wp2_with fail
    refine (awake_name _).mono ?_
    rintro e w1 ⟨rfl, hb1⟩
    have B1 := Lib.hid hb1; clear hb1
    go_wp2_with fail
    refine (awake_name _).mono ?_
    rintro e w2 ⟨rfl, hb2⟩
    have B2 := Lib.hid (B1.out.trans (hb2.mono B1.out.size)); clear hb2 B1
    go_wp2_with fail
    go_ret
    exact ⟨rfl, B2.out⟩
  have H := Lib.hid h; clear h
  go_enter Try.func11, Try.ntmps11
  go_wp2_with fail
  refine (awake_name _).mono ?_
  rintro e w1 ⟨rfl, hb1⟩
  have g1 := only_of_below hb1 none
  clear hb1
  go_wp2_with fail
  all_goals first | omega | skip
  refine (new_any _ l _ (H.out.below (below_of_only g1)) (by omega)).mono ?_
  rintro e w2 ⟨p, rfl, hp, hrd, hb2⟩
  have g2 := only_trans g1 (only_of_below hb2 none)
  have hp0 := Nat.le_trans g1.size hp
  clear hp hb2 g1
  go_wp2_with fail
  refine (nread_any p ⟨l, false⟩ w2 hrd (by show l.length ≤ _; omega)).mono ?_
  rintro e w3 ⟨g3, ⟨v3, ss3, q3, rfl, o3, hq3, hn3⟩, hrd3⟩
  have hlen := loopR_len
  have B3 : Below w.heap.size w w3 := (below_of_only g2).trans (below_reader g3 hp0 g2.size)
  obtain ⟨va3, vc3, rfl⟩ := o3.ss.form
  have m3 := Nb.fresh o3.ss hq3
  have hp2 := hrd.lt
  have G3 : w.grownBy (w3.alloc (.cells #[.string q3, .slice va3 ss3.length vc3] 53)) none := only_alloc (only_of_below B3 none) _
  clear o3 hrd g2 hlen
  have hpw : p < w3.heap.size := Nat.lt_of_lt_of_le hp2 g3.size
  clear g3 hp2
  obtain ⟨x0, x1, x2, x3, x4, x5⟩ := zero_two w3 q3
  go_wp2_with fail
  refine (refread_any w _ ⟨l, false⟩ _ H.out (below_of_only G3) (by show l.length ≤ _; omega)).mono ?_
  rintro e w4 ⟨h4, u4, v4, ss4, q4, rfl, rs4, o4, hq4, hn4⟩
  obtain ⟨rfl, rfl⟩ := nm_inj.1 (hn4.trans hn3.symm)
  obtain ⟨va4, vc4, rfl⟩ := o4.ss.form
  obtain ⟨ua4, uc4, rfl⟩ := rs4.form
  have HOS := Lib.hid (rfl : Nam.refRead ⟨l, false⟩ = Nam.refRead ⟨l, false⟩)
  generalize Nam.refRead ⟨l, false⟩ = R at *
  obtain ⟨⟨Rl, Rb⟩, o⟩ := R
  dsimp only at hrd3 hn3 hn4 rs4 ⊢
  clear hn4
  have m4 := m3.only h4
  have G4 := only_trans G3 h4
  have s4 := o4.ss
  have hs4 := h4.size
  have hpw4 : p < w4.heap.size := by simp at hs4; omega
  have RD4 : o.isSome = true → Rd w4 p ⟨Rl, Rb⟩ := fun ho => (hrd3 ho).below ((below_of_only (only_alloc (only_refl w3 none) (.cells #[.string q4, .slice va3 ss4.length vc3] 53))).trans (below_of_only h4 |>.mono (by simp)))
  have RD4 := Lib.hid RD4
  clear x0 x1 x2 x3 x4 x5 m3 G3 h4 o4 hrd3 hs4
  have RA := (Hb.new w4 #[.slice none 0 0, .bool false] 40).alloc (.cells #[.string ⟨#[]⟩, .slice none 0 0] 53)
  have NA := Hb.new (w4.alloc (.cells #[.slice none 0 0, .bool false] 40)) #[.string ⟨#[]⟩, .slice none 0 0] 53
  simp only [World.size_alloc] at NA
  obtain ⟨x0, x1, x2, x3, x4, x5⟩ := RA.two (.slice ua4 Rl.length uc4)
  have RB := RA.sets (.slice ua4 Rl.length uc4) (.bool Rb)
  have NB := (NA.far (p := ⟨w4.heap.size, 0, none⟩) (Nat.succ_ne_self _) (.slice ua4 Rl.length uc4)).far (p := ⟨w4.heap.size, 1, none⟩) (Nat.succ_ne_self _) (.bool Rb)
  obtain ⟨y0, y1, y2, y3, y4, y5⟩ := NB.two (.string q4)
  have m5 := (m4.alloc (.cells #[.slice ua4 Rl.length uc4, .bool Rb] 40)).alloc (.cells #[.string q4, .slice va4 ss4.length vc4] 53)
  have n5 := Nb.fresh (s4.only (only_alloc (only_refl w4 none) (.cells #[.slice ua4 Rl.length uc4, .bool Rb] 40))) hq4
  have RC := (Hb.new w4 #[.slice ua4 Rl.length uc4, .bool Rb] 40).alloc (.cells #[.string q4, .slice va4 ss4.length vc4] 53)
  have G5 := only_alloc (only_alloc G4 (.cells #[.slice ua4 Rl.length uc4, .bool Rb] 40)) (.cells #[.string q4, .slice va4 ss4.length vc4] 53)
  have k5 := only_alloc (only_alloc (only_refl w4 none) (.cells #[.slice ua4 Rl.length uc4, .bool Rb] 40)) (.cells #[.string q4, .slice va4 ss4.length vc4] 53)
  simp only [World.size_alloc] at n5
  have c0 := m5.c0
  have c1 := m5.c1
  have d0 := n5.c0
  have d1 := n5.c1
  go_wp2_with fail
  refine (refsame_name q4 q4 _ _ ss4 ss4 _ m5.2.1 n5.2.1).mono ?_
  rintro e w6 ⟨rfl, h6⟩
  rw [show decide (q4 = q4 ∧ ss4 = ss4) = true from decide_eq_true ⟨rfl, rfl⟩]
  have R6 := RC.only h6
  have G6 := only_trans G5 h6
  have K6 := Lib.hid (below_of_only (only_trans k5 h6))
  clear x0 x1 x2 x3 x4 x5 y0 y1 y2 y3 y4 y5 c0 c1 d0 d1 m5 n5 RC G5 h6 k5 NB RB NA RA
  have G6 : w.grownBy w6.drew none := ⟨G6.os, G6.tape, G6.output, G6.size, G6.block⟩
  cases o with
  | none =>
    go_wp2_with fail
    go_region
    all_goals (
      go_wp2_with fail
      go_ret
      exact ⟨rfl, below_of_only G6⟩)
  | some n =>
    have rd6 : Rd w6.drew p ⟨Rl, Rb⟩ := (RD4.out rfl).below (Below.drew K6.out)
    have r0 := R6.cell (i := 0) rfl
    have r1 := R6.cell (i := 1) rfl
    go_wp2_with fail
    go_region_with (go_at_call 29; refine (left_any p ⟨Rl, Rb⟩ _ rd6).mono ?_; rintro e w9 ⟨rfl, rfl⟩)
    all_goals (
      go_wp2_with fail
      go_ret
      exact ⟨rfl, below_of_only G6⟩)

/-! ### THE ROW's STEP -/
namespace nameReadsF
theorem own : ownKnob Try.prog.godebug = none := by kernel_rfl
theorem laidOut : laidOutB Try.prog = true := by kernel_rfl
set_option maxRecDepth 100000 in
theorem lifted (os : Os) (started : os.Started) (H : Type) (enc : TypeId × Value → H) :
    ReturnsInHanded {} Try.checked os 11 .any (Rows.nameReadsSpec.pre6 enc Try.prog Try.f11 Rows.nameReadsRow.domain false) (Rows.nameReadsSpec.post enc Try.prog Try.f11 false true false false) := by
  refine returnsInHanded_of_change (C := Try.checked) own started (by kernel_rfl) Try.func11
    (ChangeSpec.witness6 (enc := enc) (C := Try.checked) false ⟨#[], #[.slice none 0 0], []⟩ 8 (by kernel_rfl) (by kernel_rfl) (by kernel_rfl) (by kernel_rfl)) ?_
  intro W base args ds gs before hval0 hW _ _
  have hval : ∀ (j : Nat) t v, Try.f11.params[j]? = some t → args[j]? = some v → Value.okWide Try.prog W .any base t v := hval0
  have hW' := hW
  obtain ⟨p, q, hA0, hV, rfl, _, _⟩ := hW
  have hA : DataW.TrodAll enc Try.prog W 0 (fun _ => true) true Try.f11.params.toList args.toList ds p := hA0
  rw [Try.params11] at hA hval
  obtain ⟨v0, vs0, d0, ds0, p0, q0, hargs, rfl, rfl, h0, r0⟩ := trodAll_cons hA
  obtain ⟨rfl, rfl, rfl⟩ := trodAll_nil r0
  obtain rfl : args = #[v0] := by cases args; simp_all
  obtain ⟨rfl, rfl⟩ := trodVars_none hV
  have k0 := h0
  have lt0 : ∀ x ∈ p0, x.block < W.heap.size := by obtain ⟨m, hm⟩ := k0; exact DataW.trod_lt m _ _ _ hm
  obtain ⟨a0, len0, cap0, rfl⟩ := okWide_slice Try.underlying23 (hval 0 23 v0 rfl rfl)
  obtain ⟨z0, w0⟩ := open_bytes Try.underlying23 Try.underlying5 (by kernel_rfl) h0
  refine (nameReads_walk W _ z0 w0).mono fun e W' ⟨he, bel⟩ => ?_
  subst he
  exact ⟨_, rfl, _, _, _, [], _, [], hW', trodAll_mk1 (shut_bool Try.underlying4 _), (trodAll_cons_mk (Below.trod laidOut (by kernel_rfl) (of_decide_eq_true (by kernel_rfl)) k0 bel lt0) trodAll_mk0), rfl, bel.frame _, fun h => by cases h⟩
theorem over : Rows.nameReadsRow.holds Try.pinned (OpenSpec.ofChange Rows.nameReadsSpec) :=
  OpenClaim.holds_of_wide 11 Try.f11 rfl rfl rfl rfl rfl rfl rfl ⟨rfl, rfl, rfl, rfl, rfl⟩ rfl rfl rfl rfl rfl (by kernel_rfl) Try.func11 (by kernel_rfl)
    (of_decide_eq_true (by kernel_rfl)) (by unfold Func.isWrapper; first | (rw [if_pos (by decide +kernel)]; kernel_rfl) | (rw [if_neg (by decide +kernel)]; exact ⟨rfl, rfl⟩))
    (fun os started H enc _ => lifted os started H enc)
end nameReadsF
/-- The statement. -/
theorem nameReads_holds : Rows.NameReadsSaid := nameReadsF.over
#print axioms nameReads_holds
end Go.Proofs.Ythfbcpbjnfdnkaa
