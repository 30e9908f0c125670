/- Any part of a stream is that of the reference implementation: for every key, nonce, place and number the law returns true. No condition. -/
import Derived.Test.YtibgmoapkionjaaCtrKit
namespace Go.Proofs.Ytibgmoapkionjaa
open Go.ChangeShapes Go.WideShapes Go.ChangeAt Go.RowKit Go.Deep

attribute [local irreducible] wpAnyH in
set_option maxRecDepth 100000 in
set_option maxHeartbeats 4000000 in
theorem ctrMatchesReference_core (key nonce : Nat → Nat) (hk : Aes.B8 key) (hn : Aes.B8 nonce) (a n : Int) (hn16 : -32768 ≤ n ∧ n ≤ 32767) (w : World) : Calls Try.prog 8 #[.agg (arr .u8 16 key), .agg (arr .u8 8 nonce), .int .i64 a, .int .i16 n] w (RetBool true w) := by
  obtain ⟨x, hx⟩ : ∃ x, x = n.tmod 500 := ⟨_, rfl⟩
  have ex : n.tmod 500 = x := hx.symm
  have hx1 := Int.tmod_lt_of_pos n (show (0 : Int) < 500 by omega)
  have hx2 : -500 < n.tmod 500 := tmod_low n
  rw [ex] at hx1 hx2
  clear hx
  have hsz := arr_size .u8 16 key
  have hsz2 := arr_size .u8 8 nonce
  go_enter Try.func8, Try.ntmps8
  go_wp2_with fail
  refine (ctrAwake_any _).mono ?_
  rintro e w1 ⟨rfl, hb1⟩
  go_upto_region 4 with fail
  obtain ⟨a1, a2, a3⟩ := kn_boxes w key nonce
  have h1 := a1.below hb1 (by simp; omega)
  have h2 := a2.below hb1 (by simp)
  have VB := Lib.hid (a3.trans (hb1.mono (by simp; omega)))
  have VA := Lib.hid (And.intro h1 h2)
  have hz := h2.lt
  clear a1 a2 a3 h1 h2 hb1
  obtain ⟨V, hV⟩ : ∃ V : World, V = w1 := ⟨_, rfl⟩
  rw [← hV] at VA VB hz ⊢
  clear hV
  generalize hn0 : w.heap.size = n0 at VA VB hz ⊢
  obtain ⟨n1, hn1⟩ : ∃ n1, n1 = n0 + 1 := ⟨_, rfl⟩
  rw [← hn1] at VA hz ⊢
  have HN1 := Lib.hid hn1; clear hn1
  have L1 := cells_at VA.out.1
  have L2 := cells_at VA.out.2
  refine wp_reg Try.f8 4 12 (fun w' => Below V.heap.size V w') (by kernel_rfl) (by kernel_rfl) (by kernel_rfl) (below_drewN (Below.refl _ _) 1) (fun K hK h0 => ?_)
  refine reg_cast (listed' := #[false, false, false, false, false, false, false, false, false, false, false, false]) (by kernel_rfl) rfl ?_
  have HF := Lib.hid hK; clear hK
  refine reg_take 2 17 (.int .i64 a) (by kernel_rfl) (fun _ _ => by kernel_rfl) h0 ?_
  simp only [Act.put, List.setIfInBounds_toArray, List.set_cons_zero, List.set_cons_succ]
  refine reg_take 3 18 (.int .i64 x) (by kernel_rfl) (fun _ _ => by kernel_rfl) h0 ?_
  simp only [Act.put, List.setIfInBounds_toArray, List.set_cons_zero, List.set_cons_succ]
  refine reg_take 7 22 (.int .i64 a) (by kernel_rfl) (fun _ _ => by kernel_rfl) h0 ?_
  simp only [Act.put, List.setIfInBounds_toArray, List.set_cons_zero, List.set_cons_succ]
  refine reg_take 8 23 (.int .i64 x) (by kernel_rfl) (fun _ _ => by kernel_rfl) h0 ?_
  simp only [Act.put, List.setIfInBounds_toArray, List.set_cons_zero, List.set_cons_succ]
  refine reg_load 0 15 (by kernel_rfl) _ (.tmp 4) (by kernel_rfl) ⟨n0, 0, none⟩ (by kernel_rfl) (arr .u8 16 key) _ L1 rfl rfl (info16 _) h0 ?_
  simp only [Act.put, List.setIfInBounds_toArray, List.set_cons_zero, List.set_cons_succ]
  refine reg_load 1 16 (by kernel_rfl) _ (.tmp 5) (by kernel_rfl) ⟨n1, 0, none⟩ (by kernel_rfl) (arr .u8 8 nonce) _ L2 rfl rfl (info8 _) h0 ?_
  simp only [Act.put, List.setIfInBounds_toArray, List.set_cons_zero, List.set_cons_succ]
  refine reg_load 5 20 (by kernel_rfl) _ (.tmp 4) (by kernel_rfl) ⟨n0, 0, none⟩ (by kernel_rfl) (arr .u8 16 key) _ L1 rfl rfl (info16 _) h0 ?_
  simp only [Act.put, List.setIfInBounds_toArray, List.set_cons_zero, List.set_cons_succ]
  refine reg_load 6 21 (by kernel_rfl) _ (.tmp 5) (by kernel_rfl) ⟨n1, 0, none⟩ (by kernel_rfl) (arr .u8 8 nonce) _ L2 rfl rfl (info8 _) h0 ?_
  simp only [Act.put, List.setIfInBounds_toArray, List.set_cons_zero, List.set_cons_succ]
  refine reg_call 4 19 26 #[.agg (arr .u8 16 key), .agg (arr .u8 8 nonce), .int .i64 a, .int .i64 x] (by kernel_rfl) (by kernel_rfl) ?_
  refine (ctrstream_any key nonce a x _ hk hn).mono ?_
  rintro e wz ⟨v1, rfl, ho1, hbz⟩
  have h0 := below_then h0 hbz
  refine ⟨_, rfl, h0, ?_⟩
  simp only [Act.put, List.setIfInBounds_toArray, List.set_cons_zero, List.set_cons_succ]
  refine reg_call 9 24 27 #[.agg (arr .u8 16 key), .agg (arr .u8 8 nonce), .int .i64 a, .int .i64 x] (by kernel_rfl) (by kernel_rfl) ?_
  refine (refstream_any key nonce a x _ hk hn).mono ?_
  rintro e wz ⟨v2, rfl, ho2, hbz⟩
  have h0 := below_then h0 hbz
  refine ⟨_, rfl, h0, ?_⟩
  simp only [Act.put, List.setIfInBounds_toArray, List.set_cons_zero, List.set_cons_succ]
  refine reg_call 10 25 25 #[v1, v2] (by kernel_rfl) (by kernel_rfl) ?_
  refine (same_yes _ _ _ _ (ho1.below hbz).bs.rs ho2.bs.rs).mono ?_
  rintro e wz ⟨rfl, hbz⟩
  have h0 := below_then h0 hbz
  refine ⟨_, rfl, h0, ?_⟩
  simp only [Act.put, List.setIfInBounds_toArray, List.set_cons_zero, List.set_cons_succ]
  refine reg_take 11 8 (.bool true) (by kernel_rfl) (fun _ _ => by kernel_rfl) h0 ?_
  simp only [Act.put, List.setIfInBounds_toArray, List.set_cons_zero, List.set_cons_succ]
  refine reg_done (by kernel_rfl) (HF.out _ _ ?_)
  clear HF
  go_wp2_with fail
  go_ret
  subst hn0
  exact ⟨rfl, VB.out.trans (h0.mono VB.out.size)⟩

theorem ctrMatchesReference_walk (f : Nat → Int) (wf : ∀ j, j < 16 → (Lit.int .u8 (f j)).wf = true) (g : Nat → Int) (wg : ∀ j, j < 8 → (Lit.int .u8 (g j)).wf = true) (a : Int) (wa : (Lit.int .i64 a).wf = true) (n : Int) (wn : (Lit.int .i16 n).wf = true) (w : World) :
    Calls Try.prog 8 #[.agg ((List.range 16).map fun i => Value.int .u8 (f i)).toArray, .agg ((List.range 8).map fun i => Value.int .u8 (g i)).toArray, .int .i64 a, .int .i16 n] w (RetBool true w) := by
  obtain ⟨key, hk, e1⟩ := bytes_arg f wf
  obtain ⟨nonce, hn, e2⟩ := bytes_arg g wg
  rw [e1, e2]
  exact ctrMatchesReference_core key nonce hk hn a n (by have := bounds_i16 wn; omega) w

/-! ### THE ROW's STEP -/
namespace ctrMatchesReferenceF
theorem own : ownKnob Try.prog.godebug = none := by kernel_rfl
theorem laidOut : laidOutB Try.prog = true := by kernel_rfl
set_option maxRecDepth 100000 in
theorem lifted (os : Os) (started : os.Started) (H : Type) (enc : TypeId × Value → H) :
    ReturnsInHanded {} Try.checked os 8 .any (Rows.ctrMatchesReferenceSpec.pre6 enc Try.prog Try.f8 Rows.ctrMatchesReferenceRow.domain false) (Rows.ctrMatchesReferenceSpec.post enc Try.prog Try.f8 false true false false) := by
  refine returnsInHanded_of_change (C := Try.checked) own started (by kernel_rfl) Try.func8
    (ChangeSpec.witness6 (enc := enc) (C := Try.checked) false ⟨#[], #[.agg #[.int .u8 0, .int .u8 0, .int .u8 0, .int .u8 0, .int .u8 0, .int .u8 0, .int .u8 0, .int .u8 0, .int .u8 0, .int .u8 0, .int .u8 0, .int .u8 0, .int .u8 0, .int .u8 0, .int .u8 0, .int .u8 0], .agg #[.int .u8 0, .int .u8 0, .int .u8 0, .int .u8 0, .int .u8 0, .int .u8 0, .int .u8 0, .int .u8 0], .int .i64 0, .int .i16 0], []⟩ 8 (by kernel_rfl) (by kernel_rfl) (by kernel_rfl) (by kernel_rfl)) ?_
  intro W base args ds gs before hval0 hW _ _
  have hval : ∀ (j : Nat) t v, Try.f8.params[j]? = some t → args[j]? = some v → Value.okWide Try.prog W .any base t v := hval0
  have hW' := hW
  obtain ⟨p, q, hA0, hV, rfl, _, _⟩ := hW
  have hA : DataW.TrodAll enc Try.prog W 0 (fun _ => true) true Try.f8.params.toList args.toList ds p := hA0
  rw [Try.params8] at hA hval
  obtain ⟨v0, vs0, d0, ds0, p0, q0, hargs, rfl, rfl, h0, r0⟩ := trodAll_cons hA
  obtain ⟨v1, vs1, d1, ds1, p1, q1, rfl, rfl, rfl, h1, r1⟩ := trodAll_cons r0
  obtain ⟨v2, vs2, d2, ds2, p2, q2, rfl, rfl, rfl, h2, r2⟩ := trodAll_cons r1
  obtain ⟨v3, vs3, d3, ds3, p3, q3, rfl, rfl, rfl, h3, r3⟩ := trodAll_cons r2
  obtain ⟨rfl, rfl, rfl⟩ := trodAll_nil r3
  obtain rfl : args = #[v0, v1, v2, v3] := by cases args; simp_all
  obtain ⟨rfl, rfl⟩ := trodVars_none hV
  have k0 := h0
  have lt0 : ∀ x ∈ p0, x.block < W.heap.size := by obtain ⟨m, hm⟩ := k0; exact DataW.trod_lt m _ _ _ hm
  obtain ⟨a0, rfl, w0⟩ := open_int_array Try.underlying22 Try.underlying5 (by kernel_rfl) (by kernel_rfl) (hval 0 22 v0 rfl rfl) h0
  have k1 := h1
  have lt1 : ∀ x ∈ p1, x.block < W.heap.size := by obtain ⟨m, hm⟩ := k1; exact DataW.trod_lt m _ _ _ hm
  obtain ⟨a1, rfl, w1⟩ := open_int_array Try.underlying40 Try.underlying5 (by kernel_rfl) (by kernel_rfl) (hval 1 40 v1 rfl rfl) h1
  have k2 := h2
  have lt2 : ∀ x ∈ p2, x.block < W.heap.size := by obtain ⟨m, hm⟩ := k2; exact DataW.trod_lt m _ _ _ hm
  obtain ⟨a2, rfl, _, _, w2⟩ := open_int Try.underlying3 (hval 2 3 v2 rfl rfl) h2
  have k3 := h3
  have lt3 : ∀ x ∈ p3, x.block < W.heap.size := by obtain ⟨m, hm⟩ := k3; exact DataW.trod_lt m _ _ _ hm
  obtain ⟨a3, rfl, _, _, w3⟩ := open_int Try.underlying41 (hval 3 41 v3 rfl rfl) h3
  refine (ctrMatchesReference_walk a0 w0 a1 w1 a2 w2 a3 w3 W).mono fun e W' ⟨he, bel⟩ => ?_
  subst he
  exact ⟨_, rfl, _, _, _, [], _, [], hW', trodAll_mk1 (shut_bool Try.underlying4 _), (trodAll_cons_mk (Below.trod laidOut (by kernel_rfl) (of_decide_eq_true (by kernel_rfl)) k0 bel lt0) (trodAll_cons_mk (Below.trod laidOut (by kernel_rfl) (of_decide_eq_true (by kernel_rfl)) k1 bel lt1) (trodAll_cons_mk (Below.trod laidOut (by kernel_rfl) (of_decide_eq_true (by kernel_rfl)) k2 bel lt2) (trodAll_cons_mk (Below.trod laidOut (by kernel_rfl) (of_decide_eq_true (by kernel_rfl)) k3 bel lt3) trodAll_mk0)))), rfl, bel.frame _, fun h => by cases h⟩
theorem over : Rows.ctrMatchesReferenceRow.holds Try.pinned (OpenSpec.ofChange Rows.ctrMatchesReferenceSpec) :=
  OpenClaim.holds_of_wide 8 Try.f8 rfl rfl rfl rfl rfl rfl rfl ⟨rfl, rfl, rfl, rfl, rfl⟩ rfl rfl rfl rfl rfl (by kernel_rfl) Try.func8 (by kernel_rfl)
    (of_decide_eq_true (by kernel_rfl)) (by unfold Func.isWrapper; first | (rw [if_pos (by decide +kernel)]; kernel_rfl) | (rw [if_neg (by decide +kernel)]; exact ⟨rfl, rfl⟩))
    (fun os started H enc _ => lifted os started H enc)
end ctrMatchesReferenceF
/-- The statement. -/
theorem ctrMatchesReference_holds : Rows.CtrMatchesReferenceSaid := ctrMatchesReferenceF.over
#print axioms ctrMatchesReference_holds
end Go.Proofs.Ytibgmoapkionjaa
