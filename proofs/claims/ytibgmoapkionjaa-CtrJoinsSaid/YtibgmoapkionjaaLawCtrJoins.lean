/- Two parts of a stream that follow each other are one part: for every key, nonce, place and numbers the law returns true. No condition. -/
import Derived.Test.YtibgmoapkionjaaCtrKit
namespace Go.Proofs.Ytibgmoapkionjaa
open Go.ChangeShapes Go.WideShapes Go.ChangeAt Go.RowKit Go.Deep

attribute [local irreducible] wpAnyH in
set_option maxRecDepth 100000 in
set_option maxHeartbeats 4000000 in
theorem ctrJoins_core (key nonce : Nat → Nat) (hk : Aes.B8 key) (hn : Aes.B8 nonce) (a n m : Nat) (ha : a < 65536) (hn8 : n < 256) (hm8 : m < 256) (w : World) : Calls Try.prog 12 #[.agg (arr .u8 16 key), .agg (arr .u8 8 nonce), .int .u16 (a : Int), .int .u8 (n : Int), .int .u8 (m : Int)] w (RetBool true w) := by
  have HL := Lib.hid (show Wir.join [Ctr.strI key nonce a n, Ctr.strI key nonce ((a + n : Nat) : Int) m] = Ctr.strI key nonce a ((n + m : Nat) : Int) by
    unfold Ctr.strI
    rw [if_neg (by omega), if_neg (by omega), if_neg (by omega)]
    simp only [Int.toNat_natCast, Ctr.str_add]
    simp [Wir.join])
  have hsz := arr_size .u8 16 key
  have hsz2 := arr_size .u8 8 nonce
  go_enter Try.func12, Try.ntmps12
  go_wp2_with fail
  refine (ctrAwake_any _).mono ?_
  rintro e w1 ⟨rfl, hb1⟩
  go_upto_region 3 with fail
  obtain ⟨a1, a2, a3⟩ := kn_boxes w key nonce
  have h1 := a1.below hb1 (by simp; omega)
  have h2 := a2.below hb1 (by simp)
  have VB := Lib.hid (a3.trans (hb1.mono (by simp; omega)))
  have VA := Lib.hid (And.intro h1 h2)
  have hz := h2.lt
  clear a1 a2 a3 h1 h2 hb1
  obtain ⟨V, hV⟩ : ∃ V : World, V = w1 := ⟨_, rfl⟩
  rw [← hV] at VA VB hz ⊢
  clear hV
  generalize hn0 : w.heap.size = n0 at VA VB hz ⊢
  obtain ⟨n1, hn1⟩ : ∃ n1, n1 = n0 + 1 := ⟨_, rfl⟩
  rw [← hn1] at VA hz ⊢
  have HN1 := Lib.hid hn1; clear hn1
  have L1 := cells_at VA.out.1
  have L2 := cells_at VA.out.2
  have k1 := VA.out.1
  have k2 := VA.out.2
  go_upto_region 4 with (first | refine wpList_load_row rfl _ _ rfl n0 rfl _ _ (0, 0) _ k1 rfl rfl (info16 _) ?_ | refine wpList_load_row rfl _ _ rfl n1 rfl _ _ (0, 0) _ k2 rfl rfl (info8 _) ?_ | (go_at_call 26; refine (ctrstream_any key nonce _ _ _ hk hn).mono ?_; rintro e w2 ⟨v2, rfl, ho2, hbz⟩))
  have k1 := k1.below hbz k1.lt
  have k2 := k2.below hbz k2.lt
  have HB2 := Lib.hid hbz
  clear hbz
  have ean : (a : Int) + (n : Int) = ((a + n : Nat) : Int) := by omega
  have EAN := Lib.hid ean
  clear ean
  go_upto_region 5 with (first | refine wpList_load_row rfl _ _ rfl n0 rfl _ _ (0, 0) _ k1 rfl rfl (info16 _) ?_ | refine wpList_load_row rfl _ _ rfl n1 rfl _ _ (0, 0) _ k2 rfl rfl (info8 _) ?_ | (go_at_call 26; refine (ctrstream_any key nonce _ _ _ hk hn).mono ?_; rintro e w3 ⟨v3, rfl, ho3, hbz⟩))
  have HB3 := Lib.hid (HB2.out.trans (hbz.mono HB2.out.size))
  have O2 := Lib.hid (ho2.below hbz)
  have O3 := Lib.hid ho3
  have h0 := below_drewN HB3.out 1
  rw [EAN.out] at O3
  obtain ⟨a2, l2, c2, rfl⟩ : ∃ a l c, v2 = .slice a l c := by obtain ⟨a, c, e⟩ := ho2.form; exact ⟨a, _, c, e⟩
  obtain ⟨a3, l3, c3, rfl⟩ : ∃ a l c, v3 = .slice a l c := by obtain ⟨a, c, e⟩ := ho3.form; exact ⟨a, _, c, e⟩
  clear hbz ho2 ho3 k1 k2 HB2
  refine wp_reg Try.f12 5 16 (fun w' => Below V.heap.size V w') (by kernel_rfl) (by kernel_rfl) (by kernel_rfl) h0 (fun K hK h0 => ?_)
  refine reg_cast (listed' := #[false, false, false, false, false, false, false, false, false, false, false, false, false, false, false, false]) (by kernel_rfl) rfl ?_
  have HF := Lib.hid hK; clear hK
  refine reg_take 0 32 (.slice a2 l2 c2) (by kernel_rfl) (fun _ _ => by kernel_rfl) h0 ?_
  simp only [Act.put, List.setIfInBounds_toArray, List.set_cons_zero, List.set_cons_succ]
  refine reg_take 1 33 (.slice a3 l3 c3) (by kernel_rfl) (fun _ _ => by kernel_rfl) h0 ?_
  simp only [Act.put, List.setIfInBounds_toArray, List.set_cons_zero, List.set_cons_succ]
  refine reg_take 6 38 (.int .u16 (a : Int)) (by kernel_rfl) (fun _ _ => by kernel_rfl) h0 ?_
  simp only [Act.put, List.setIfInBounds_toArray, List.set_cons_zero, List.set_cons_succ]
  refine reg_take 7 39 (.int .i64 (a : Int)) (by kernel_rfl) (fun _ _ => exec_conv_u16 (.tmp 38) a (by kernel_rfl) (by kernel_rfl) ha) h0 ?_
  simp only [Act.put, List.setIfInBounds_toArray, List.set_cons_zero, List.set_cons_succ]
  refine reg_take 8 40 (.int .u8 (n : Int)) (by kernel_rfl) (fun _ _ => by kernel_rfl) h0 ?_
  simp only [Act.put, List.setIfInBounds_toArray, List.set_cons_zero, List.set_cons_succ]
  refine reg_take 9 41 (.int .i64 (n : Int)) (by kernel_rfl) (fun _ _ => exec_conv_u8 (.tmp 40) n (by kernel_rfl) (by kernel_rfl) hn8) h0 ?_
  simp only [Act.put, List.setIfInBounds_toArray, List.set_cons_zero, List.set_cons_succ]
  refine reg_take 10 42 (.int .u8 (m : Int)) (by kernel_rfl) (fun _ _ => by kernel_rfl) h0 ?_
  simp only [Act.put, List.setIfInBounds_toArray, List.set_cons_zero, List.set_cons_succ]
  refine reg_take 11 43 (.int .i64 (m : Int)) (by kernel_rfl) (fun _ _ => exec_conv_u8 (.tmp 42) m (by kernel_rfl) (by kernel_rfl) hm8) h0 ?_
  simp only [Act.put, List.setIfInBounds_toArray, List.set_cons_zero, List.set_cons_succ]
  refine reg_take 12 44 (.int .i64 ((n + m : Nat) : Int)) (by kernel_rfl) (fun _ _ => exec_add_i64 (.tmp 41) (.tmp 43) n m (by kernel_rfl) (by kernel_rfl) (by kernel_rfl) (by omega)) h0 ?_
  simp only [Act.put, List.setIfInBounds_toArray, List.set_cons_zero, List.set_cons_succ]
  refine reg_load 4 36 (by kernel_rfl) _ (.tmp 5) (by kernel_rfl) ⟨n0, 0, none⟩ (by kernel_rfl) (arr .u8 16 key) _ L1 rfl rfl (info16 _) h0 ?_
  simp only [Act.put, List.setIfInBounds_toArray, List.set_cons_zero, List.set_cons_succ]
  refine reg_load 5 37 (by kernel_rfl) _ (.tmp 6) (by kernel_rfl) ⟨n1, 0, none⟩ (by kernel_rfl) (arr .u8 8 nonce) _ L2 rfl rfl (info8 _) h0 ?_
  simp only [Act.put, List.setIfInBounds_toArray, List.set_cons_zero, List.set_cons_succ]
  refine reg_one 2 (by kernel_rfl) (by kernel_rfl) (q_lay 34 (fun g => .slice (some ⟨g, 0, none⟩) 2 2) #[.slice a2 l2 c2, .slice a3 l3 c3] 43 (by kernel_rfl) h0 (Nat.le_refl _) (by kernel_rfl) ?_)
  intro wl gl hBl hgl hzl kql grl h0 hrl
  simp only [Act.put, List.setIfInBounds_toArray, List.set_cons_zero, List.set_cons_succ]
  have hbl := below_of_only grl
  have hbss := Blk.bss2 ⟨_, hrl⟩ ((O2.out.drewN 1).below hbl).bs.rs ((O3.out.drewN 1).below hbl).bs.rs
  refine reg_call 3 35 30 #[.slice (some ⟨gl, 0, none⟩) 2 2] (by kernel_rfl) (by kernel_rfl) ?_
  refine (refJoin_any _ _ _ hbss (by rw [HL.out]; unfold Ctr.strI; rw [if_neg (by omega), Ctr.str_length]; omega)).mono ?_
  rintro e wz ⟨v4, rfl, ho4, hbz⟩
  rw [HL.out] at ho4
  have h0 := below_then h0 hbz
  refine ⟨_, rfl, h0, ?_⟩
  simp only [Act.put, List.setIfInBounds_toArray, List.set_cons_zero, List.set_cons_succ]
  refine reg_call 13 45 26 #[.agg (arr .u8 16 key), .agg (arr .u8 8 nonce), .int .i64 (a : Int), .int .i64 ((n + m : Nat) : Int)] (by kernel_rfl) (by kernel_rfl) ?_
  refine (ctrstream_any key nonce a ((n + m : Nat) : Int) _ hk hn).mono ?_
  rintro e wz ⟨v5, rfl, ho5, hbz⟩
  have h0 := below_then h0 hbz
  refine ⟨_, rfl, h0, ?_⟩
  simp only [Act.put, List.setIfInBounds_toArray, List.set_cons_zero, List.set_cons_succ]
  refine reg_call 14 46 25 #[v4, v5] (by kernel_rfl) (by kernel_rfl) ?_
  refine (same_yes _ _ _ _ (ho4.below hbz).bs.rs ho5.bs.rs).mono ?_
  rintro e wz ⟨rfl, hbz⟩
  have h0 := below_then h0 hbz
  refine ⟨_, rfl, h0, ?_⟩
  simp only [Act.put, List.setIfInBounds_toArray, List.set_cons_zero, List.set_cons_succ]
  refine reg_take 15 10 (.bool true) (by kernel_rfl) (fun _ _ => by kernel_rfl) h0 ?_
  simp only [Act.put, List.setIfInBounds_toArray, List.set_cons_zero, List.set_cons_succ]
  refine reg_done (by kernel_rfl) (HF.out _ _ ?_)
  clear HF
  go_wp2_with fail
  go_ret
  subst hn0
  exact ⟨rfl, VB.out.trans (h0.mono VB.out.size)⟩

theorem ctrJoins_walk (f : Nat → Int) (wf : ∀ j, j < 16 → (Lit.int .u8 (f j)).wf = true) (g : Nat → Int) (wg : ∀ j, j < 8 → (Lit.int .u8 (g j)).wf = true) (a : Int) (wa : (Lit.int .u16 a).wf = true) (n : Int) (wn : (Lit.int .u8 n).wf = true) (m : Int) (wm : (Lit.int .u8 m).wf = true) (w : World) :
    Calls Try.prog 12 #[.agg ((List.range 16).map fun i => Value.int .u8 (f i)).toArray, .agg ((List.range 8).map fun i => Value.int .u8 (g i)).toArray, .int .u16 a, .int .u8 n, .int .u8 m] w (RetBool true w) := by
  obtain ⟨key, hk, e1⟩ := bytes_arg f wf
  obtain ⟨nonce, hn, e2⟩ := bytes_arg g wg
  have b1 := bounds_u16 wa
  have b2 := u8_range wn
  have b3 := u8_range wm
  obtain ⟨a', rfl⟩ := Int.eq_ofNat_of_zero_le (show 0 ≤ a by omega)
  obtain ⟨n', rfl⟩ := Int.eq_ofNat_of_zero_le b2.1
  obtain ⟨m', rfl⟩ := Int.eq_ofNat_of_zero_le b3.1
  rw [e1, e2]
  exact ctrJoins_core key nonce hk hn a' n' m' (by omega) (by omega) (by omega) w

/-! ### THE ROW's STEP -/
namespace ctrJoinsF
theorem own : ownKnob Try.prog.godebug = none := by kernel_rfl
theorem laidOut : laidOutB Try.prog = true := by kernel_rfl
set_option maxRecDepth 100000 in
theorem lifted (os : Os) (started : os.Started) (H : Type) (enc : TypeId × Value → H) :
    ReturnsInHanded {} Try.checked os 12 .any (Rows.ctrJoinsSpec.pre6 enc Try.prog Try.f12 Rows.ctrJoinsRow.domain false) (Rows.ctrJoinsSpec.post enc Try.prog Try.f12 false true false false) := by
  refine returnsInHanded_of_change (C := Try.checked) own started (by kernel_rfl) Try.func12
    (ChangeSpec.witness6 (enc := enc) (C := Try.checked) false ⟨#[], #[.agg #[.int .u8 0, .int .u8 0, .int .u8 0, .int .u8 0, .int .u8 0, .int .u8 0, .int .u8 0, .int .u8 0, .int .u8 0, .int .u8 0, .int .u8 0, .int .u8 0, .int .u8 0, .int .u8 0, .int .u8 0, .int .u8 0], .agg #[.int .u8 0, .int .u8 0, .int .u8 0, .int .u8 0, .int .u8 0, .int .u8 0, .int .u8 0, .int .u8 0], .int .u16 0, .int .u8 0, .int .u8 0], []⟩ 8 (by kernel_rfl) (by kernel_rfl) (by kernel_rfl) (by kernel_rfl)) ?_
  intro W base args ds gs before hval0 hW _ _
  have hval : ∀ (j : Nat) t v, Try.f12.params[j]? = some t → args[j]? = some v → Value.okWide Try.prog W .any base t v := hval0
  have hW' := hW
  obtain ⟨p, q, hA0, hV, rfl, _, _⟩ := hW
  have hA : DataW.TrodAll enc Try.prog W 0 (fun _ => true) true Try.f12.params.toList args.toList ds p := hA0
  rw [Try.params12] at hA hval
  obtain ⟨v0, vs0, d0, ds0, p0, q0, hargs, rfl, rfl, h0, r0⟩ := trodAll_cons hA
  obtain ⟨v1, vs1, d1, ds1, p1, q1, rfl, rfl, rfl, h1, r1⟩ := trodAll_cons r0
  obtain ⟨v2, vs2, d2, ds2, p2, q2, rfl, rfl, rfl, h2, r2⟩ := trodAll_cons r1
  obtain ⟨v3, vs3, d3, ds3, p3, q3, rfl, rfl, rfl, h3, r3⟩ := trodAll_cons r2
  obtain ⟨v4, vs4, d4, ds4, p4, q4, rfl, rfl, rfl, h4, r4⟩ := trodAll_cons r3
  obtain ⟨rfl, rfl, rfl⟩ := trodAll_nil r4
  obtain rfl : args = #[v0, v1, v2, v3, v4] := by cases args; simp_all
  obtain ⟨rfl, rfl⟩ := trodVars_none hV
  have k0 := h0
  have lt0 : ∀ x ∈ p0, x.block < W.heap.size := by obtain ⟨m, hm⟩ := k0; exact DataW.trod_lt m _ _ _ hm
  obtain ⟨a0, rfl, w0⟩ := open_int_array Try.underlying22 Try.underlying5 (by kernel_rfl) (by kernel_rfl) (hval 0 22 v0 rfl rfl) h0
  have k1 := h1
  have lt1 : ∀ x ∈ p1, x.block < W.heap.size := by obtain ⟨m, hm⟩ := k1; exact DataW.trod_lt m _ _ _ hm
  obtain ⟨a1, rfl, w1⟩ := open_int_array Try.underlying40 Try.underlying5 (by kernel_rfl) (by kernel_rfl) (hval 1 40 v1 rfl rfl) h1
  have k2 := h2
  have lt2 : ∀ x ∈ p2, x.block < W.heap.size := by obtain ⟨m, hm⟩ := k2; exact DataW.trod_lt m _ _ _ hm
  obtain ⟨a2, rfl, _, _, w2⟩ := open_int Try.underlying58 (hval 2 58 v2 rfl rfl) h2
  have k3 := h3
  have lt3 : ∀ x ∈ p3, x.block < W.heap.size := by obtain ⟨m, hm⟩ := k3; exact DataW.trod_lt m _ _ _ hm
  obtain ⟨a3, rfl, _, _, w3⟩ := open_int Try.underlying5 (hval 3 5 v3 rfl rfl) h3
  have k4 := h4
  have lt4 : ∀ x ∈ p4, x.block < W.heap.size := by obtain ⟨m, hm⟩ := k4; exact DataW.trod_lt m _ _ _ hm
  obtain ⟨a4, rfl, _, _, w4⟩ := open_int Try.underlying5 (hval 4 5 v4 rfl rfl) h4
  refine (ctrJoins_walk a0 w0 a1 w1 a2 w2 a3 w3 a4 w4 W).mono fun e W' ⟨he, bel⟩ => ?_
  subst he
  exact ⟨_, rfl, _, _, _, [], _, [], hW', trodAll_mk1 (shut_bool Try.underlying4 _), (trodAll_cons_mk (Below.trod laidOut (by kernel_rfl) (of_decide_eq_true (by kernel_rfl)) k0 bel lt0) (trodAll_cons_mk (Below.trod laidOut (by kernel_rfl) (of_decide_eq_true (by kernel_rfl)) k1 bel lt1) (trodAll_cons_mk (Below.trod laidOut (by kernel_rfl) (of_decide_eq_true (by kernel_rfl)) k2 bel lt2) (trodAll_cons_mk (Below.trod laidOut (by kernel_rfl) (of_decide_eq_true (by kernel_rfl)) k3 bel lt3) (trodAll_cons_mk (Below.trod laidOut (by kernel_rfl) (of_decide_eq_true (by kernel_rfl)) k4 bel lt4) trodAll_mk0))))), rfl, bel.frame _, fun h => by cases h⟩
theorem over : Rows.ctrJoinsRow.holds Try.pinned (OpenSpec.ofChange Rows.ctrJoinsSpec) :=
  OpenClaim.holds_of_wide 12 Try.f12 rfl rfl rfl rfl rfl rfl rfl ⟨rfl, rfl, rfl, rfl, rfl⟩ rfl rfl rfl rfl rfl (by kernel_rfl) Try.func12 (by kernel_rfl)
    (of_decide_eq_true (by kernel_rfl)) (by unfold Func.isWrapper; first | (rw [if_pos (by decide +kernel)]; kernel_rfl) | (rw [if_neg (by decide +kernel)]; exact ⟨rfl, rfl⟩))
    (fun os started H enc _ => lifted os started H enc)
end ctrJoinsF
/-- The statement. -/
theorem ctrJoins_holds : Rows.CtrJoinsSaid := ctrJoinsF.over
#print axioms ctrJoins_holds
end Go.Proofs.Ytibgmoapkionjaa
