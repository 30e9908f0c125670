/- Bytes are combined as in the reference implementation, and a second time back; the bytes that were given stay as they are: for every key, nonce and bytes the law returns true. No condition. -/
import Derived.Test.YtibgmoapkionjaaCtrKit
namespace Go.Proofs.Ytibgmoapkionjaa
open Go.ChangeShapes Go.WideShapes Go.ChangeAt Go.RowKit Go.Deep

attribute [local irreducible] wpAnyH in
set_option maxRecDepth 100000 in
set_option maxHeartbeats 4000000 in
theorem ctrCrypts_out (key nonce : Nat → Nat) (v : Value) (l : List Nat) (w0 : World) (hv : Rs w0 v l) (hl : 1000 < l.length) (w : World) :
    Calls Try.prog 9 #[.agg (arr .u8 16 key), .agg (arr .u8 8 nonce), v] w (RetBool true w) := by
  have hsz := arr_size .u8 16 key
  have hsz2 := arr_size .u8 8 nonce
  obtain ⟨xa, xc, rfl⟩ := hv.form
  clear hv
  go_enter Try.func9, Try.ntmps9
  go_wp2_with fail
  refine (ctrAwake_any _).mono ?_
  rintro e w1 ⟨rfl, hb1⟩
  have B1 := Lib.hid ((((Below.refl w.heap.size w).alloc (Nat.le_refl _) (.cells (arr .u8 16 key) 22)).alloc (by simp) (.cells (arr .u8 8 nonce) 40)).trans (hb1.mono (by simp; omega)))
  clear hb1
  go_wp2_with fail
  refine (ctrAwake_any _).mono ?_
  rintro e w2 ⟨rfl, hb2⟩
  have B2 := Lib.hid (B1.out.trans (hb2.mono B1.out.size)); clear hb2 B1
  go_wp2_with fail
  go_ret
  exact ⟨rfl, B2.out⟩

attribute [local irreducible] wpAnyH in
set_option maxRecDepth 100000 in
set_option maxHeartbeats 4000000 in
theorem ctrCrypts_core (key nonce : Nat → Nat) (hk : Aes.B8 key) (hn : Aes.B8 nonce) (v : Value) (l : List Nat) (w : World) (hv : Rs w v l) (hl : l.length ≤ 1000) :
    Calls Try.prog 9 #[.agg (arr .u8 16 key), .agg (arr .u8 8 nonce), v] w (RetBool true w) := by
  have HV := Lib.hid hv
  obtain ⟨xa, xc, rfl⟩ := hv.form
  clear hv
  have hsz := arr_size .u8 16 key
  have hsz2 := arr_size .u8 8 nonce
  go_enter Try.func9, Try.ntmps9
  go_wp2_with fail
  refine (ctrAwake_any _).mono ?_
  rintro e w1 ⟨rfl, hb1⟩
  go_upto_region 3 with fail
  obtain ⟨a1, a2, a3⟩ := kn_boxes w key nonce
  have h1 := a1.below hb1 (by simp; omega)
  have h2 := a2.below hb1 (by simp)
  have VB := Lib.hid (a3.trans (hb1.mono (by simp; omega)))
  have VA := Lib.hid (And.intro h1 h2)
  have hz := h2.lt
  clear a1 a2 a3 h1 h2 hb1
  obtain ⟨V, hV⟩ : ∃ V : World, V = w1 := ⟨_, rfl⟩
  rw [← hV] at VA VB hz ⊢
  clear hV
  generalize hn0 : w.heap.size = n0 at VA VB hz ⊢
  obtain ⟨n1, hn1⟩ : ∃ n1, n1 = n0 + 1 := ⟨_, rfl⟩
  rw [← hn1] at VA hz ⊢
  have HN1 := Lib.hid hn1; clear hn1
  have L1 := cells_at VA.out.1
  have L2 := cells_at VA.out.2
  have k1 := VA.out.1
  have k2 := VA.out.2
  have RV := Lib.hid (show Rs V (.slice xa l.length xc) l by subst hn0; exact HV.out.below VB.out)
  go_upto_region 4 with (at_builtin; go_must (refine wpList_append_rs rfl _ _ rfl V.heap.size (.slice (some ⟨V.heap.size, 0, none⟩) 0 0) [] rfl (own_built V _ [] AllB.nil (Nat.le_refl _) (by simp)) _ l rfl (RV.out.below ((Below.refl _ _).alloc (Nat.le_refl _) _)) (by simp; omega) (by simp) ?_; intro v2 w2 hown hgr))
  rw [List.nil_append] at hown
  have b2 := below_only ((Below.refl V.heap.size V).alloc (Nat.le_refl _) (.cells #[] 5)) (Nat.le_refl _) hgr (fun g hg => by simp [Value.ownBlock] at hg; omega)
  have k1 := k1.below b2 k1.lt
  have k2 := k2.below b2 k2.lt
  have B2 := Lib.hid b2
  have O2 := Lib.hid hown.bs
  have R2 := Lib.hid (RV.out.below b2)
  clear hown hgr b2 RV
  go_wp2_with (first | refine wpList_load_row rfl _ _ rfl n0 rfl _ _ (0, 0) _ k1 rfl rfl (info16 _) ?_ | refine wpList_load_row rfl _ _ rfl n1 rfl _ _ (0, 0) _ k2 rfl rfl (info8 _) ?_ | refine wpList_load_rowG (by kernel_rfl) _ _ rfl n0 rfl _ _ (0, 0) _ k1 rfl rfl (info16 _) ?_ | refine wpList_load_rowG (by kernel_rfl) _ _ rfl n1 rfl _ _ (0, 0) _ k2 rfl rfl (info8 _) ?_)
  refine (ctrcrypt_any key nonce _ l _ hk hn O2.out.rs (by omega)).mono ?_
  rintro e w3 ⟨v3, rfl, ho3, hb3⟩
  have k1 := k1.below hb3 k1.lt
  have k2 := k2.below hb3 k2.lt
  have B3 := Lib.hid (B2.out.trans (hb3.mono B2.out.size))
  have O2 := Lib.hid (O2.out.below hb3)
  have O3 := Lib.hid ho3.bs
  have R3 := Lib.hid (R2.out.below hb3)
  clear hb3 ho3 B2 R2
  go_wp2_with (first | refine wpList_load_row rfl _ _ rfl n0 rfl _ _ (0, 0) _ k1 rfl rfl (info16 _) ?_ | refine wpList_load_row rfl _ _ rfl n1 rfl _ _ (0, 0) _ k2 rfl rfl (info8 _) ?_ | refine wpList_load_rowG (by kernel_rfl) _ _ rfl n0 rfl _ _ (0, 0) _ k1 rfl rfl (info16 _) ?_ | refine wpList_load_rowG (by kernel_rfl) _ _ rfl n1 rfl _ _ (0, 0) _ k2 rfl rfl (info8 _) ?_)
  refine (refcrypt_any key nonce _ l _ hk hn R3.out (by omega)).mono ?_
  rintro e w4 ⟨v4, rfl, ho4, hb4⟩
  have k1 := k1.below hb4 k1.lt
  have k2 := k2.below hb4 k2.lt
  have B4 := Lib.hid (B3.out.trans (hb4.mono B3.out.size))
  have O2 := Lib.hid (O2.out.below hb4)
  have O3 := Lib.hid (O3.out.below hb4)
  have O4 := Lib.hid ho4.bs
  have R4 := Lib.hid (R3.out.below hb4)
  clear hb4 ho4 B3 R3
  go_wp2_with (first | refine wpList_load_row rfl _ _ rfl n0 rfl _ _ (0, 0) _ k1 rfl rfl (info16 _) ?_ | refine wpList_load_row rfl _ _ rfl n1 rfl _ _ (0, 0) _ k2 rfl rfl (info8 _) ?_ | refine wpList_load_rowG (by kernel_rfl) _ _ rfl n0 rfl _ _ (0, 0) _ k1 rfl rfl (info16 _) ?_ | refine wpList_load_rowG (by kernel_rfl) _ _ rfl n1 rfl _ _ (0, 0) _ k2 rfl rfl (info8 _) ?_)
  refine (same_yes _ _ _ _ O3.out.rs O4.out.rs).mono ?_
  rintro e w5 ⟨rfl, hb5⟩
  have k1 := k1.below hb5 k1.lt
  have k2 := k2.below hb5 k2.lt
  have B5 := Lib.hid (B4.out.trans (hb5.mono B4.out.size))
  have O2 := Lib.hid (O2.out.below hb5)
  have O3 := Lib.hid (O3.out.below hb5)
  have R5 := Lib.hid (R4.out.below hb5)
  clear hb5 B4 R4 O4
  go_wp2_with (first | refine wpList_load_row rfl _ _ rfl n0 rfl _ _ (0, 0) _ k1 rfl rfl (info16 _) ?_ | refine wpList_load_row rfl _ _ rfl n1 rfl _ _ (0, 0) _ k2 rfl rfl (info8 _) ?_ | refine wpList_load_rowG (by kernel_rfl) _ _ rfl n0 rfl _ _ (0, 0) _ k1 rfl rfl (info16 _) ?_ | refine wpList_load_rowG (by kernel_rfl) _ _ rfl n1 rfl _ _ (0, 0) _ k2 rfl rfl (info8 _) ?_)
  refine (ctrcrypt_any key nonce _ _ _ hk hn O3.out.rs (by rw [Ctr.crypt_length]; omega)).mono ?_
  rintro e w6 ⟨v6, rfl, ho6, hb6⟩
  rw [Ctr.crypt_crypt] at ho6
  have B6 := Lib.hid (B5.out.trans (hb6.mono B5.out.size))
  have O2 := Lib.hid (O2.out.below hb6)
  have O6 := Lib.hid ho6.bs
  have R6 := Lib.hid (R5.out.below hb6)
  clear hb6 B5 R5 O3 ho6 k1 k2
  go_wp2_with fail
  refine (same_yes _ _ _ _ O6.out.rs R6.out).mono ?_
  rintro e w7 ⟨rfl, hb7⟩
  have B7 := Lib.hid (B6.out.trans (hb7.mono B6.out.size))
  have O2 := Lib.hid (O2.out.below hb7)
  have R7 := Lib.hid (R6.out.below hb7)
  clear hb7 B6 R6 O6
  go_wp2_with fail
  refine (same_yes _ _ _ _ O2.out.rs R7.out).mono ?_
  rintro e w8 ⟨rfl, hb8⟩
  have B8 := Lib.hid (B7.out.trans (hb8.mono B7.out.size))
  clear hb8 B7
  go_wp2_with fail
  go_ret
  subst hn0
  exact ⟨rfl, VB.out.trans (B8.out.mono VB.out.size)⟩

theorem ctrCrypts_walk (w : World) (f : Nat → Int) (wf : ∀ j, j < 16 → (Lit.int .u8 (f j)).wf = true) (g : Nat → Int) (wg : ∀ j, j < 8 → (Lit.int .u8 (g j)).wf = true) (v : Value) (l : List Nat) (hv : Rs w v l) :
    Calls Try.prog 9 #[.agg ((List.range 16).map fun i => Value.int .u8 (f i)).toArray, .agg ((List.range 8).map fun i => Value.int .u8 (g i)).toArray, v] w (RetBool true w) := by
  obtain ⟨key, hk, e1⟩ := bytes_arg f wf
  obtain ⟨nonce, hn, e2⟩ := bytes_arg g wg
  rw [e1, e2]
  by_cases hl : 1000 < l.length
  · exact ctrCrypts_out key nonce v l w hv hl w
  · exact ctrCrypts_core key nonce hk hn v l w hv (by omega)

/-! ### THE ROW's STEP -/
namespace ctrCryptsF
theorem own : ownKnob Try.prog.godebug = none := by kernel_rfl
theorem laidOut : laidOutB Try.prog = true := by kernel_rfl
set_option maxRecDepth 100000 in
theorem lifted (os : Os) (started : os.Started) (H : Type) (enc : TypeId × Value → H) :
    ReturnsInHanded {} Try.checked os 9 .any (Rows.ctrCryptsSpec.pre6 enc Try.prog Try.f9 Rows.ctrCryptsRow.domain false) (Rows.ctrCryptsSpec.post enc Try.prog Try.f9 false true false false) := by
  refine returnsInHanded_of_change (C := Try.checked) own started (by kernel_rfl) Try.func9
    (ChangeSpec.witness6 (enc := enc) (C := Try.checked) false ⟨#[], #[.agg #[.int .u8 0, .int .u8 0, .int .u8 0, .int .u8 0, .int .u8 0, .int .u8 0, .int .u8 0, .int .u8 0, .int .u8 0, .int .u8 0, .int .u8 0, .int .u8 0, .int .u8 0, .int .u8 0, .int .u8 0, .int .u8 0], .agg #[.int .u8 0, .int .u8 0, .int .u8 0, .int .u8 0, .int .u8 0, .int .u8 0, .int .u8 0, .int .u8 0], .slice none 0 0], []⟩ 8 (by kernel_rfl) (by kernel_rfl) (by kernel_rfl) (by kernel_rfl)) ?_
  intro W base args ds gs before hval0 hW _ _
  have hval : ∀ (j : Nat) t v, Try.f9.params[j]? = some t → args[j]? = some v → Value.okWide Try.prog W .any base t v := hval0
  have hW' := hW
  obtain ⟨p, q, hA0, hV, rfl, _, _⟩ := hW
  have hA : DataW.TrodAll enc Try.prog W 0 (fun _ => true) true Try.f9.params.toList args.toList ds p := hA0
  rw [Try.params9] at hA hval
  obtain ⟨v0, vs0, d0, ds0, p0, q0, hargs, rfl, rfl, h0, r0⟩ := trodAll_cons hA
  obtain ⟨v1, vs1, d1, ds1, p1, q1, rfl, rfl, rfl, h1, r1⟩ := trodAll_cons r0
  obtain ⟨v2, vs2, d2, ds2, p2, q2, rfl, rfl, rfl, h2, r2⟩ := trodAll_cons r1
  obtain ⟨rfl, rfl, rfl⟩ := trodAll_nil r2
  obtain rfl : args = #[v0, v1, v2] := by cases args; simp_all
  obtain ⟨rfl, rfl⟩ := trodVars_none hV
  have k0 := h0
  have lt0 : ∀ x ∈ p0, x.block < W.heap.size := by obtain ⟨m, hm⟩ := k0; exact DataW.trod_lt m _ _ _ hm
  obtain ⟨a0, rfl, w0⟩ := open_int_array Try.underlying22 Try.underlying5 (by kernel_rfl) (by kernel_rfl) (hval 0 22 v0 rfl rfl) h0
  have k1 := h1
  have lt1 : ∀ x ∈ p1, x.block < W.heap.size := by obtain ⟨m, hm⟩ := k1; exact DataW.trod_lt m _ _ _ hm
  obtain ⟨a1, rfl, w1⟩ := open_int_array Try.underlying40 Try.underlying5 (by kernel_rfl) (by kernel_rfl) (hval 1 40 v1 rfl rfl) h1
  have k2 := h2
  have lt2 : ∀ x ∈ p2, x.block < W.heap.size := by obtain ⟨m, hm⟩ := k2; exact DataW.trod_lt m _ _ _ hm
  obtain ⟨a2, len2, cap2, rfl⟩ := okWide_slice Try.underlying43 (hval 2 43 v2 rfl rfl)
  obtain ⟨z2, w2⟩ := open_bytes Try.underlying43 Try.underlying5 (by kernel_rfl) h2
  refine (ctrCrypts_walk W a0 w0 a1 w1 _ z2 w2).mono fun e W' ⟨he, bel⟩ => ?_
  subst he
  exact ⟨_, rfl, _, _, _, [], _, [], hW', trodAll_mk1 (shut_bool Try.underlying4 _), (trodAll_cons_mk (Below.trod laidOut (by kernel_rfl) (of_decide_eq_true (by kernel_rfl)) k0 bel lt0) (trodAll_cons_mk (Below.trod laidOut (by kernel_rfl) (of_decide_eq_true (by kernel_rfl)) k1 bel lt1) (trodAll_cons_mk (Below.trod laidOut (by kernel_rfl) (of_decide_eq_true (by kernel_rfl)) k2 bel lt2) trodAll_mk0))), rfl, bel.frame _, fun h => by cases h⟩
theorem over : Rows.ctrCryptsRow.holds Try.pinned (OpenSpec.ofChange Rows.ctrCryptsSpec) :=
  OpenClaim.holds_of_wide 9 Try.f9 rfl rfl rfl rfl rfl rfl rfl ⟨rfl, rfl, rfl, rfl, rfl⟩ rfl rfl rfl rfl rfl (by kernel_rfl) Try.func9 (by kernel_rfl)
    (of_decide_eq_true (by kernel_rfl)) (by unfold Func.isWrapper; first | (rw [if_pos (by decide +kernel)]; kernel_rfl) | (rw [if_neg (by decide +kernel)]; exact ⟨rfl, rfl⟩))
    (fun os started H enc _ => lifted os started H enc)
end ctrCryptsF
/-- The statement. -/
theorem ctrCrypts_holds : Rows.CtrCryptsSaid := ctrCryptsF.over
#print axioms ctrCrypts_holds
end Go.Proofs.Ytibgmoapkionjaa
