/- The encryption of a block under a key is that of the reference implementation: for every key and seed the law returns true. No condition. -/
import Derived.Test.YtibgmoapkionjaaAesKit
namespace Go.Proofs.Ytibgmoapkionjaa
open Go.ChangeShapes Go.WideShapes Go.ChangeAt Go.RowKit Go.Deep

attribute [local irreducible] wpAnyH in
set_option maxRecDepth 100000 in
set_option maxHeartbeats 4000000 in
theorem aesMatchesReference_core (key : Nat → Nat) (hk : Aes.B8 key) (m : Nat) (hm : m < 18446744073709551616) (w : World) : Calls Try.prog 3 #[.agg (arr .u8 16 key), .int .u64 (m : Int)] w (RetBool true w) := by
  have hsz := arr_size .u8 16 key
  obtain ⟨b, hbd⟩ : ∃ b, b = b16 m := ⟨_, rfl⟩
  have bts : ∀ w1, Calls Try.prog 15 #[.int .u64 (m : Int)] w1 fun e w2 => (e = .returned (.agg (arr .u8 16 b)) ∧ Below w1.heap.size w1 w2) ∧ Aes.B8 b := fun w1 => by
    rw [hbd]; exact (bytes16_any m w1 hm).mono fun e w2 ⟨h1, h2, h3⟩ => ⟨⟨h1, h2⟩, h3⟩
  have BT := Lib.hid bts
  clear hbd bts hm
  go_enter Try.func3, Try.ntmps3
  go_wp2_with fail
  refine (aesAwake_any _).mono ?_
  rintro e w1 ⟨rfl, hb1⟩
  go_wp2_with fail
  have h1 := (isArr_new w 22 .u8 16 key).below hb1 (by simp)
  have VB := Lib.hid (((Below.refl w.heap.size w).alloc (Nat.le_refl _) (.cells (arr .u8 16 key) 22)).trans (hb1.mono (by simp)))
  have VA := Lib.hid h1
  have hz := h1.lt
  clear h1 hb1
  obtain ⟨V, hV⟩ : ∃ V : World, V = w1 := ⟨_, rfl⟩
  rw [← hV] at VA VB hz ⊢
  clear hV
  generalize hn0 : w.heap.size = n0 at VA VB hz ⊢
  have L1 := cells_at VA.out
  refine wp_reg Try.f3 3 11 (fun w' => Below V.heap.size V w') (by kernel_rfl) (by kernel_rfl) (by kernel_rfl) (below_drewN (Below.refl _ _) 1) (fun K hK h0 => ?_)
  refine reg_cast (listed' := #[false, false, false, false, false, false, false, false, false, false, false]) (by kernel_rfl) rfl ?_
  have HF := Lib.hid hK; clear hK
  refine reg_take 1 8 (.int .u64 (m : Int)) (by kernel_rfl) (fun _ _ => by kernel_rfl) h0 ?_
  simp only [Act.put, List.setIfInBounds_toArray, List.set_cons_zero, List.set_cons_succ]
  refine reg_take 5 12 (.int .u64 (m : Int)) (by kernel_rfl) (fun _ _ => by kernel_rfl) h0 ?_
  simp only [Act.put, List.setIfInBounds_toArray, List.set_cons_zero, List.set_cons_succ]
  refine reg_load 0 7 (by kernel_rfl) _ (.tmp 2) (by kernel_rfl) ⟨n0, 0, none⟩ (by kernel_rfl) (arr .u8 16 key) _ L1 rfl rfl (info16 _) h0 ?_
  simp only [Act.put, List.setIfInBounds_toArray, List.set_cons_zero, List.set_cons_succ]
  refine reg_load 4 11 (by kernel_rfl) _ (.tmp 2) (by kernel_rfl) ⟨n0, 0, none⟩ (by kernel_rfl) (arr .u8 16 key) _ L1 rfl rfl (info16 _) h0 ?_
  simp only [Act.put, List.setIfInBounds_toArray, List.set_cons_zero, List.set_cons_succ]
  refine reg_call 2 9 15 #[.int .u64 (m : Int)] (by kernel_rfl) (by kernel_rfl) ?_
  refine (BT.out _).mono ?_
  rintro e wz ⟨⟨rfl, hbz⟩, hb⟩
  have h0 := below_then h0 hbz
  refine ⟨_, rfl, h0, ?_⟩
  simp only [Act.put, List.setIfInBounds_toArray, List.set_cons_zero, List.set_cons_succ]
  refine reg_call 3 10 14 #[.agg (arr .u8 16 key), .agg (arr .u8 16 b)] (by kernel_rfl) (by kernel_rfl) ?_
  refine (aesencrypt_any _ _ _ hk hb).mono ?_
  rintro e wz ⟨rfl, hbz⟩
  have h0 := below_then h0 hbz
  refine ⟨_, rfl, h0, ?_⟩
  simp only [Act.put, List.setIfInBounds_toArray, List.set_cons_zero, List.set_cons_succ]
  refine reg_call 6 13 15 #[.int .u64 (m : Int)] (by kernel_rfl) (by kernel_rfl) ?_
  refine (BT.out _).mono ?_
  rintro e wz ⟨⟨rfl, hbz⟩, hb⟩
  have h0 := below_then h0 hbz
  refine ⟨_, rfl, h0, ?_⟩
  simp only [Act.put, List.setIfInBounds_toArray, List.set_cons_zero, List.set_cons_succ]
  refine reg_call 7 14 17 #[] (by kernel_rfl) (by kernel_rfl) ?_
  refine (box7_any _).mono ?_
  rintro e wz ⟨rfl, hbz⟩
  have h0 := below_then h0 hbz
  refine ⟨_, rfl, h0, ?_⟩
  simp only [Act.put, List.setIfInBounds_toArray, List.set_cons_zero, List.set_cons_succ]
  refine reg_call 8 15 16 #[.agg (arr .u8 16 key), .agg (arr .u8 16 b), .agg (arr .u8 256 Fld.sb)] (by kernel_rfl) (by kernel_rfl) ?_
  refine (refencrypt_any _ _ _ hk hb).mono ?_
  rintro e wz ⟨rfl, hbz⟩
  have h0 := below_then h0 hbz
  refine ⟨_, rfl, h0, ?_⟩
  simp only [Act.put, List.setIfInBounds_toArray, List.set_cons_zero, List.set_cons_succ]
  refine reg_take 9 16 (.bool true) (by kernel_rfl) (fun w' _ => (exec_eql16 (Aes.enc key b) (Aes.enc key b) (.tmp 10) (.tmp 15) (by kernel_rfl) (by kernel_rfl) (by kernel_rfl)).trans (by rw [sameArr_refl])) h0 ?_
  simp only [Act.put, List.setIfInBounds_toArray, List.set_cons_zero, List.set_cons_succ]
  refine reg_take 10 4 (.bool true) (by kernel_rfl) (fun _ _ => by kernel_rfl) h0 ?_
  simp only [Act.put, List.setIfInBounds_toArray, List.set_cons_zero, List.set_cons_succ]
  refine reg_done (by kernel_rfl) (HF.out _ _ ?_)
  clear HF
  go_wp2_with fail
  go_ret
  subst hn0
  exact ⟨rfl, VB.out.trans (h0.mono VB.out.size)⟩

theorem aesMatchesReference_walk (f : Nat → Int) (wf : ∀ j, j < 16 → (Lit.int .u8 (f j)).wf = true) (x : Int) (wx : (Lit.int .u64 x).wf = true) (w : World) :
    Calls Try.prog 3 #[.agg ((List.range 16).map fun i => Value.int .u8 (f i)).toArray, .int .u64 x] w (RetBool true w) := by
  obtain ⟨key, hk, e1⟩ := bytes_arg f wf
  have hx := bounds_u64 wx
  obtain ⟨m, rfl⟩ := Int.eq_ofNat_of_zero_le hx.1
  rw [e1]
  exact aesMatchesReference_core key hk m (by omega) w

/-! ### THE ROW's STEP -/
namespace aesMatchesReferenceF
theorem own : ownKnob Try.prog.godebug = none := by kernel_rfl
theorem laidOut : laidOutB Try.prog = true := by kernel_rfl
set_option maxRecDepth 100000 in
theorem lifted (os : Os) (started : os.Started) (H : Type) (enc : TypeId × Value → H) :
    ReturnsInHanded {} Try.checked os 3 .any (Rows.aesMatchesReferenceSpec.pre6 enc Try.prog Try.f3 Rows.aesMatchesReferenceRow.domain false) (Rows.aesMatchesReferenceSpec.post enc Try.prog Try.f3 false true false false) := by
  refine returnsInHanded_of_change (C := Try.checked) own started (by kernel_rfl) Try.func3
    (ChangeSpec.witness6 (enc := enc) (C := Try.checked) false ⟨#[], #[.agg #[.int .u8 0, .int .u8 0, .int .u8 0, .int .u8 0, .int .u8 0, .int .u8 0, .int .u8 0, .int .u8 0, .int .u8 0, .int .u8 0, .int .u8 0, .int .u8 0, .int .u8 0, .int .u8 0, .int .u8 0, .int .u8 0], .int .u64 0], []⟩ 8 (by kernel_rfl) (by kernel_rfl) (by kernel_rfl) (by kernel_rfl)) ?_
  intro W base args ds gs before hval0 hW _ _
  have hval : ∀ (j : Nat) t v, Try.f3.params[j]? = some t → args[j]? = some v → Value.okWide Try.prog W .any base t v := hval0
  have hW' := hW
  obtain ⟨p, q, hA0, hV, rfl, _, _⟩ := hW
  have hA : DataW.TrodAll enc Try.prog W 0 (fun _ => true) true Try.f3.params.toList args.toList ds p := hA0
  rw [Try.params3] at hA hval
  obtain ⟨v0, vs0, d0, ds0, p0, q0, hargs, rfl, rfl, h0, r0⟩ := trodAll_cons hA
  obtain ⟨v1, vs1, d1, ds1, p1, q1, rfl, rfl, rfl, h1, r1⟩ := trodAll_cons r0
  obtain ⟨rfl, rfl, rfl⟩ := trodAll_nil r1
  obtain rfl : args = #[v0, v1] := by cases args; simp_all
  obtain ⟨rfl, rfl⟩ := trodVars_none hV
  have k0 := h0
  have lt0 : ∀ x ∈ p0, x.block < W.heap.size := by obtain ⟨m, hm⟩ := k0; exact DataW.trod_lt m _ _ _ hm
  obtain ⟨a0, rfl, w0⟩ := open_int_array Try.underlying22 Try.underlying5 (by kernel_rfl) (by kernel_rfl) (hval 0 22 v0 rfl rfl) h0
  have k1 := h1
  have lt1 : ∀ x ∈ p1, x.block < W.heap.size := by obtain ⟨m, hm⟩ := k1; exact DataW.trod_lt m _ _ _ hm
  obtain ⟨a1, rfl, _, _, w1⟩ := open_int Try.underlying23 (hval 1 23 v1 rfl rfl) h1
  refine (aesMatchesReference_walk a0 w0 a1 w1 W).mono fun e W' ⟨he, bel⟩ => ?_
  subst he
  exact ⟨_, rfl, _, _, _, [], _, [], hW', trodAll_mk1 (shut_bool Try.underlying4 _), (trodAll_cons_mk (Below.trod laidOut (by kernel_rfl) (of_decide_eq_true (by kernel_rfl)) k0 bel lt0) (trodAll_cons_mk (Below.trod laidOut (by kernel_rfl) (of_decide_eq_true (by kernel_rfl)) k1 bel lt1) trodAll_mk0)), rfl, bel.frame _, fun h => by cases h⟩
theorem over : Rows.aesMatchesReferenceRow.holds Try.pinned (OpenSpec.ofChange Rows.aesMatchesReferenceSpec) :=
  OpenClaim.holds_of_wide 3 Try.f3 rfl rfl rfl rfl rfl rfl rfl ⟨rfl, rfl, rfl, rfl, rfl⟩ rfl rfl rfl rfl rfl (by kernel_rfl) Try.func3 (by kernel_rfl)
    (of_decide_eq_true (by kernel_rfl)) (by unfold Func.isWrapper; first | (rw [if_pos (by decide +kernel)]; kernel_rfl) | (rw [if_neg (by decide +kernel)]; exact ⟨rfl, rfl⟩))
    (fun os started H enc _ => lifted os started H enc)
end aesMatchesReferenceF
/-- The statement. -/
theorem aesMatchesReference_holds : Rows.AesMatchesReferenceSaid := aesMatchesReferenceF.over
#print axioms aesMatchesReference_holds
end Go.Proofs.Ytibgmoapkionjaa
