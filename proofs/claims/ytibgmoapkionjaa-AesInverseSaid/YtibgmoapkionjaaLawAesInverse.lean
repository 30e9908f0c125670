/- Encryption and decryption invert each other: for every key and block the law returns true. No condition. -/
import Derived.Test.YtibgmoapkionjaaAesKit
namespace Go.Proofs.Ytibgmoapkionjaa
open Go.ChangeShapes Go.WideShapes Go.ChangeAt Go.RowKit Go.Deep

attribute [local irreducible] wpAnyH in
set_option maxRecDepth 100000 in
set_option maxHeartbeats 4000000 in
theorem aesInverse_core (key b : Nat → Nat) (hk : Aes.B8 key) (hb : Aes.B8 b) (w : World) : Calls Try.prog 4 #[.agg (arr .u8 16 key), .agg (arr .u8 16 b)] w (RetBool true w) := by
  have T1 : sameArr 16 (Aes.dec key (Aes.enc key b)) b = true := sameArr_yes (Aes.dec_enc hk hb)
  have T2 : sameArr 16 (Aes.enc key (Aes.dec key b)) b = true := sameArr_yes (Aes.enc_dec hk hb)
  have HE := Aes.enc_b8 hk hb
  have HD := Aes.dec_b8 hk hb
  have hsz := arr_size .u8 16 key
  have hsz2 := arr_size .u8 16 b
  go_enter Try.func4, Try.ntmps4
  go_wp2_with fail
  refine (aesAwake_any _).mono ?_
  rintro e w1 ⟨rfl, hb1⟩
  go_wp2_with fail
  obtain ⟨a1, a2, a3⟩ := two_boxes w key b
  have h1 := a1.below hb1 (by simp; omega)
  have h2 := a2.below hb1 (by simp)
  have VB := Lib.hid (a3.trans (hb1.mono (by simp; omega)))
  have VA := Lib.hid (And.intro h1 h2)
  have hz := h2.lt
  clear a1 a2 a3 h1 h2 hb1
  obtain ⟨V, hV⟩ : ∃ V : World, V = w1 := ⟨_, rfl⟩
  rw [← hV] at VA VB hz ⊢
  clear hV
  generalize hn0 : w.heap.size = n0 at VA VB hz ⊢
  obtain ⟨n1, hn1⟩ : ∃ n1, n1 = n0 + 1 := ⟨_, rfl⟩
  rw [← hn1] at VA hz ⊢
  have L1 := cells_at VA.out.1
  have L2 := cells_at VA.out.2
  refine wp_reg Try.f4 3 17 (fun w' => Below V.heap.size V w') (by kernel_rfl) (by kernel_rfl) (by kernel_rfl) (below_drewN (Below.refl _ _) 1) (fun K hK h0 => ?_)
  refine reg_cast (listed' := #[false, false, false, false, false, false, false, false, false, false, false, false, false, false, false, false, false]) (by kernel_rfl) rfl ?_
  have HF := Lib.hid hK; clear hK
  refine reg_load 0 7 (by kernel_rfl) _ (.tmp 2) (by kernel_rfl) ⟨n0, 0, none⟩ (by kernel_rfl) (arr .u8 16 key) _ L1 rfl rfl (info16 _) h0 ?_
  simp only [Act.put, List.setIfInBounds_toArray, List.set_cons_zero, List.set_cons_succ]
  refine reg_load 1 8 (by kernel_rfl) _ (.tmp 2) (by kernel_rfl) ⟨n0, 0, none⟩ (by kernel_rfl) (arr .u8 16 key) _ L1 rfl rfl (info16 _) h0 ?_
  simp only [Act.put, List.setIfInBounds_toArray, List.set_cons_zero, List.set_cons_succ]
  refine reg_load 2 9 (by kernel_rfl) _ (.tmp 3) (by kernel_rfl) ⟨n1, 0, none⟩ (by kernel_rfl) (arr .u8 16 b) _ L2 rfl rfl (info16 _) h0 ?_
  simp only [Act.put, List.setIfInBounds_toArray, List.set_cons_zero, List.set_cons_succ]
  refine reg_load 5 12 (by kernel_rfl) _ (.tmp 3) (by kernel_rfl) ⟨n1, 0, none⟩ (by kernel_rfl) (arr .u8 16 b) _ L2 rfl rfl (info16 _) h0 ?_
  simp only [Act.put, List.setIfInBounds_toArray, List.set_cons_zero, List.set_cons_succ]
  refine reg_call 3 10 14 #[.agg (arr .u8 16 key), .agg (arr .u8 16 b)] (by kernel_rfl) (by kernel_rfl) ?_
  refine (aesencrypt_any _ _ _ hk hb).mono ?_
  rintro e wz ⟨rfl, hbz⟩
  have h0 := below_then h0 hbz
  refine ⟨_, rfl, h0, ?_⟩
  simp only [Act.put, List.setIfInBounds_toArray, List.set_cons_zero, List.set_cons_succ]
  refine reg_call 4 11 18 #[.agg (arr .u8 16 key), .agg (arr .u8 16 (Aes.enc key b))] (by kernel_rfl) (by kernel_rfl) ?_
  refine (aesdecrypt_any _ _ _ hk HE).mono ?_
  rintro e wz ⟨rfl, hbz⟩
  have h0 := below_then h0 hbz
  refine ⟨_, rfl, h0, ?_⟩
  simp only [Act.put, List.setIfInBounds_toArray, List.set_cons_zero, List.set_cons_succ]
  refine reg_take 6 13 (.bool true) (by kernel_rfl) (fun w' _ => (exec_eql16 (Aes.dec key (Aes.enc key b)) (b) (.tmp 11) (.tmp 12) (by kernel_rfl) (by kernel_rfl) (by kernel_rfl)).trans (by rw [T1])) h0 ?_
  simp only [Act.put, List.setIfInBounds_toArray, List.set_cons_zero, List.set_cons_succ]
  refine reg_take 7 14 (.bool true) (by kernel_rfl) (fun _ _ => by kernel_rfl) h0 ?_
  simp only [Act.put, List.setIfInBounds_toArray, List.set_cons_zero, List.set_cons_succ]
  refine reg_load 8 15 (by kernel_rfl) _ (.tmp 2) (by kernel_rfl) ⟨n0, 0, none⟩ (by kernel_rfl) (arr .u8 16 key) _ L1 rfl rfl (info16 _) h0 ?_
  simp only [Act.put, List.setIfInBounds_toArray, List.set_cons_zero, List.set_cons_succ]
  refine reg_load 9 16 (by kernel_rfl) _ (.tmp 2) (by kernel_rfl) ⟨n0, 0, none⟩ (by kernel_rfl) (arr .u8 16 key) _ L1 rfl rfl (info16 _) h0 ?_
  simp only [Act.put, List.setIfInBounds_toArray, List.set_cons_zero, List.set_cons_succ]
  refine reg_load 10 17 (by kernel_rfl) _ (.tmp 3) (by kernel_rfl) ⟨n1, 0, none⟩ (by kernel_rfl) (arr .u8 16 b) _ L2 rfl rfl (info16 _) h0 ?_
  simp only [Act.put, List.setIfInBounds_toArray, List.set_cons_zero, List.set_cons_succ]
  refine reg_load 13 20 (by kernel_rfl) _ (.tmp 3) (by kernel_rfl) ⟨n1, 0, none⟩ (by kernel_rfl) (arr .u8 16 b) _ L2 rfl rfl (info16 _) h0 ?_
  simp only [Act.put, List.setIfInBounds_toArray, List.set_cons_zero, List.set_cons_succ]
  refine reg_call 11 18 18 #[.agg (arr .u8 16 key), .agg (arr .u8 16 b)] (by kernel_rfl) (by kernel_rfl) ?_
  refine (aesdecrypt_any _ _ _ hk hb).mono ?_
  rintro e wz ⟨rfl, hbz⟩
  have h0 := below_then h0 hbz
  refine ⟨_, rfl, h0, ?_⟩
  simp only [Act.put, List.setIfInBounds_toArray, List.set_cons_zero, List.set_cons_succ]
  refine reg_call 12 19 14 #[.agg (arr .u8 16 key), .agg (arr .u8 16 (Aes.dec key b))] (by kernel_rfl) (by kernel_rfl) ?_
  refine (aesencrypt_any _ _ _ hk HD).mono ?_
  rintro e wz ⟨rfl, hbz⟩
  have h0 := below_then h0 hbz
  refine ⟨_, rfl, h0, ?_⟩
  simp only [Act.put, List.setIfInBounds_toArray, List.set_cons_zero, List.set_cons_succ]
  refine reg_take 14 21 (.bool true) (by kernel_rfl) (fun w' _ => (exec_eql16 (Aes.enc key (Aes.dec key b)) (b) (.tmp 19) (.tmp 20) (by kernel_rfl) (by kernel_rfl) (by kernel_rfl)).trans (by rw [T2])) h0 ?_
  simp only [Act.put, List.setIfInBounds_toArray, List.set_cons_zero, List.set_cons_succ]
  refine reg_take 15 22 (.bool true) (by kernel_rfl) (fun _ _ => by kernel_rfl) h0 ?_
  simp only [Act.put, List.setIfInBounds_toArray, List.set_cons_zero, List.set_cons_succ]
  refine reg_take 16 4 (.bool true) (by kernel_rfl) (fun _ _ => by kernel_rfl) h0 ?_
  simp only [Act.put, List.setIfInBounds_toArray, List.set_cons_zero, List.set_cons_succ]
  refine reg_done (by kernel_rfl) (HF.out _ _ ?_)
  clear HF
  go_wp2_with fail
  go_ret
  subst hn0
  exact ⟨rfl, VB.out.trans (h0.mono VB.out.size)⟩

theorem aesInverse_walk (f : Nat → Int) (wf : ∀ j, j < 16 → (Lit.int .u8 (f j)).wf = true) (g : Nat → Int) (wg : ∀ j, j < 16 → (Lit.int .u8 (g j)).wf = true) (w : World) :
    Calls Try.prog 4 #[.agg ((List.range 16).map fun i => Value.int .u8 (f i)).toArray, .agg ((List.range 16).map fun i => Value.int .u8 (g i)).toArray] w (RetBool true w) := by
  obtain ⟨key, hk, e1⟩ := bytes_arg f wf
  obtain ⟨b, hb, e2⟩ := bytes_arg g wg
  rw [e1, e2]
  exact aesInverse_core key b hk hb w

/-! ### THE ROW's STEP -/
namespace aesInverseF
theorem own : ownKnob Try.prog.godebug = none := by kernel_rfl
theorem laidOut : laidOutB Try.prog = true := by kernel_rfl
set_option maxRecDepth 100000 in
theorem lifted (os : Os) (started : os.Started) (H : Type) (enc : TypeId × Value → H) :
    ReturnsInHanded {} Try.checked os 4 .any (Rows.aesInverseSpec.pre6 enc Try.prog Try.f4 Rows.aesInverseRow.domain false) (Rows.aesInverseSpec.post enc Try.prog Try.f4 false true false false) := by
  refine returnsInHanded_of_change (C := Try.checked) own started (by kernel_rfl) Try.func4
    (ChangeSpec.witness6 (enc := enc) (C := Try.checked) false ⟨#[], #[.agg #[.int .u8 0, .int .u8 0, .int .u8 0, .int .u8 0, .int .u8 0, .int .u8 0, .int .u8 0, .int .u8 0, .int .u8 0, .int .u8 0, .int .u8 0, .int .u8 0, .int .u8 0, .int .u8 0, .int .u8 0, .int .u8 0], .agg #[.int .u8 0, .int .u8 0, .int .u8 0, .int .u8 0, .int .u8 0, .int .u8 0, .int .u8 0, .int .u8 0, .int .u8 0, .int .u8 0, .int .u8 0, .int .u8 0, .int .u8 0, .int .u8 0, .int .u8 0, .int .u8 0]], []⟩ 8 (by kernel_rfl) (by kernel_rfl) (by kernel_rfl) (by kernel_rfl)) ?_
  intro W base args ds gs before hval0 hW _ _
  have hval : ∀ (j : Nat) t v, Try.f4.params[j]? = some t → args[j]? = some v → Value.okWide Try.prog W .any base t v := hval0
  have hW' := hW
  obtain ⟨p, q, hA0, hV, rfl, _, _⟩ := hW
  have hA : DataW.TrodAll enc Try.prog W 0 (fun _ => true) true Try.f4.params.toList args.toList ds p := hA0
  rw [Try.params4] at hA hval
  obtain ⟨v0, vs0, d0, ds0, p0, q0, hargs, rfl, rfl, h0, r0⟩ := trodAll_cons hA
  obtain ⟨v1, vs1, d1, ds1, p1, q1, rfl, rfl, rfl, h1, r1⟩ := trodAll_cons r0
  obtain ⟨rfl, rfl, rfl⟩ := trodAll_nil r1
  obtain rfl : args = #[v0, v1] := by cases args; simp_all
  obtain ⟨rfl, rfl⟩ := trodVars_none hV
  have k0 := h0
  have lt0 : ∀ x ∈ p0, x.block < W.heap.size := by obtain ⟨m, hm⟩ := k0; exact DataW.trod_lt m _ _ _ hm
  obtain ⟨a0, rfl, w0⟩ := open_int_array Try.underlying22 Try.underlying5 (by kernel_rfl) (by kernel_rfl) (hval 0 22 v0 rfl rfl) h0
  have k1 := h1
  have lt1 : ∀ x ∈ p1, x.block < W.heap.size := by obtain ⟨m, hm⟩ := k1; exact DataW.trod_lt m _ _ _ hm
  obtain ⟨a1, rfl, w1⟩ := open_int_array Try.underlying22 Try.underlying5 (by kernel_rfl) (by kernel_rfl) (hval 1 22 v1 rfl rfl) h1
  refine (aesInverse_walk a0 w0 a1 w1 W).mono fun e W' ⟨he, bel⟩ => ?_
  subst he
  exact ⟨_, rfl, _, _, _, [], _, [], hW', trodAll_mk1 (shut_bool Try.underlying4 _), (trodAll_cons_mk (Below.trod laidOut (by kernel_rfl) (of_decide_eq_true (by kernel_rfl)) k0 bel lt0) (trodAll_cons_mk (Below.trod laidOut (by kernel_rfl) (of_decide_eq_true (by kernel_rfl)) k1 bel lt1) trodAll_mk0)), rfl, bel.frame _, fun h => by cases h⟩
theorem over : Rows.aesInverseRow.holds Try.pinned (OpenSpec.ofChange Rows.aesInverseSpec) :=
  OpenClaim.holds_of_wide 4 Try.f4 rfl rfl rfl rfl rfl rfl rfl ⟨rfl, rfl, rfl, rfl, rfl⟩ rfl rfl rfl rfl rfl (by kernel_rfl) Try.func4 (by kernel_rfl)
    (of_decide_eq_true (by kernel_rfl)) (by unfold Func.isWrapper; first | (rw [if_pos (by decide +kernel)]; kernel_rfl) | (rw [if_neg (by decide +kernel)]; exact ⟨rfl, rfl⟩))
    (fun os started H enc _ => lifted os started H enc)
end aesInverseF
/-- The statement. -/
theorem aesInverse_holds : Rows.AesInverseSaid := aesInverseF.over
#print axioms aesInverse_holds
end Go.Proofs.Ytibgmoapkionjaa
