/- The round keys of a key are those of the reference implementation; two keys with the same last round key are the same: for every two keys the law returns true. No condition. -/
import Derived.Test.YtibgmoapkionjaaAesKit
namespace Go.Proofs.Ytibgmoapkionjaa
open Go.ChangeShapes Go.WideShapes Go.ChangeAt Go.RowKit Go.Deep

attribute [local irreducible] wpAnyH in
set_option maxRecDepth 100000 in
set_option maxHeartbeats 4000000 in
theorem aesKeys_core (key b : Nat → Nat) (hk : Aes.B8 key) (hb : Aes.B8 b) (w : World) : Calls Try.prog 5 #[.agg (arr .u8 16 key), .agg (arr .u8 16 b)] w (RetBool true w) := by
  have T1 : sameArr 16 (Aes.ks key 10) (Aes.ks b 10) = sameArr 16 key b := by
    by_cases h : Aes.Eq16 key b
    · rw [sameArr_yes h, sameArr_yes (Aes.ks_congr h 10)]
    · have h2 : ¬ Aes.Eq16 (Aes.ks key 10) (Aes.ks b 10) := fun e => h (Aes.ks_inj 10 e)
      unfold Aes.Eq16 at h h2
      simp only [Classical.not_forall] at h h2
      obtain ⟨j, hj, hx⟩ := h
      obtain ⟨j2, hj2, hx2⟩ := h2
      rw [sameArr_no j hj hx, sameArr_no j2 hj2 hx2]
  have hz32 : ∀ w, (zeroValue 32).run Try.prog w = .ok (.agg (Array.replicate 176 (.int .u8 0))) w := fun _ => by kernel_rfl
  have hsz := arr_size .u8 16 key
  have hsz2 := arr_size .u8 16 b
  go_enter Try.func5, Try.ntmps5
  go_wp2_with fail
  refine (aesAwake_any _).mono ?_
  rintro e w1 ⟨rfl, hb1⟩
  go_upto_region 3 with fail
  obtain ⟨a1, a2, a3⟩ := two_boxes w key b
  have h1 := a1.below hb1 (by simp; omega)
  have h2 := a2.below hb1 (by simp)
  have VB := Lib.hid (a3.trans (hb1.mono (by simp; omega)))
  have VA := Lib.hid (And.intro h1 h2)
  have hz := h2.lt
  clear a1 a2 a3 h1 h2 hb1
  obtain ⟨V, hV⟩ : ∃ V : World, V = w1 := ⟨_, rfl⟩
  rw [← hV] at VA VB hz ⊢
  clear hV
  generalize hn0 : w.heap.size = n0 at VA VB hz ⊢
  obtain ⟨n1, hn1⟩ : ∃ n1, n1 = n0 + 1 := ⟨_, rfl⟩
  rw [← hn1] at VA hz ⊢
  have HN1 := Lib.hid hn1; clear hn1
  have L1 := cells_at VA.out.1
  have L2 := cells_at VA.out.2
  go_upto_region 4 with (first | refine wpList_load_row rfl _ _ rfl n0 rfl _ _ (0, 0) _ VA.out.1 rfl rfl (info16 _) ?_ | (go_at_call 19; refine (aeskeys_any _ _ hk).mono ?_; rintro e w2 ⟨rfl, hb2⟩) | (refine wpList_store_rowTo rfl _ _ _ rfl rfl w2.heap.size _ rfl rfl _ _ (heap_alloc_new _ _) (info176 _) (by rw [arr_size]; first | rfl | simp) (arr_one _ _ _) ?_; generalize hV2 : World.setRow _ w2.heap.size _ = V2))
  have hbV : Below V.heap.size V V2 := by rw [← hV2]; exact below_setRow (hb2.alloc hb2.size _) hb2.size _
  have hA : isArr V2 w2.heap.size 32 .u8 176 (Aes.flat key) := by rw [← hV2]; exact setRow_heap _ _ _ _ _ _ (heap_alloc_new _ _)
  have A1 := Lib.hid (And.intro (VA.out.1.below hbV VA.out.1.lt) (And.intro (VA.out.2.below hbV VA.out.2.lt) (And.intro hA (VB.out.trans (hbV.mono (by rw [← hn0]; exact VB.out.size))))))
  clear hV2 hbV hA hb2 L1 L2
  generalize w2.heap.size = g1 at A1 ⊢
  have kk := A1.out.2.1
  go_upto_region 5 with (first | refine wpList_load_row rfl _ _ rfl n1 rfl _ _ (0, 0) _ kk rfl rfl (info16 _) ?_ | (go_at_call 19; refine (aeskeys_any _ _ hb).mono ?_; rintro e w3 ⟨rfl, hb3⟩) | (refine wpList_store_rowTo rfl _ _ _ rfl rfl w3.heap.size _ rfl rfl _ _ (heap_alloc_new _ _) (info176 _) (by rw [arr_size]; first | rfl | simp) (arr_one _ _ _) ?_; generalize hU : World.setRow _ w3.heap.size _ = U))
  have hbU : Below V2.heap.size V2 U := by rw [← hU]; exact below_setRow (hb3.alloc hb3.size _) hb3.size _
  have hA : isArr U w3.heap.size 32 .u8 176 (Aes.flat b) := by rw [← hU]; exact setRow_heap _ _ _ _ _ _ (heap_alloc_new _ _)
  have A2 := Lib.hid (And.intro (A1.out.1.below hbU A1.out.1.lt) (And.intro (A1.out.2.1.below hbU A1.out.2.1.lt) (And.intro (A1.out.2.2.1.below hbU A1.out.2.2.1.lt) (And.intro hA (A1.out.2.2.2.trans (hbU.mono (by rw [← hn0]; exact A1.out.2.2.2.size)))))))
  clear hU hbU hA hb3 kk A1
  generalize w3.heap.size = g2 at A2 ⊢
  have L1 := cells_at A2.out.1
  have L2 := cells_at A2.out.2.1
  have L3 := cells_at A2.out.2.2.1
  have M1 : ∀ w', Below U.heap.size U w' → ∀ i v, (arr .u8 16 (Aes.ks key 10))[i]? = some v → w'.cell? ((⟨g1, 160, none⟩ : Addr).add i) = some v := fun w' h => flat_row (A2.out.2.2.1.below h A2.out.2.2.1.lt) 10 (by omega)
  have M2 : ∀ w', Below U.heap.size U w' → ∀ i v, (arr .u8 16 (Aes.ks b 10))[i]? = some v → w'.cell? ((⟨g2, 160, none⟩ : Addr).add i) = some v := fun w' h => flat_row (A2.out.2.2.2.1.below h A2.out.2.2.2.1.lt) 10 (by omega)
  refine wp_reg Try.f5 5 17 (fun w' => Below U.heap.size U w') (by kernel_rfl) (by kernel_rfl) (by kernel_rfl) (below_drewN (Below.refl _ _) 1) (fun K hK h0 => ?_)
  refine reg_cast (listed' := #[false, false, false, false, false, false, false, false, false, false, false, false, false, false, false, false, false]) (by kernel_rfl) rfl ?_
  have HF := Lib.hid hK; clear hK
  refine reg_load 0 13 (by kernel_rfl) _ (.tmp 5) (by kernel_rfl) ⟨g1, 0, none⟩ (by kernel_rfl) (arr .u8 176 (Aes.flat key)) _ L3 rfl rfl (info176 _) h0 ?_
  simp only [Act.put, List.setIfInBounds_toArray, List.set_cons_zero, List.set_cons_succ]
  refine reg_load 1 14 (by kernel_rfl) _ (.tmp 2) (by kernel_rfl) ⟨n0, 0, none⟩ (by kernel_rfl) (arr .u8 16 key) _ L1 rfl rfl (info16 _) h0 ?_
  simp only [Act.put, List.setIfInBounds_toArray, List.set_cons_zero, List.set_cons_succ]
  refine reg_call 2 15 17 #[] (by kernel_rfl) (by kernel_rfl) ?_
  refine (box7_any _).mono ?_
  rintro e wz ⟨rfl, hbz⟩
  have h0 := below_then h0 hbz
  refine ⟨_, rfl, h0, ?_⟩
  simp only [Act.put, List.setIfInBounds_toArray, List.set_cons_zero, List.set_cons_succ]
  refine reg_call 3 16 20 #[.agg (arr .u8 16 key), .agg (arr .u8 256 Fld.sb)] (by kernel_rfl) (by kernel_rfl) ?_
  refine (refkeys_any _ _ hk).mono ?_
  rintro e wz ⟨rfl, hbz⟩
  have h0 := below_then h0 hbz
  refine ⟨_, rfl, h0, ?_⟩
  simp only [Act.put, List.setIfInBounds_toArray, List.set_cons_zero, List.set_cons_succ]
  refine reg_take 4 17 (.bool true) (by kernel_rfl) (fun w' _ => exec_eql176 (Aes.flat key) (.tmp 13) (.tmp 16) (by kernel_rfl) (by kernel_rfl) (by kernel_rfl)) h0 ?_
  simp only [Act.put, List.setIfInBounds_toArray, List.set_cons_zero, List.set_cons_succ]
  refine reg_take 5 18 (.bool true) (by kernel_rfl) (fun _ _ => by kernel_rfl) h0 ?_
  simp only [Act.put, List.setIfInBounds_toArray, List.set_cons_zero, List.set_cons_succ]
  refine reg_take 6 19 (.pointer (some ⟨g1, 160, none⟩)) (by kernel_rfl) (fun _ _ => by kernel_rfl) h0 ?_
  simp only [Act.put, List.setIfInBounds_toArray, List.set_cons_zero, List.set_cons_succ]
  refine reg_take 8 21 (.pointer (some ⟨g2, 160, none⟩)) (by kernel_rfl) (fun _ _ => by kernel_rfl) h0 ?_
  simp only [Act.put, List.setIfInBounds_toArray, List.set_cons_zero, List.set_cons_succ]
  refine reg_load 7 20 (by kernel_rfl) _ (.tmp 19) (by kernel_rfl) ⟨g1, 160, none⟩ (by kernel_rfl) (arr .u8 16 (Aes.ks key 10)) _ M1 rfl rfl (info16 _) h0 ?_
  simp only [Act.put, List.setIfInBounds_toArray, List.set_cons_zero, List.set_cons_succ]
  refine reg_load 9 22 (by kernel_rfl) _ (.tmp 21) (by kernel_rfl) ⟨g2, 160, none⟩ (by kernel_rfl) (arr .u8 16 (Aes.ks b 10)) _ M2 rfl rfl (info16 _) h0 ?_
  simp only [Act.put, List.setIfInBounds_toArray, List.set_cons_zero, List.set_cons_succ]
  refine reg_take 10 23 (.bool (sameArr 16 key b)) (by kernel_rfl) (fun w' _ => (exec_eql16 (Aes.ks key 10) (Aes.ks b 10) (.tmp 20) (.tmp 22) (by kernel_rfl) (by kernel_rfl) (by kernel_rfl)).trans (by rw [T1])) h0 ?_
  simp only [Act.put, List.setIfInBounds_toArray, List.set_cons_zero, List.set_cons_succ]
  refine reg_load 11 24 (by kernel_rfl) _ (.tmp 2) (by kernel_rfl) ⟨n0, 0, none⟩ (by kernel_rfl) (arr .u8 16 key) _ L1 rfl rfl (info16 _) h0 ?_
  simp only [Act.put, List.setIfInBounds_toArray, List.set_cons_zero, List.set_cons_succ]
  refine reg_load 12 25 (by kernel_rfl) _ (.tmp 3) (by kernel_rfl) ⟨n1, 0, none⟩ (by kernel_rfl) (arr .u8 16 b) _ L2 rfl rfl (info16 _) h0 ?_
  simp only [Act.put, List.setIfInBounds_toArray, List.set_cons_zero, List.set_cons_succ]
  refine reg_take 13 26 (.bool (sameArr 16 key b)) (by kernel_rfl) (fun w' _ => exec_eql16 (key) (b) (.tmp 24) (.tmp 25) (by kernel_rfl) (by kernel_rfl) (by kernel_rfl)) h0 ?_
  simp only [Act.put, List.setIfInBounds_toArray, List.set_cons_zero, List.set_cons_succ]
  refine reg_take 14 27 (.bool true) (by kernel_rfl) (fun w' _ => exec_eql_same (sameArr 16 key b) (.tmp 23) (.tmp 26) (by kernel_rfl) (by kernel_rfl) (by kernel_rfl)) h0 ?_
  simp only [Act.put, List.setIfInBounds_toArray, List.set_cons_zero, List.set_cons_succ]
  refine reg_take 15 28 (.bool true) (by kernel_rfl) (fun _ _ => by kernel_rfl) h0 ?_
  simp only [Act.put, List.setIfInBounds_toArray, List.set_cons_zero, List.set_cons_succ]
  refine reg_take 16 4 (.bool true) (by kernel_rfl) (fun _ _ => by kernel_rfl) h0 ?_
  simp only [Act.put, List.setIfInBounds_toArray, List.set_cons_zero, List.set_cons_succ]
  refine reg_done (by kernel_rfl) (HF.out _ _ ?_)
  clear HF
  go_wp2_with fail
  go_ret
  subst hn0
  exact ⟨rfl, A2.out.2.2.2.2.trans (h0.mono A2.out.2.2.2.2.size)⟩

theorem aesKeys_walk (f : Nat → Int) (wf : ∀ j, j < 16 → (Lit.int .u8 (f j)).wf = true) (g : Nat → Int) (wg : ∀ j, j < 16 → (Lit.int .u8 (g j)).wf = true) (w : World) :
    Calls Try.prog 5 #[.agg ((List.range 16).map fun i => Value.int .u8 (f i)).toArray, .agg ((List.range 16).map fun i => Value.int .u8 (g i)).toArray] w (RetBool true w) := by
  obtain ⟨key, hk, e1⟩ := bytes_arg f wf
  obtain ⟨b, hb, e2⟩ := bytes_arg g wg
  rw [e1, e2]
  exact aesKeys_core key b hk hb w

/-! ### THE ROW's STEP -/
namespace aesKeysF
theorem own : ownKnob Try.prog.godebug = none := by kernel_rfl
theorem laidOut : laidOutB Try.prog = true := by kernel_rfl
set_option maxRecDepth 100000 in
theorem lifted (os : Os) (started : os.Started) (H : Type) (enc : TypeId × Value → H) :
    ReturnsInHanded {} Try.checked os 5 .any (Rows.aesKeysSpec.pre6 enc Try.prog Try.f5 Rows.aesKeysRow.domain false) (Rows.aesKeysSpec.post enc Try.prog Try.f5 false true false false) := by
  refine returnsInHanded_of_change (C := Try.checked) own started (by kernel_rfl) Try.func5
    (ChangeSpec.witness6 (enc := enc) (C := Try.checked) false ⟨#[], #[.agg #[.int .u8 0, .int .u8 0, .int .u8 0, .int .u8 0, .int .u8 0, .int .u8 0, .int .u8 0, .int .u8 0, .int .u8 0, .int .u8 0, .int .u8 0, .int .u8 0, .int .u8 0, .int .u8 0, .int .u8 0, .int .u8 0], .agg #[.int .u8 0, .int .u8 0, .int .u8 0, .int .u8 0, .int .u8 0, .int .u8 0, .int .u8 0, .int .u8 0, .int .u8 0, .int .u8 0, .int .u8 0, .int .u8 0, .int .u8 0, .int .u8 0, .int .u8 0, .int .u8 0]], []⟩ 8 (by kernel_rfl) (by kernel_rfl) (by kernel_rfl) (by kernel_rfl)) ?_
  intro W base args ds gs before hval0 hW _ _
  have hval : ∀ (j : Nat) t v, Try.f5.params[j]? = some t → args[j]? = some v → Value.okWide Try.prog W .any base t v := hval0
  have hW' := hW
  obtain ⟨p, q, hA0, hV, rfl, _, _⟩ := hW
  have hA : DataW.TrodAll enc Try.prog W 0 (fun _ => true) true Try.f5.params.toList args.toList ds p := hA0
  rw [Try.params5] at hA hval
  obtain ⟨v0, vs0, d0, ds0, p0, q0, hargs, rfl, rfl, h0, r0⟩ := trodAll_cons hA
  obtain ⟨v1, vs1, d1, ds1, p1, q1, rfl, rfl, rfl, h1, r1⟩ := trodAll_cons r0
  obtain ⟨rfl, rfl, rfl⟩ := trodAll_nil r1
  obtain rfl : args = #[v0, v1] := by cases args; simp_all
  obtain ⟨rfl, rfl⟩ := trodVars_none hV
  have k0 := h0
  have lt0 : ∀ x ∈ p0, x.block < W.heap.size := by obtain ⟨m, hm⟩ := k0; exact DataW.trod_lt m _ _ _ hm
  obtain ⟨a0, rfl, w0⟩ := open_int_array Try.underlying22 Try.underlying5 (by kernel_rfl) (by kernel_rfl) (hval 0 22 v0 rfl rfl) h0
  have k1 := h1
  have lt1 : ∀ x ∈ p1, x.block < W.heap.size := by obtain ⟨m, hm⟩ := k1; exact DataW.trod_lt m _ _ _ hm
  obtain ⟨a1, rfl, w1⟩ := open_int_array Try.underlying22 Try.underlying5 (by kernel_rfl) (by kernel_rfl) (hval 1 22 v1 rfl rfl) h1
  refine (aesKeys_walk a0 w0 a1 w1 W).mono fun e W' ⟨he, bel⟩ => ?_
  subst he
  exact ⟨_, rfl, _, _, _, [], _, [], hW', trodAll_mk1 (shut_bool Try.underlying4 _), (trodAll_cons_mk (Below.trod laidOut (by kernel_rfl) (of_decide_eq_true (by kernel_rfl)) k0 bel lt0) (trodAll_cons_mk (Below.trod laidOut (by kernel_rfl) (of_decide_eq_true (by kernel_rfl)) k1 bel lt1) trodAll_mk0)), rfl, bel.frame _, fun h => by cases h⟩
theorem over : Rows.aesKeysRow.holds Try.pinned (OpenSpec.ofChange Rows.aesKeysSpec) :=
  OpenClaim.holds_of_wide 5 Try.f5 rfl rfl rfl rfl rfl rfl rfl ⟨rfl, rfl, rfl, rfl, rfl⟩ rfl rfl rfl rfl rfl (by kernel_rfl) Try.func5 (by kernel_rfl)
    (of_decide_eq_true (by kernel_rfl)) (by unfold Func.isWrapper; first | (rw [if_pos (by decide +kernel)]; kernel_rfl) | (rw [if_neg (by decide +kernel)]; exact ⟨rfl, rfl⟩))
    (fun os started H enc _ => lifted os started H enc)
end aesKeysF
/-- The statement. -/
theorem aesKeys_holds : Rows.AesKeysSaid := aesKeysF.over
#print axioms aesKeys_holds
end Go.Proofs.Ytibgmoapkionjaa
