/- Different blocks have different encryptions under the same key; one changed bit is enough: for every key, block and bit the law returns true. No condition. -/
import Derived.Test.YtibgmoapkionjaaAesKit
namespace Go.Proofs.Ytibgmoapkionjaa
open Go.ChangeShapes Go.WideShapes Go.ChangeAt Go.RowKit Go.Deep

theorem bit_ne (x k : Nat) (hk : k < 8) : x ^^^ 2 ^ k ≠ x := fun e => by
  have : 2 ^ k = 0 := Aes.xor_cancel (a := x) (by rw [e, Nat.xor_zero])
  have := Nat.two_pow_pos k
  omega
attribute [local irreducible] wpAnyH in
set_option maxRecDepth 100000 in
set_option maxHeartbeats 4000000 in
theorem aesApart_core (key b : Nat → Nat) (hk : Aes.B8 key) (hb : Aes.B8 b) (n : Nat) (hn : n < 256) (w : World) : Calls Try.prog 7 #[.agg (arr .u8 16 key), .agg (arr .u8 16 b), .int .u8 (n : Int)] w (RetBool true w) := by
  obtain ⟨i, hi⟩ : ∃ i, i = n % 128 / 8 := ⟨_, rfl⟩
  obtain ⟨k, hk8⟩ : ∃ k, k = n % 128 % 8 := ⟨_, rfl⟩
  obtain ⟨c, hc⟩ : ∃ c : Nat → Nat, c = fun t => if t = i then b i ^^^ 2 ^ k else b t := ⟨_, rfl⟩
  have l2 : 2 ^ k < 256 := Nat.lt_of_lt_of_le (Nat.pow_lt_pow_right (by omega) (show k < 8 by omega)) (by decide)
  have hc8 : Aes.B8 c := fun t => by
    rw [hc]
    dsimp only
    split
    · exact Fld.xor_lt _ _ (hb i) l2
    · exact hb t
  have hne : ¬ Aes.Eq16 b c := fun e => by
    have := e i (by omega)
    rw [hc] at this
    dsimp only at this
    rw [if_pos rfl] at this
    exact bit_ne _ _ (by omega) this.symm
  have T1 : sameArr 16 (Aes.enc key b) (Aes.enc key c) = false := by
    by_cases h : Aes.Eq16 (Aes.enc key b) (Aes.enc key c)
    · exact absurd (Aes.enc_inj hk hb hc8 h) hne
    · unfold Aes.Eq16 at h
      simp only [Classical.not_forall] at h
      obtain ⟨j, hj, hx⟩ := h
      exact sameArr_no j hj hx
  have T2 : sameArr 16 (Aes.xor (Aes.xor b c) c) b = true := by rw [Aes.xor_xor]; exact sameArr_refl _ _
  have HX := Aes.xor_b8 hb hc8
  have cv : b i ^^^ 2 ^ k = c i := by rw [hc]; dsimp only; rw [if_pos rfl]
  have cs : ∀ t, t < 16 → (if t = i then c i else b t) = c t := fun t _ => by
    rw [hc]; dsimp only
    by_cases e : t = i
    · rw [if_pos e, if_pos rfl, if_pos e]
    · rw [if_neg e, if_neg e]
  have hx1 := u8_xor_nat (b i) (2 ^ k) (hb i) l2
  rw [cv] at hx1
  have e2k : (2 : Int) ^ k % 256 = ((2 ^ k : Nat) : Int) := by
    have h1 : ((2 ^ k : Nat) : Int) = (2 : Int) ^ k := by simp
    have h2 : ((2 ^ k : Nat) : Int) < 256 := by exact_mod_cast l2
    rw [← h1]; exact Int.emod_eq_of_lt (Int.natCast_nonneg _) h2
  rw [← e2k] at hx1
  have HX1 := Lib.hid hx1
  clear e2k hx1
  have CS := Lib.hid cs
  have HBI := Lib.hid (And.intro hi (And.intro hk8 hc))
  have e1 : (n : Int) % 128 = ((n % 128 : Nat) : Int) := by omega
  obtain ⟨m, hm⟩ : ∃ m, m = n % 128 := ⟨_, rfl⟩
  rw [← hm] at e1
  have e2 : (m : Int) / 8 = (i : Int) := by omega
  have e3 : (m : Int) % 8 = (k : Int) := by omega
  have li : (i : Int) < 16 := by omega
  have ni : 0 ≤ (i : Int) := by omega
  have lk : (k : Int) < 8 := by omega
  have nk : 0 ≤ (k : Int) := by omega
  have lm : (m : Int) < 128 := by omega
  have nm : 0 ≤ (m : Int) := by omega
  clear hm hi hk8 hc cv cs hne
  have hsz := arr_size .u8 16 key
  have hsz2 := arr_size .u8 16 b
  go_enter Try.func7, Try.ntmps7
  go_wp2_with fail
  refine (aesAwake_any _).mono ?_
  rintro e w1 ⟨rfl, hb1⟩
  go_upto_region 3 with fail
  obtain ⟨a1, a2, a3⟩ := two_boxes w key b
  have h1 := a1.below hb1 (by simp; omega)
  have h2 := a2.below hb1 (by simp)
  have VB := Lib.hid (a3.trans (hb1.mono (by simp; omega)))
  have VA := Lib.hid (And.intro h1 h2)
  have hz := h2.lt
  clear a1 a2 a3 h1 h2 hb1
  obtain ⟨V, hV⟩ : ∃ V : World, V = w1 := ⟨_, rfl⟩
  rw [← hV] at VA VB hz ⊢
  clear hV
  generalize hn0 : w.heap.size = n0 at VA VB hz ⊢
  obtain ⟨n1, hn1⟩ : ∃ n1, n1 = n0 + 1 := ⟨_, rfl⟩
  rw [← hn1] at VA hz ⊢
  have HN1 := Lib.hid hn1; clear hn1
  have L1 := cells_at VA.out.1
  have L2 := cells_at VA.out.2
  go_upto_region 4 with (first | refine wpList_load_row rfl _ _ rfl n1 rfl _ _ (0, 0) _ VA.out.2 rfl rfl (info16 _) ?_ | (refine wpList_store_rowTo rfl _ _ _ rfl rfl V.heap.size _ rfl rfl _ _ (heap_alloc_new _ _) (info16 _) (by rw [arr_size]; rfl) (arr_one _ _ _) ?_; generalize hV2 : World.setRow _ V.heap.size _ = V2))
  have hb2 : Below V.heap.size V V2 := by rw [← hV2]; exact below_setRow ((Below.refl _ _).alloc (Nat.le_refl _) _) (Nat.le_refl _) _
  have ho : isArr V2 V.heap.size 22 .u8 16 b := by rw [← hV2]; exact setRow_heap _ _ _ _ _ _ (heap_alloc_new _ _)
  have q1 := VA.out.1.below hb2 VA.out.1.lt
  have q2 := VA.out.2.below hb2 VA.out.2.lt
  have VB2 := Lib.hid (VB.out.trans (hb2.mono (by rw [← hn0]; exact VB.out.size)))
  have co := ho.cell (i := i) (by omega)
  have fo := ho.frozen i
  have HO := Lib.hid (And.intro ho (And.intro q1 q2))
  clear hV2 hb2 ho q1 q2 L1 L2
  generalize V.heap.size = g at HO co fo hz ⊢
  go_upto_region 6 with fail
  rw [HX1.out]
  have hng : n0 < g := by have := HN1.out; omega
  have KC : Hid (isArr (V2.setCell ⟨g, i, none⟩ (.int .u8 ((c i : Nat) : Int))) g 22 .u8 16 c ∧ isArr (V2.setCell ⟨g, i, none⟩ (.int .u8 ((c i : Nat) : Int))) n0 22 .u8 16 key ∧ isArr (V2.setCell ⟨g, i, none⟩ (.int .u8 ((c i : Nat) : Int))) n1 22 .u8 16 b ∧ Below n0 w (V2.setCell ⟨g, i, none⟩ (.int .u8 ((c i : Nat) : Int)))) := Lib.hid
    ⟨(HO.out.1.set i (c i)).congr CS.out, HO.out.2.1.setOther (by omega) _ _, HO.out.2.2.setOther (by omega) _ _, below_set VB2.out (by omega) _ _⟩
  clear co fo HO VB2 CS HX1
  generalize V2.setCell ⟨g, i, none⟩ (.int .u8 ((c i : Nat) : Int)) = U at KC ⊢
  have L1 := cells_at KC.out.2.1
  have L2 := cells_at KC.out.2.2.1
  have L3 := cells_at KC.out.1
  refine wp_reg Try.f7 6 17 (fun w' => Below U.heap.size U w') (by kernel_rfl) (by kernel_rfl) (by kernel_rfl) (below_drewN (Below.refl _ _) 1) (fun K hK h0 => ?_)
  refine reg_cast (listed' := #[false, false, false, false, false, false, false, false, false, false, false, false, false, false, false, false, false]) (by kernel_rfl) rfl ?_
  have HF := Lib.hid hK; clear hK
  refine reg_load 0 27 (by kernel_rfl) _ (.tmp 3) (by kernel_rfl) ⟨n0, 0, none⟩ (by kernel_rfl) (arr .u8 16 key) _ L1 rfl rfl (info16 _) h0 ?_
  simp only [Act.put, List.setIfInBounds_toArray, List.set_cons_zero, List.set_cons_succ]
  refine reg_load 1 28 (by kernel_rfl) _ (.tmp 4) (by kernel_rfl) ⟨n1, 0, none⟩ (by kernel_rfl) (arr .u8 16 b) _ L2 rfl rfl (info16 _) h0 ?_
  simp only [Act.put, List.setIfInBounds_toArray, List.set_cons_zero, List.set_cons_succ]
  refine reg_load 3 30 (by kernel_rfl) _ (.tmp 3) (by kernel_rfl) ⟨n0, 0, none⟩ (by kernel_rfl) (arr .u8 16 key) _ L1 rfl rfl (info16 _) h0 ?_
  simp only [Act.put, List.setIfInBounds_toArray, List.set_cons_zero, List.set_cons_succ]
  refine reg_load 4 31 (by kernel_rfl) _ (.tmp 7) (by kernel_rfl) ⟨g, 0, none⟩ (by kernel_rfl) (arr .u8 16 c) _ L3 rfl rfl (info16 _) h0 ?_
  simp only [Act.put, List.setIfInBounds_toArray, List.set_cons_zero, List.set_cons_succ]
  refine reg_call 2 29 14 #[.agg (arr .u8 16 key), .agg (arr .u8 16 b)] (by kernel_rfl) (by kernel_rfl) ?_
  refine (aesencrypt_any _ _ _ hk hb).mono ?_
  rintro e wz ⟨rfl, hbz⟩
  have h0 := below_then h0 hbz
  refine ⟨_, rfl, h0, ?_⟩
  simp only [Act.put, List.setIfInBounds_toArray, List.set_cons_zero, List.set_cons_succ]
  refine reg_call 5 32 14 #[.agg (arr .u8 16 key), .agg (arr .u8 16 c)] (by kernel_rfl) (by kernel_rfl) ?_
  refine (aesencrypt_any _ _ _ hk hc8).mono ?_
  rintro e wz ⟨rfl, hbz⟩
  have h0 := below_then h0 hbz
  refine ⟨_, rfl, h0, ?_⟩
  simp only [Act.put, List.setIfInBounds_toArray, List.set_cons_zero, List.set_cons_succ]
  refine reg_take 6 33 (.bool true) (by kernel_rfl) (fun w' _ => (exec_neq16 (Aes.enc key b) (Aes.enc key c) (.tmp 29) (.tmp 32) (by kernel_rfl) (by kernel_rfl) (by kernel_rfl)).trans (by rw [T1]; rfl)) h0 ?_
  simp only [Act.put, List.setIfInBounds_toArray, List.set_cons_zero, List.set_cons_succ]
  refine reg_take 7 34 (.bool true) (by kernel_rfl) (fun _ _ => by kernel_rfl) h0 ?_
  simp only [Act.put, List.setIfInBounds_toArray, List.set_cons_zero, List.set_cons_succ]
  refine reg_load 8 35 (by kernel_rfl) _ (.tmp 4) (by kernel_rfl) ⟨n1, 0, none⟩ (by kernel_rfl) (arr .u8 16 b) _ L2 rfl rfl (info16 _) h0 ?_
  simp only [Act.put, List.setIfInBounds_toArray, List.set_cons_zero, List.set_cons_succ]
  refine reg_load 9 36 (by kernel_rfl) _ (.tmp 7) (by kernel_rfl) ⟨g, 0, none⟩ (by kernel_rfl) (arr .u8 16 c) _ L3 rfl rfl (info16 _) h0 ?_
  simp only [Act.put, List.setIfInBounds_toArray, List.set_cons_zero, List.set_cons_succ]
  refine reg_load 11 38 (by kernel_rfl) _ (.tmp 7) (by kernel_rfl) ⟨g, 0, none⟩ (by kernel_rfl) (arr .u8 16 c) _ L3 rfl rfl (info16 _) h0 ?_
  simp only [Act.put, List.setIfInBounds_toArray, List.set_cons_zero, List.set_cons_succ]
  refine reg_load 13 40 (by kernel_rfl) _ (.tmp 4) (by kernel_rfl) ⟨n1, 0, none⟩ (by kernel_rfl) (arr .u8 16 b) _ L2 rfl rfl (info16 _) h0 ?_
  simp only [Act.put, List.setIfInBounds_toArray, List.set_cons_zero, List.set_cons_succ]
  refine reg_call 10 37 23 #[.agg (arr .u8 16 b), .agg (arr .u8 16 c)] (by kernel_rfl) (by kernel_rfl) ?_
  refine (aesxor_any _ _ _ hb hc8).mono ?_
  rintro e wz ⟨rfl, hbz⟩
  have h0 := below_then h0 hbz
  refine ⟨_, rfl, h0, ?_⟩
  simp only [Act.put, List.setIfInBounds_toArray, List.set_cons_zero, List.set_cons_succ]
  refine reg_call 12 39 23 #[.agg (arr .u8 16 (Aes.xor b c)), .agg (arr .u8 16 c)] (by kernel_rfl) (by kernel_rfl) ?_
  refine (aesxor_any _ _ _ HX hc8).mono ?_
  rintro e wz ⟨rfl, hbz⟩
  have h0 := below_then h0 hbz
  refine ⟨_, rfl, h0, ?_⟩
  simp only [Act.put, List.setIfInBounds_toArray, List.set_cons_zero, List.set_cons_succ]
  refine reg_take 14 41 (.bool true) (by kernel_rfl) (fun w' _ => (exec_eql16 (Aes.xor (Aes.xor b c) c) (b) (.tmp 39) (.tmp 40) (by kernel_rfl) (by kernel_rfl) (by kernel_rfl)).trans (by rw [T2])) h0 ?_
  simp only [Act.put, List.setIfInBounds_toArray, List.set_cons_zero, List.set_cons_succ]
  refine reg_take 15 42 (.bool true) (by kernel_rfl) (fun _ _ => by kernel_rfl) h0 ?_
  simp only [Act.put, List.setIfInBounds_toArray, List.set_cons_zero, List.set_cons_succ]
  refine reg_take 16 6 (.bool true) (by kernel_rfl) (fun _ _ => by kernel_rfl) h0 ?_
  simp only [Act.put, List.setIfInBounds_toArray, List.set_cons_zero, List.set_cons_succ]
  refine reg_done (by kernel_rfl) (HF.out _ _ ?_)
  clear HF
  go_wp2_with fail
  go_ret
  subst hn0
  exact ⟨rfl, KC.out.2.2.2.trans (h0.mono KC.out.2.2.2.size)⟩

theorem aesApart_walk (f : Nat → Int) (wf : ∀ j, j < 16 → (Lit.int .u8 (f j)).wf = true) (g : Nat → Int) (wg : ∀ j, j < 16 → (Lit.int .u8 (g j)).wf = true) (n : Int) (wn : (Lit.int .u8 n).wf = true) (w : World) :
    Calls Try.prog 7 #[.agg ((List.range 16).map fun i => Value.int .u8 (f i)).toArray, .agg ((List.range 16).map fun i => Value.int .u8 (g i)).toArray, .int .u8 n] w (RetBool true w) := by
  obtain ⟨key, hk, e1⟩ := bytes_arg f wf
  obtain ⟨b, hb, e2⟩ := bytes_arg g wg
  rw [e1, e2]
  have hn := u8_range wn
  obtain ⟨m, rfl⟩ := Int.eq_ofNat_of_zero_le hn.1
  exact aesApart_core key b hk hb m (by omega) w

/-! ### THE ROW's STEP -/
namespace aesApartF
theorem own : ownKnob Try.prog.godebug = none := by kernel_rfl
theorem laidOut : laidOutB Try.prog = true := by kernel_rfl
set_option maxRecDepth 100000 in
theorem lifted (os : Os) (started : os.Started) (H : Type) (enc : TypeId × Value → H) :
    ReturnsInHanded {} Try.checked os 7 .any (Rows.aesApartSpec.pre6 enc Try.prog Try.f7 Rows.aesApartRow.domain false) (Rows.aesApartSpec.post enc Try.prog Try.f7 false true false false) := by
  refine returnsInHanded_of_change (C := Try.checked) own started (by kernel_rfl) Try.func7
    (ChangeSpec.witness6 (enc := enc) (C := Try.checked) false ⟨#[], #[.agg #[.int .u8 0, .int .u8 0, .int .u8 0, .int .u8 0, .int .u8 0, .int .u8 0, .int .u8 0, .int .u8 0, .int .u8 0, .int .u8 0, .int .u8 0, .int .u8 0, .int .u8 0, .int .u8 0, .int .u8 0, .int .u8 0], .agg #[.int .u8 0, .int .u8 0, .int .u8 0, .int .u8 0, .int .u8 0, .int .u8 0, .int .u8 0, .int .u8 0, .int .u8 0, .int .u8 0, .int .u8 0, .int .u8 0, .int .u8 0, .int .u8 0, .int .u8 0, .int .u8 0], .int .u8 0], []⟩ 8 (by kernel_rfl) (by kernel_rfl) (by kernel_rfl) (by kernel_rfl)) ?_
  intro W base args ds gs before hval0 hW _ _
  have hval : ∀ (j : Nat) t v, Try.f7.params[j]? = some t → args[j]? = some v → Value.okWide Try.prog W .any base t v := hval0
  have hW' := hW
  obtain ⟨p, q, hA0, hV, rfl, _, _⟩ := hW
  have hA : DataW.TrodAll enc Try.prog W 0 (fun _ => true) true Try.f7.params.toList args.toList ds p := hA0
  rw [Try.params7] at hA hval
  obtain ⟨v0, vs0, d0, ds0, p0, q0, hargs, rfl, rfl, h0, r0⟩ := trodAll_cons hA
  obtain ⟨v1, vs1, d1, ds1, p1, q1, rfl, rfl, rfl, h1, r1⟩ := trodAll_cons r0
  obtain ⟨v2, vs2, d2, ds2, p2, q2, rfl, rfl, rfl, h2, r2⟩ := trodAll_cons r1
  obtain ⟨rfl, rfl, rfl⟩ := trodAll_nil r2
  obtain rfl : args = #[v0, v1, v2] := by cases args; simp_all
  obtain ⟨rfl, rfl⟩ := trodVars_none hV
  have k0 := h0
  have lt0 : ∀ x ∈ p0, x.block < W.heap.size := by obtain ⟨m, hm⟩ := k0; exact DataW.trod_lt m _ _ _ hm
  obtain ⟨a0, rfl, w0⟩ := open_int_array Try.underlying22 Try.underlying5 (by kernel_rfl) (by kernel_rfl) (hval 0 22 v0 rfl rfl) h0
  have k1 := h1
  have lt1 : ∀ x ∈ p1, x.block < W.heap.size := by obtain ⟨m, hm⟩ := k1; exact DataW.trod_lt m _ _ _ hm
  obtain ⟨a1, rfl, w1⟩ := open_int_array Try.underlying22 Try.underlying5 (by kernel_rfl) (by kernel_rfl) (hval 1 22 v1 rfl rfl) h1
  have k2 := h2
  have lt2 : ∀ x ∈ p2, x.block < W.heap.size := by obtain ⟨m, hm⟩ := k2; exact DataW.trod_lt m _ _ _ hm
  obtain ⟨a2, rfl, _, _, w2⟩ := open_int Try.underlying5 (hval 2 5 v2 rfl rfl) h2
  refine (aesApart_walk a0 w0 a1 w1 a2 w2 W).mono fun e W' ⟨he, bel⟩ => ?_
  subst he
  exact ⟨_, rfl, _, _, _, [], _, [], hW', trodAll_mk1 (shut_bool Try.underlying4 _), (trodAll_cons_mk (Below.trod laidOut (by kernel_rfl) (of_decide_eq_true (by kernel_rfl)) k0 bel lt0) (trodAll_cons_mk (Below.trod laidOut (by kernel_rfl) (of_decide_eq_true (by kernel_rfl)) k1 bel lt1) (trodAll_cons_mk (Below.trod laidOut (by kernel_rfl) (of_decide_eq_true (by kernel_rfl)) k2 bel lt2) trodAll_mk0))), rfl, bel.frame _, fun h => by cases h⟩
theorem over : Rows.aesApartRow.holds Try.pinned (OpenSpec.ofChange Rows.aesApartSpec) :=
  OpenClaim.holds_of_wide 7 Try.f7 rfl rfl rfl rfl rfl rfl rfl ⟨rfl, rfl, rfl, rfl, rfl⟩ rfl rfl rfl rfl rfl (by kernel_rfl) Try.func7 (by kernel_rfl)
    (of_decide_eq_true (by kernel_rfl)) (by unfold Func.isWrapper; first | (rw [if_pos (by decide +kernel)]; kernel_rfl) | (rw [if_neg (by decide +kernel)]; exact ⟨rfl, rfl⟩))
    (fun os started H enc _ => lifted os started H enc)
end aesApartF
/-- The statement. -/
theorem aesApart_holds : Rows.AesApartSaid := aesApartF.over
#print axioms aesApart_holds
end Go.Proofs.Ytibgmoapkionjaa
