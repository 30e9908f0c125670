/- Every number and string that fits is written as in the reference implementation, and read again; others are refused: for every two numbers and every bytes the law returns true. No condition. -/
import Derived.Test.YthfbcpbjnfdnkaaWireKit
namespace Go.Proofs.Ythfbcpbjnfdnkaa
open Go.ChangeShapes Go.WideShapes Go.ChangeAt Go.RowKit Go.Deep

set_option maxRecDepth 100000 in
set_option maxHeartbeats 2000000 in
theorem wirePuts_long (k : Int) (x : Nat) (v : Value) (l : List Nat) (w : World) (h : Rs w v l) (hl : 1000 < l.length) :
    Calls Try.prog 3 #[.int .i64 k, .int .u64 x, v] w (RetBool true w) := by
  obtain ⟨a, cap, rfl⟩ := h.form
  clear h
  go_enter Try.func3, Try.ntmps3
  go_wp2_with fail
  refine (awake_any _).mono ?_
  rintro e w1 ⟨rfl, hb1⟩
  have B1 := Lib.hid hb1; clear hb1
  go_wp2_with fail
  refine (awake_any _).mono ?_
  rintro e w2 ⟨rfl, hb2⟩
  have B2 := Lib.hid (B1.out.trans (hb2.mono B1.out.size)); clear hb2 B1
  go_wp2_with fail
  go_ret
  exact ⟨rfl, B2.out⟩

set_option maxRecDepth 100000 in
set_option maxHeartbeats 2000000 in
theorem wirePuts_short (k : Int) (x : Nat) (v : Value) (l : List Nat) (w : World) (hk : -9223372036854775808 ≤ k ∧ k ≤ 9223372036854775807) (hx : x < 18446744073709551616) (h : Rs w v l) (hl : l.length ≤ 1000) :
    Calls Try.prog 3 #[.int .i64 k, .int .u64 x, v] w (RetBool true w) := by
  have R0 := Lib.hid h
  obtain ⟨a, cap, rfl⟩ := h.form
  clear h
  have HX := Lib.hid hx; clear hx
  have HK := Lib.hid hk; clear hk
  go_enter Try.func3, Try.ntmps3
  go_wp2_with fail
  refine (awake_any _).mono ?_
  rintro e w1 ⟨rfl, hb1⟩
  have S1 := hb1.size
  have R1 := Lib.hid (R0.out.below hb1)
  have B1 := Lib.hid hb1; clear hb1
  go_wp2_with fail
  refine (wireNumber_any k x _ HX.out).mono ?_
  rintro e w2 ⟨v2, rfl, ho2, hb2⟩
  obtain ⟨o1, ho1⟩ : ∃ o1, o1 = Wir.putNumber k x := ⟨_, rfl⟩
  rw [← ho1] at ho2 ⊢
  have E1 := Lib.hid ho1; clear ho1
  have S2 := hb2.size
  have R2 := Lib.hid (R1.out.below hb2)
  have B2 := Lib.hid (B1.out.trans (hb2.mono S1))
  have M2 := Lib.hid ho2.bs
  clear hb2 ho2 B1 R1
  go_wp2_with fail
  refine ((string_put k _ l _ R2.out HK.out (by omega)).mono fun _ _ => put2).mono ?_
  rintro e w3 ⟨v3, rfl, ho3, hb3⟩
  obtain ⟨o2, ho2⟩ : ∃ o2, o2 = Wir.putString k l := ⟨_, rfl⟩
  rw [← ho2] at ho3 ⊢
  have E2 := Lib.hid ho2; clear ho2
  have S3 := hb3.size
  have R3 := Lib.hid (R2.out.below hb3)
  have B3 := Lib.hid (B2.out.trans (hb3.mono (by omega)))
  have M3 := Lib.hid (M2.out.below hb3)
  have T3 := Lib.hid ho3.bs
  clear hb3 ho3 B2 R2 M2
  go_wp2_with fail
  refine ((refPut_any k x _ HX.out).mono fun _ _ => put2).mono ?_
  rintro e w4 ⟨v4, rfl, ho4, hb4⟩
  rw [← E1.out] at ho4 ⊢
  have S4 := hb4.size
  have R4 := Lib.hid (R3.out.below hb4)
  have B4 := Lib.hid (B3.out.trans (hb4.mono (by omega)))
  have M4 := Lib.hid (M3.out.below hb4)
  have T4 := Lib.hid (T3.out.below hb4)
  have V4 := Lib.hid ho4.bs
  clear hb4 ho4 B3 R3 M3 T3
  go_wp2_with fail
  refine ((refPutString_any k _ l _ R4.out (by omega)).mono fun _ _ => put2).mono ?_
  rintro e w5 ⟨v5, rfl, ho5, hb5⟩
  rw [← E2.out] at ho5 ⊢
  have S5 := hb5.size
  have R5 := Lib.hid (R4.out.below hb5)
  have B5 := Lib.hid (B4.out.trans (hb5.mono (by omega)))
  have M5 := Lib.hid (M4.out.below hb5)
  have T5 := Lib.hid (T4.out.below hb5)
  have V5 := Lib.hid (V4.out.below hb5)
  have W5 := Lib.hid ho5.bs
  clear hb5 ho5 B4 R4 M4 T4 V4
  obtain ⟨c1, hc1⟩ : ∃ c, c = o1.isSome := ⟨_, rfl⟩
  obtain ⟨c2, hc2⟩ : ∃ c, c = o2.isSome := ⟨_, rfl⟩
  rw [← hc1, ← hc2]
  have C1 := Lib.hid hc1; clear hc1
  have C2 := Lib.hid hc2; clear hc2
  obtain ⟨ma, mc, hm⟩ := M5.out.form
  obtain ⟨ta, tc, ht⟩ := T5.out.form
  subst hm
  subst ht
  go_wp2_with fail
  refine (same_yes _ _ _ _ M5.out.rs V5.out.rs).mono ?_
  rintro e w6 ⟨rfl, hb6⟩
  have S6 := hb6.size
  have R6 := Lib.hid (R5.out.below hb6)
  have B6 := Lib.hid (B5.out.trans (hb6.mono (by omega)))
  have M6 := Lib.hid (M5.out.below hb6)
  have T6 := Lib.hid (T5.out.below hb6)
  have W6 := Lib.hid (W5.out.below hb6)
  clear hb6 B5 R5 M5 T5 V5 W5
  go_wp2_with fail
  refine (same_yes _ _ _ _ T6.out.rs W6.out.rs).mono ?_
  rintro e w7 ⟨rfl, hb7⟩
  have S7 := hb7.size
  have R7 := Lib.hid (R6.out.below hb7)
  have B7 := Lib.hid (B6.out.trans (hb7.mono (by omega)))
  have M7 := Lib.hid (M6.out.below hb7)
  have T7 := Lib.hid (T6.out.below hb7)
  clear hb7 B6 R6 M6 T6 W6
  have L1 : (o1.getD []).length ≤ 8 := by
    cases ho : o1 with
    | none => simp
    | some l1 => exact Wir.putNumber_len (E1.out.symm.trans ho)
  have L2 : (o2.getD []).length ≤ l.length + 8 := by
    cases ho : o2 with
    | none => simp
    | some l1 => exact Wir.putString_len (E2.out.symm.trans ho)
  go_wp2_with fail
  have hA : Below w7.heap.size w7 (w7.alloc (.cells #[.slice ma (o1.getD []).length mc, .slice ta (o2.getD []).length tc] 23)) := (Below.refl _ _).alloc (Nat.le_refl _) _
  have hj : Wir.join [o1.getD [], o2.getD []] = o1.getD [] ++ o2.getD [] := by simp [Wir.join]
  refine (join_any _ _ _ (bss_two M7.out.rs T7.out.rs) (by rw [hj, List.length_append]; omega)).mono ?_
  rintro e w8 ⟨v8, rfl, ho8, hb8⟩
  rw [hj] at ho8
  have hb8' : Below w7.heap.size w7 w8 := hA.trans (hb8.mono (by simp))
  have S8 := hb8'.size
  have R8 := Lib.hid (R7.out.below hb8')
  have B8 := Lib.hid (B7.out.trans (hb8'.mono (by omega)))
  have O8 := Lib.hid ho8.bs
  clear hA hj hb8 hb8' ho8 B7 R7 M7 T7
  go_wp2_with fail
  refine (new_any _ _ _ O8.out.rs (by rw [List.length_append]; omega)).mono ?_
  rintro e w9 ⟨p, rfl, hp, hrd, hb9⟩
  have S9 := hb9.size
  have R9 := Lib.hid (R8.out.below hb9)
  have B9 := Lib.hid (B8.out.trans (hb9.mono (by omega)))
  have RD := Lib.hid hrd
  have hpl := hrd.lt
  clear hb9 hrd B8 R8 O8
  cases c1 with
  | false =>
    go_wp2_with fail
    go_ret
    exact ⟨rfl, B9.out⟩
  | true =>
  cases c2 with
  | false =>
    go_wp2_with fail
    go_ret
    exact ⟨rfl, B9.out⟩
  | true =>
  obtain ⟨l1, hl1⟩ := Option.isSome_iff_exists.1 C1.out.symm
  obtain ⟨l2, hl2⟩ := Option.isSome_iff_exists.1 C2.out.symm
  have P1 := Lib.hid (E1.out.symm.trans hl1)
  have P2 := Lib.hid (E2.out.symm.trans hl2)
  have hrd := RD.out
  rw [hl1, hl2] at hrd
  have RD9 := Lib.hid hrd
  clear hrd hl1 hl2
  have N1 := Lib.hid (Wir.number_put P1.out l2)
  have N2 := Lib.hid (show Wir.string ⟨l2, false⟩ k = (⟨[], false⟩, l) by have := Wir.string_put P2.out []; rwa [List.append_nil] at this)
  have LL2 := Wir.putString_len P2.out
  go_wp2_with fail
  refine (rNumber_any p _ k _ RD9.out).mono ?_
  rintro e w10 ⟨he, hrd, hg⟩
  simp only [Option.getD_some] at he hrd
  rw [N1.out] at he hrd
  subst he
  have hb10 : Below w8.heap.size w9 w10 := below_reader hg (by omega) (by omega)
  have S10 := hb10.size
  have B10 := Lib.hid (B9.out.trans (hb10.mono (by omega)))
  have R10 := Lib.hid (show Rs w10 (.slice a l.length cap) l from R0.out.below (B10.out))
  have RD10 := Lib.hid hrd
  clear hb10 hg hrd B9 R9
  have hxx : ((some x).getD 0 : Nat) = x := rfl
  rw [hxx]
  clear hxx
  go_wp2_with fail
  refine (rString_any p _ k _ RD10.out (by show l2.length ≤ _; omega)).mono ?_
  rintro e w11 ⟨v11, rfl, ho11, hrd, hg⟩
  rw [N2.out] at ho11 hrd
  have hb11 : Below w8.heap.size w10 w11 := below_reader hg (by omega) (by omega)
  have B11 := Lib.hid (B10.out.trans (hb11.mono (by omega)))
  have R11 := Lib.hid (show Rs w11 (.slice a l.length cap) l from R0.out.below (B11.out))
  have RD11 := Lib.hid hrd
  have O11 := Lib.hid ho11
  clear hb11 hg hrd B10 R10 ho11
  go_wp2_with fail
  refine (same_yes _ _ _ _ O11.out.bs.rs R11.out).mono ?_
  rintro e w12 ⟨rfl, hb12⟩
  have B12 := Lib.hid (B11.out.trans (hb12.mono B11.out.size))
  have RD12 := Lib.hid (RD11.out.below hb12)
  clear hb12
  go_wp2_with fail
  refine (done_any p _ _ RD12.out).mono ?_
  rintro e w' ⟨rfl, rfl⟩
  go_wp2_with fail
  go_ret
  exact ⟨rfl, B12.out⟩

theorem wirePuts_walk (w : World) (k : Int) (wk : (Lit.int .i64 k).wf = true) (x : Int) (wx : (Lit.int .u64 x).wf = true) (v : Value) (l : List Nat) (h : Rs w v l) :
    Calls Try.prog 3 #[.int .i64 k, .int .u64 x, v] w fun e w' => e = .returned (.bool true) ∧ Below w.heap.size w w' := by
  have hk := bounds_i64 wk
  have hx := bounds_u64 wx
  obtain ⟨n, rfl⟩ := Int.eq_ofNat_of_zero_le hx.1
  by_cases hl : 1000 < l.length
  · exact wirePuts_long k n v l w h hl
  · exact wirePuts_short k n v l w ⟨by omega, by omega⟩ (by omega) h (by omega)

/-! ### THE ROW's STEP -/
namespace wirePutsF
theorem own : ownKnob Try.prog.godebug = none := by kernel_rfl
theorem laidOut : laidOutB Try.prog = true := by kernel_rfl
set_option maxRecDepth 100000 in
theorem lifted (os : Os) (started : os.Started) (H : Type) (enc : TypeId × Value → H) :
    ReturnsInHanded {} Try.checked os 3 .any (Rows.wirePutsSpec.pre6 enc Try.prog Try.f3 Rows.wirePutsRow.domain false) (Rows.wirePutsSpec.post enc Try.prog Try.f3 false true false false) := by
  refine returnsInHanded_of_change (C := Try.checked) own started (by kernel_rfl) Try.func3
    (ChangeSpec.witness6 (enc := enc) (C := Try.checked) false ⟨#[], #[.int .i64 0, .int .u64 0, .slice none 0 0], []⟩ 8 (by kernel_rfl) (by kernel_rfl) (by kernel_rfl) (by kernel_rfl)) ?_
  intro W base args ds gs before hval0 hW _ _
  have hval : ∀ (j : Nat) t v, Try.f3.params[j]? = some t → args[j]? = some v → Value.okWide Try.prog W .any base t v := hval0
  have hW' := hW
  obtain ⟨p, q, hA0, hV, rfl, _, _⟩ := hW
  have hA : DataW.TrodAll enc Try.prog W 0 (fun _ => true) true Try.f3.params.toList args.toList ds p := hA0
  rw [Try.params3] at hA hval
  obtain ⟨v0, vs0, d0, ds0, p0, q0, hargs, rfl, rfl, h0, r0⟩ := trodAll_cons hA
  obtain ⟨v1, vs1, d1, ds1, p1, q1, rfl, rfl, rfl, h1, r1⟩ := trodAll_cons r0
  obtain ⟨v2, vs2, d2, ds2, p2, q2, rfl, rfl, rfl, h2, r2⟩ := trodAll_cons r1
  obtain ⟨rfl, rfl, rfl⟩ := trodAll_nil r2
  obtain rfl : args = #[v0, v1, v2] := by cases args; simp_all
  obtain ⟨rfl, rfl⟩ := trodVars_none hV
  have k0 := h0
  have lt0 : ∀ x ∈ p0, x.block < W.heap.size := by obtain ⟨m, hm⟩ := k0; exact DataW.trod_lt m _ _ _ hm
  obtain ⟨a0, rfl, _, _, w0⟩ := open_int Try.underlying3 (hval 0 3 v0 rfl rfl) h0
  have k1 := h1
  have lt1 : ∀ x ∈ p1, x.block < W.heap.size := by obtain ⟨m, hm⟩ := k1; exact DataW.trod_lt m _ _ _ hm
  obtain ⟨a1, rfl, _, _, w1⟩ := open_int Try.underlying22 (hval 1 22 v1 rfl rfl) h1
  have k2 := h2
  have lt2 : ∀ x ∈ p2, x.block < W.heap.size := by obtain ⟨m, hm⟩ := k2; exact DataW.trod_lt m _ _ _ hm
  obtain ⟨a2, len2, cap2, rfl⟩ := okWide_slice Try.underlying23 (hval 2 23 v2 rfl rfl)
  obtain ⟨z2, w2⟩ := open_bytes Try.underlying23 Try.underlying5 (by kernel_rfl) h2
  refine (wirePuts_walk W a0 w0 a1 w1 _ z2 w2).mono fun e W' ⟨he, bel⟩ => ?_
  subst he
  exact ⟨_, rfl, _, _, _, [], _, [], hW', trodAll_mk1 (shut_bool Try.underlying4 _), (trodAll_cons_mk (Below.trod laidOut (by kernel_rfl) (of_decide_eq_true (by kernel_rfl)) k0 bel lt0) (trodAll_cons_mk (Below.trod laidOut (by kernel_rfl) (of_decide_eq_true (by kernel_rfl)) k1 bel lt1) (trodAll_cons_mk (Below.trod laidOut (by kernel_rfl) (of_decide_eq_true (by kernel_rfl)) k2 bel lt2) trodAll_mk0))), rfl, bel.frame _, fun h => by cases h⟩
theorem over : Rows.wirePutsRow.holds Try.pinned (OpenSpec.ofChange Rows.wirePutsSpec) :=
  OpenClaim.holds_of_wide 3 Try.f3 rfl rfl rfl rfl rfl rfl rfl ⟨rfl, rfl, rfl, rfl, rfl⟩ rfl rfl rfl rfl rfl (by kernel_rfl) Try.func3 (by kernel_rfl)
    (of_decide_eq_true (by kernel_rfl)) (by unfold Func.isWrapper; first | (rw [if_pos (by decide +kernel)]; kernel_rfl) | (rw [if_neg (by decide +kernel)]; exact ⟨rfl, rfl⟩))
    (fun os started H enc _ => lifted os started H enc)
end wirePutsF
/-- The statement. -/
theorem wirePuts_holds : Rows.WirePutsSaid := wirePutsF.over
#print axioms wirePuts_holds
end Go.Proofs.Ythfbcpbjnfdnkaa
