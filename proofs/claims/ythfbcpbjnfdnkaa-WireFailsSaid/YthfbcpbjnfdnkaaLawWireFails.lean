/- After a read of more bytes than there are, nothing is left, and every read fails; a nil reader is bad: for every bytes, number and reads the law returns true. No condition. -/
import Derived.Test.YthfbcpbjnfdnkaaWireKitB
namespace Wir
theorem take_past {l : List Nat} {n : Nat} (h : l.length < n) : take ⟨l, false⟩ (n : Int) = (failed, []) := by
  unfold take next
  rw [if_neg (by omega)]
  simp [h]
theorem take_bad (n : Int) : take failed n = (failed, []) := by
  unfold take next
  split
  · rfl
  · simp [failed]
theorem number_bad (k : Int) : number failed k = (failed, none) := by
  unfold number next
  split
  · rfl
  · simp [failed]
theorem string_bad (k : Int) : string failed k = (failed, []) := by
  unfold string
  rw [number_bad]
end Wir
namespace Go.Proofs.Ythfbcpbjnfdnkaa
open Go.ChangeShapes Go.WideShapes Go.ChangeAt Go.RowKit Go.Deep

set_option maxRecDepth 100000 in
set_option maxHeartbeats 2000000 in
theorem wireFails_out (w : World) (v : Value) (l : List Nat) (h : Rs w v l) (n : Nat) (u : Value) (ks : List (Int × Int)) (hk : Ops w u ks) (hc : 300 < l.length ∨ ¬ 300 < l.length ∧ 50 < ks.length) :
    Calls Try.prog 6 #[v, .int .u8 n, u] w (RetBool true w) := by
  obtain ⟨a, cap, rfl⟩ := h.form
  obtain ⟨ka, kcap, rfl⟩ := hk.form
  clear h hk
  rcases hc with c1 | ⟨c1, c2⟩
  all_goals
    go_enter Try.func6, Try.ntmps6
    go_wp2_with fail
    refine (awake_any _).mono ?_
    rintro e w1 ⟨rfl, hb1⟩
    have B1 := Lib.hid hb1; clear hb1
    go_wp2_with fail
    refine (awake_any _).mono ?_
    rintro e w2 ⟨rfl, hb2⟩
    have B2 := Lib.hid (B1.out.trans (hb2.mono B1.out.size)); clear hb2 B1
    go_wp2_with fail
    go_ret
    exact ⟨rfl, B2.out⟩

set_option maxRecDepth 100000 in
set_option maxHeartbeats 4000000 in
theorem wireFails_in (w : World) (v : Value) (l : List Nat) (h : Rs w v l) (n : Nat) (u : Value) (ks : List (Int × Int)) (hk : Ops w u ks) (hl : l.length ≤ 300) (hks : ks.length ≤ 50) (hn : n < 256) :
    Calls Try.prog 6 #[v, .int .u8 n, u] w (RetBool true w) := by
  have R0 := Lib.hid h
  have K0 := Lib.hid hk
  obtain ⟨a, cap, rfl⟩ := h.form
  obtain ⟨ka, kcap, rfl⟩ := hk.form
  clear h hk
  go_enter Try.func6, Try.ntmps6
  go_wp2_with fail
  refine (awake_any _).mono ?_
  rintro e w1 ⟨rfl, hb1⟩
  have S1 := hb1.size
  have R1 := Lib.hid (R0.out.below hb1)
  have B1 := Lib.hid hb1; clear hb1
  go_wp2_with fail
  refine (new_any _ _ _ R1.out (by omega)).mono ?_
  rintro e w2 ⟨p, rfl, hp, hrd, hb2⟩
  have S2 := hb2.size
  have B2 := Lib.hid (B1.out.trans (hb2.mono S1))
  have P2 := Lib.hid hrd
  clear hb2 hrd R1 B1 R0
  go_wp2_with fail
  have ea : ((l.length : Int) + 1 + (n : Int)) = ((l.length + 1 + n : Nat) : Int) := by omega
  rw [ea]
  clear ea
  refine (rTake_any p _ _ _ P2.out (by omega) (by show l.length ≤ _; omega)).mono ?_
  rintro e w3 ⟨v3, rfl, ho3, hrd, hg⟩
  rw [Wir.take_past (by omega)] at ho3 hrd
  have S3 := hg.size
  have B3 := Lib.hid (B2.out.trans (below_reader hg (B := w.heap.size) (by omega) (by omega)))
  have P3 := Lib.hid hrd
  obtain ⟨a3, c3, rfl⟩ := ho3.form
  clear hg hrd ho3 B2 P2
  go_wp2_with fail
  refine (bad_nil _).mono ?_
  rintro e w' ⟨rfl, rfl⟩
  go_wp2_with fail
  refine (done_nil _).mono ?_
  rintro e w' ⟨rfl, rfl⟩
  go_wp2_with fail
  refine (left_nil _).mono ?_
  rintro e w' ⟨rfl, rfl⟩
  go_wp2_with fail
  refine (rNumber_nil _ _).mono ?_
  rintro e w' ⟨rfl, rfl⟩
  go_wp2_with fail
  refine (rTake_nil _ _).mono ?_
  rintro e w' ⟨rfl, rfl⟩
  go_wp2_with fail
  refine (rString_nil _ _).mono ?_
  rintro e w' ⟨rfl, rfl⟩
  go_wp2_with fail
  obtain ⟨N, hN⟩ : ∃ N, N = ks.length := ⟨_, rfl⟩
  rw [← hN] at hks ⊢
  have HN := Lib.hid hN; clear hN
  go_loopw [9] (fun i wr => ∃ j : Nat, j ≤ N ∧ i = .int .i64 j ∧ Rd wr p Wir.failed ∧ Below w.heap.size w wr ∧ p < wr.heap.size) (fun i _ => N - (intOf i).toNat)
  case atStart => exact ⟨0, by omega, rfl, P3.out, B3.out, P3.out.lt⟩
  case round =>
    clear P3 B3 S2 S3
    obtain ⟨j, hj, rfl, hrd, hbel, hpl⟩ := hrel
    have P4 := Lib.hid hrd
    have B4 := Lib.hid hbel
    have hsz := hbel.size
    by_cases hlt : j < N
    · obtain ⟨b, off, rfl, k1, k2⟩ := (K0.out.below hbel).at (i := j) (by rw [← HN.out]; exact hlt)
      obtain ⟨-, bd1, bd2⟩ := K0.out.bound j
      have hob : b < w.heap.size := by
        obtain ⟨b', off', e', c1, _⟩ := K0.out.at (i := j) (by rw [← HN.out]; exact hlt)
        simp at e'
        rw [e'.1]
        exact World.block_lt_of_cell? w _ c1
      generalize (ks.getD j (0, 0)).2 = kn at k2 bd1 bd2
      clear hrd hbel k1
      go_wp2_with fail
      refine (left_any p _ _ P4.out).mono ?_
      rintro e w' ⟨rfl, rfl⟩
      have hz : (Wir.failed.l.length : Int) = 0 := rfl
      rw [hz]
      clear hz
      go_wp2_with fail
      refine (bad_any p _ _ P4.out).mono ?_
      rintro e w' ⟨rfl, rfl⟩
      have hz : Wir.failed.bad = true := rfl
      rw [hz]
      clear hz
      go_wp2_with fail
      refine (done_any p _ _ P4.out).mono ?_
      rintro e w' ⟨rfl, rfl⟩
      have hz : (!Wir.failed.bad && Wir.failed.l.length == 0) = false := rfl
      rw [hz]
      clear hz
      go_wp2_with fail
      refine (rNumber_any p _ _ _ P4.out).mono ?_
      rintro e w5 ⟨he, hrd, hg⟩
      rw [Wir.number_bad] at he hrd
      subst he
      have S5 := hg.size
      have hb5 : Below w.heap.size wr w5 := below_reader hg (by omega) (by omega)
      have B5 := Lib.hid (B4.out.trans hb5)
      have k3 := (hb5.cell (p := ⟨b, off + j * 2 + 1, none⟩) hob).trans k2
      have P5 := Lib.hid hrd
      have hz : (((none : Option Nat).getD 0 : Nat) : Int) = 0 := rfl
      rw [hz]
      clear hz hg hrd hb5 k2 P4 B4
      go_wp2_with fail
      refine (rTake_any p _ _ _ P5.out (by omega) (by simp [Wir.failed])).mono ?_
      rintro e w6 ⟨v6, rfl, ho6, hrd, hg⟩
      rw [Wir.take_bad] at ho6 hrd
      have S6 := hg.size
      have hb6 : Below w.heap.size w5 w6 := below_reader hg (by omega) (by omega)
      have B6 := Lib.hid (B5.out.trans hb6)
      have k4 := (hb6.cell (p := ⟨b, off + j * 2 + 1, none⟩) hob).trans k3
      have P6 := Lib.hid hrd
      obtain ⟨a6, c6, rfl⟩ := ho6.form
      clear hg hrd hb6 k3 P5 B5 ho6
      go_wp2_with fail
      refine (rString_any p _ _ _ P6.out (by simp [Wir.failed])).mono ?_
      rintro e w7 ⟨v7, rfl, ho7, hrd, hg⟩
      rw [Wir.string_bad] at ho7 hrd
      have S7 := hg.size
      have hb7 : Below w.heap.size w6 w7 := below_reader hg (by omega) (by omega)
      have B7 := Lib.hid (B6.out.trans hb7)
      have P7 := Lib.hid hrd
      obtain ⟨a7, c7, rfl⟩ := ho7.form
      clear hg hrd hb7 k4 P6 B6 ho7
      go_wp2_with fail
      go_roundw
      case rel => exact ⟨j + 1, by omega, by go_num, P7.out, B7.out, P7.out.lt⟩
      case measure => simp [intOf]; omega
    · obtain rfl : j = N := by omega
      clear hrd hbel
      go_wp2_with fail
      refine (bad_any p _ _ P4.out).mono ?_
      rintro e w' ⟨rfl, rfl⟩
      go_wp2_with fail
      go_ret
      exact ⟨rfl, B4.out⟩

theorem wireFails_walk (w : World) (v : Value) (l : List Nat) (h : Rs w v l) (x : Int) (wx : (Lit.int .u8 x).wf = true) (u : Value) (ks : List (Int × Int)) (hk : Ops w u ks) :
    Calls Try.prog 6 #[v, .int .u8 x, u] w fun e w' => e = .returned (.bool true) ∧ Below w.heap.size w w' := by
  have hx := bounds_u8 wx
  obtain ⟨n, rfl⟩ := Int.eq_ofNat_of_zero_le hx.1
  by_cases hc : 300 < l.length ∨ ¬ 300 < l.length ∧ 50 < ks.length
  · exact wireFails_out w v l h n u ks hk hc
  · exact wireFails_in w v l h n u ks hk (by omega) (by omega) (by omega)

/-! ### THE ROW's STEP -/
namespace wireFailsF
theorem own : ownKnob Try.prog.godebug = none := by kernel_rfl
theorem laidOut : laidOutB Try.prog = true := by kernel_rfl
set_option maxRecDepth 100000 in
theorem lifted (os : Os) (started : os.Started) (H : Type) (enc : TypeId × Value → H) :
    ReturnsInHanded {} Try.checked os 6 .any (Rows.wireFailsSpec.pre6 enc Try.prog Try.f6 Rows.wireFailsRow.domain false) (Rows.wireFailsSpec.post enc Try.prog Try.f6 false true false false) := by
  refine returnsInHanded_of_change (C := Try.checked) own started (by kernel_rfl) Try.func6
    (ChangeSpec.witness6 (enc := enc) (C := Try.checked) false ⟨#[], #[.slice none 0 0, .int .u8 0, .slice none 0 0], []⟩ 8 (by kernel_rfl) (by kernel_rfl) (by kernel_rfl) (by kernel_rfl)) ?_
  intro W base args ds gs before hval0 hW _ _
  have hval : ∀ (j : Nat) t v, Try.f6.params[j]? = some t → args[j]? = some v → Value.okWide Try.prog W .any base t v := hval0
  have hW' := hW
  obtain ⟨p, q, hA0, hV, rfl, _, _⟩ := hW
  have hA : DataW.TrodAll enc Try.prog W 0 (fun _ => true) true Try.f6.params.toList args.toList ds p := hA0
  rw [Try.params6] at hA hval
  obtain ⟨v0, vs0, d0, ds0, p0, q0, hargs, rfl, rfl, h0, r0⟩ := trodAll_cons hA
  obtain ⟨v1, vs1, d1, ds1, p1, q1, rfl, rfl, rfl, h1, r1⟩ := trodAll_cons r0
  obtain ⟨v2, vs2, d2, ds2, p2, q2, rfl, rfl, rfl, h2, r2⟩ := trodAll_cons r1
  obtain ⟨rfl, rfl, rfl⟩ := trodAll_nil r2
  obtain rfl : args = #[v0, v1, v2] := by cases args; simp_all
  obtain ⟨rfl, rfl⟩ := trodVars_none hV
  have k0 := h0
  have lt0 : ∀ x ∈ p0, x.block < W.heap.size := by obtain ⟨m, hm⟩ := k0; exact DataW.trod_lt m _ _ _ hm
  obtain ⟨a0, len0, cap0, rfl⟩ := okWide_slice Try.underlying23 (hval 0 23 v0 rfl rfl)
  obtain ⟨z0, w0⟩ := open_bytes Try.underlying23 Try.underlying5 (by kernel_rfl) h0
  have k1 := h1
  have lt1 : ∀ x ∈ p1, x.block < W.heap.size := by obtain ⟨m, hm⟩ := k1; exact DataW.trod_lt m _ _ _ hm
  obtain ⟨a1, rfl, _, _, w1⟩ := open_int Try.underlying5 (hval 1 5 v1 rfl rfl) h1
  have k2 := h2
  have lt2 : ∀ x ∈ p2, x.block < W.heap.size := by obtain ⟨m, hm⟩ := k2; exact DataW.trod_lt m _ _ _ hm
  obtain ⟨a2, len2, cap2, rfl⟩ := okWide_slice Try.underlying38 (hval 2 38 v2 rfl rfl)
  obtain ⟨z2, w2⟩ := open_ops h2
  refine (wireFails_walk W _ z0 w0 a1 w1 _ z2 w2).mono fun e W' ⟨he, bel⟩ => ?_
  subst he
  exact ⟨_, rfl, _, _, _, [], _, [], hW', trodAll_mk1 (shut_bool Try.underlying4 _), (trodAll_cons_mk (Below.trod laidOut (by kernel_rfl) (of_decide_eq_true (by kernel_rfl)) k0 bel lt0) (trodAll_cons_mk (Below.trod laidOut (by kernel_rfl) (of_decide_eq_true (by kernel_rfl)) k1 bel lt1) (trodAll_cons_mk (Below.trod laidOut (by kernel_rfl) (of_decide_eq_true (by kernel_rfl)) k2 bel lt2) trodAll_mk0))), rfl, bel.frame _, fun h => by cases h⟩
theorem over : Rows.wireFailsRow.holds Try.pinned (OpenSpec.ofChange Rows.wireFailsSpec) :=
  OpenClaim.holds_of_wide 6 Try.f6 rfl rfl rfl rfl rfl rfl rfl ⟨rfl, rfl, rfl, rfl, rfl⟩ rfl rfl rfl rfl rfl (by kernel_rfl) Try.func6 (by kernel_rfl)
    (of_decide_eq_true (by kernel_rfl)) (by unfold Func.isWrapper; first | (rw [if_pos (by decide +kernel)]; kernel_rfl) | (rw [if_neg (by decide +kernel)]; exact ⟨rfl, rfl⟩))
    (fun os started H enc _ => lifted os started H enc)
end wireFailsF
/-- The statement. -/
theorem wireFails_holds : Rows.WireFailsSaid := wireFailsF.over
#print axioms wireFails_holds
end Go.Proofs.Ythfbcpbjnfdnkaa
