/- A sum of four products is that of the reference implementation: for every two arrays of four bytes the law returns true. No condition. -/
import Derived.Test.YtmhnmedifpgnoaaFieldAwake
import Derived.Test.YtmhnmedifpgnoaaLawKit
namespace Go.Proofs.Ytmhnmedifpgnoaa
open Go.ChangeShapes Go.WideShapes Go.ChangeAt Go.RowKit Go.Deep

/-- The sum of the reference's products, the first k. -/
def rdotP (a b : Nat → Nat) : Nat → Nat
  | 0 => 0
  | k + 1 => rdotP a b k ^^^ Fld.gm (a k) (b k)
theorem rdotP_lt (a b : Nat → Nat) (ha : ∀ i, a i < 256) (k : Nat) : rdotP a b k < 256 := by
  induction k with
  | zero => exact (by decide : (0 : Nat) < 256)
  | succ k ih => exact Fld.xor_lt _ _ ih (Fld.gm_lt _ _ (ha k))
theorem dotP_eq (a b : Nat → Nat) (ha : ∀ i, a i < 256) (hb : ∀ i, b i < 256) (k : Nat) : dotP a b k = rdotP a b k := by
  induction k with
  | zero => rfl
  | succ k ih => unfold dotP rdotP; rw [ih, Fld.gm_comm _ _ (ha k) (hb k)]
theorem dotP_eq' (a b : Nat → Nat) (k : Nat) : dotP b a k = rdotP a b k := by
  induction k with
  | zero => rfl
  | succ k ih => unfold dotP rdotP; rw [ih]

set_option maxRecDepth 100000 in
set_option maxHeartbeats 400000 in
theorem fieldDots_core (a b : Nat → Nat) (ha : ∀ i, a i < 256) (hb : ∀ i, b i < 256) (w : World) :
    Calls Try.prog 7 #[.agg #[.int .u8 ↑(a 0), .int .u8 ↑(a 1), .int .u8 ↑(a 2), .int .u8 ↑(a 3)], .agg #[.int .u8 ↑(b 0), .int .u8 ↑(b 1), .int .u8 ↑(b 2), .int .u8 ↑(b 3)]] w fun e w' => e = .returned (.bool true) ∧ Below w.heap.size w w' := by
  have HA := Lib.hid ha
  have HBB := Lib.hid hb
  have ED := Lib.hid (dotP_eq a b ha hb 4)
  have ED2 := Lib.hid (dotP_eq' a b 4)
  clear ha hb
  go_enter Try.func7, Try.ntmps7
  go_wp2_with fail
  obtain ⟨W, hW⟩ : ∃ W : World, W = (w.alloc (.cells #[.int .u8 ↑(a 0), .int .u8 ↑(a 1), .int .u8 ↑(a 2), .int .u8 ↑(a 3)] 31)).alloc (.cells #[.int .u8 ↑(b 0), .int .u8 ↑(b 1), .int .u8 ↑(b 2), .int .u8 ↑(b 3)] 31) := ⟨_, rfl⟩
  have hz : W.heap.size = w.heap.size + 2 := by rw [hW]; simp
  have hbl : Below w.heap.size w W := by rw [hW]; exact ((Below.refl _ _).alloc (Nat.le_refl _) _).alloc (by simp) _
  have ra : W.rowIs w.heap.size 31 4 (fun i => .int .u8 ↑(a i)) := by
    rw [hW]
    refine World.rowIs.alloc (World.rowIs_alloc w _ _ _ ?_) _
    intro i hi
    have hi : i < 4 := hi
    obtain rfl | rfl | rfl | rfl : i = 0 ∨ i = 1 ∨ i = 2 ∨ i = 3 := by omega
    all_goals rfl
  have rb : W.rowIs (w.heap.size + 1) 31 4 (fun i => .int .u8 ↑(b i)) := by
    rw [hW]
    have := World.rowIs_alloc (w.alloc (.cells #[.int .u8 ↑(a 0), .int .u8 ↑(a 1), .int .u8 ↑(a 2), .int .u8 ↑(a 3)] 31)) #[.int .u8 ↑(b 0), .int .u8 ↑(b 1), .int .u8 ↑(b 2), .int .u8 ↑(b 3)] 31 (fun i => .int .u8 ↑(b i)) (by
      intro i hi
      have hi : i < 4 := hi
      obtain rfl | rfl | rfl | rfl : i = 0 ∨ i = 1 ∨ i = 2 ∨ i = 3 := by omega
      all_goals rfl)
    simpa using this
  rw [← hW]
  clear hW
  refine (awake_any _).mono ?_
  rintro e w1 ⟨rfl, hb1⟩
  rw [hz] at hb1
  have ra1 := ra.of_block (hb1.block w.heap.size (by omega))
  have rb1 := rb.of_block (hb1.block (w.heap.size + 1) (by omega))
  have bl1 : Below w.heap.size w w1 := hbl.trans (hb1.mono (by omega))
  have hz1 : w.heap.size + 2 ≤ w1.heap.size := by have := hb1.size; omega
  clear hb1 ra rb hbl hz W
  have RA := Lib.hid ra1
  have RB := Lib.hid rb1
  have BL := Lib.hid bl1
  clear ra1 rb1 bl1
  go_wp2_with fail
  go_loopw [5, 6] (fun p i wr => ∃ k n : Nat, k ≤ 4 ∧ i = .int .i64 k ∧ p = .int .u8 ↑(rdotP a b k) ∧ wr = w1.drewN n) (fun _ i _ => 4 - (intOf i).toNat)
  case atStart => exact ⟨0, 0, by omega, rfl, rfl, rfl⟩
  case round =>
    obtain ⟨k, n, hk, rfl, rfl, rfl⟩ := hrel
    obtain ⟨w2, hw2⟩ : ∃ w2 : World, w2 = w1.drewN n := ⟨_, rfl⟩
    rw [← hw2]
    have RA2 : w2.rowIs w.heap.size 31 4 (fun i => .int .u8 ↑(a i)) := by rw [hw2]; exact rowIs_drewN RA.out _
    have RB2 : w2.rowIs (w.heap.size + 1) 31 4 (fun i => .int .u8 ↑(b i)) := by rw [hw2]; exact rowIs_drewN RB.out _
    have BL2 : Below w.heap.size w w2 := by rw [hw2]; exact below_drewN BL.out _
    have hz2 : w.heap.size + 2 ≤ w2.heap.size := by rw [hw2]; exact hz1
    by_cases hlt : k < 4
    · have ca := RA2.cell hlt
      have cb := RB2.cell hlt
      have HW := Lib.hid hw2; clear hw2
      clear RA2 RB2 BL2
      have ba := HA.out k
      have bb := HBB.out k
      go_wp2_with fail
      go_quiet ((go_at_call 10; exact quiet_left (refmul_any _ _ _ (by omega) (by omega))))
      go_wp2_with fail
      go_roundw
      case rel => exact ⟨k + 1, n + nq, by omega, by go_num, by rw [Fld.rm_eq _ _ ba bb, u8_xor_nat _ _ (rdotP_lt a b HA.out k) (Fld.gm_lt _ _ ba)]; rfl, by rw [HW.out, World.drewN_drewN]⟩
      case measure => simp [intOf]; omega
    · obtain rfl : k = 4 := by omega
      have c0 := RA2.cell (i := 0) (by omega)
      have c1 := RA2.cell (i := 1) (by omega)
      have c2 := RA2.cell (i := 2) (by omega)
      have c3 := RA2.cell (i := 3) (by omega)
      have e0 := RB2.cell (i := 0) (by omega)
      have e1 := RB2.cell (i := 1) (by omega)
      have e2 := RB2.cell (i := 2) (by omega)
      have e3 := RB2.cell (i := 3) (by omega)
      have BL3 := Lib.hid BL2
      clear hw2 RA2 RB2 BL2 hlt hk
      go_wp2_with fail
      refine (dot_any a b _ HA.out HBB.out).mono ?_
      rintro e w3 ⟨rfl, hb3⟩
      have f0 := (hb3.cell (p := ⟨w.heap.size, 0, none⟩) (by show w.heap.size < _; omega)).trans c0
      have f1 := (hb3.cell (p := ⟨w.heap.size, 1, none⟩) (by show w.heap.size < _; omega)).trans c1
      have f2 := (hb3.cell (p := ⟨w.heap.size, 2, none⟩) (by show w.heap.size < _; omega)).trans c2
      have f3 := (hb3.cell (p := ⟨w.heap.size, 3, none⟩) (by show w.heap.size < _; omega)).trans c3
      have g0 := (hb3.cell (p := ⟨w.heap.size + 1, 0, none⟩) (by show w.heap.size + 1 < _; omega)).trans e0
      have g1 := (hb3.cell (p := ⟨w.heap.size + 1, 1, none⟩) (by show w.heap.size + 1 < _; omega)).trans e1
      have g2 := (hb3.cell (p := ⟨w.heap.size + 1, 2, none⟩) (by show w.heap.size + 1 < _; omega)).trans e2
      have g3 := (hb3.cell (p := ⟨w.heap.size + 1, 3, none⟩) (by show w.heap.size + 1 < _; omega)).trans e3
      have BL4 := Lib.hid (BL3.out.trans (hb3.mono (by omega)))
      clear hb3 c0 c1 c2 c3 e0 e1 e2 e3
      rw [ED.out]
      go_wp2_with fail
      refine (dot_any b a _ HBB.out HA.out).mono ?_
      rintro e w4 ⟨rfl, hb4⟩
      have BL5 := Lib.hid (BL4.out.trans (hb4.mono BL4.out.size))
      clear hb4
      rw [ED2.out]
      go_wp2_with fail
      go_ret
      exact ⟨rfl, BL5.out⟩

theorem fieldDots_walk (f : Nat → Int) (wf : ∀ j, j < 4 → (Lit.int .u8 (f j)).wf = true) (g : Nat → Int) (wg : ∀ j, j < 4 → (Lit.int .u8 (g j)).wf = true) (w : World) :
    Calls Try.prog 7 #[.agg ((List.range 4).map fun i => Value.int .u8 (f i)).toArray, .agg ((List.range 4).map fun i => Value.int .u8 (g i)).toArray] w fun e w' => e = .returned (.bool true) ∧ Below w.heap.size w w' := by
  have nat : ∀ f : Nat → Int, (∀ j, j < 4 → (Lit.int .u8 (f j)).wf = true) → ∀ j, j < 4 → f j = (((f j).toNat % 256 : Nat) : Int) := fun f wf j hj => by
    have := bounds_u8 (wf j hj)
    omega
  have h := fieldDots_core (fun i => (f i).toNat % 256) (fun i => (g i).toNat % 256) (fun i => Nat.mod_lt _ (by omega)) (fun i => Nat.mod_lt _ (by omega)) w
  have e1 : ((List.range 4).map fun i => Value.int .u8 (f i)).toArray = #[.int .u8 (f 0), .int .u8 (f 1), .int .u8 (f 2), .int .u8 (f 3)] := rfl
  have e2 : ((List.range 4).map fun i => Value.int .u8 (g i)).toArray = #[.int .u8 (g 0), .int .u8 (g 1), .int .u8 (g 2), .int .u8 (g 3)] := rfl
  rw [e1, e2, nat f wf 0 (by omega), nat f wf 1 (by omega), nat f wf 2 (by omega), nat f wf 3 (by omega), nat g wg 0 (by omega), nat g wg 1 (by omega), nat g wg 2 (by omega), nat g wg 3 (by omega)]
  exact h

/-! ### THE ROW's STEP -/
namespace fieldDotsF
theorem own : ownKnob Try.prog.godebug = none := by kernel_rfl
theorem laidOut : laidOutB Try.prog = true := by kernel_rfl
set_option maxRecDepth 100000 in
theorem lifted (os : Os) (started : os.Started) (H : Type) (enc : TypeId × Value → H) :
    ReturnsInHanded {} Try.checked os 7 .any (Rows.fieldDotsSpec.pre6 enc Try.prog Try.f7 Rows.fieldDotsRow.domain false) (Rows.fieldDotsSpec.post enc Try.prog Try.f7 false true false false) := by
  refine returnsInHanded_of_change (C := Try.checked) own started (by kernel_rfl) Try.func7
    (ChangeSpec.witness6 (enc := enc) (C := Try.checked) false ⟨#[], #[.agg #[.int .u8 0, .int .u8 0, .int .u8 0, .int .u8 0], .agg #[.int .u8 0, .int .u8 0, .int .u8 0, .int .u8 0]], []⟩ 8 (by kernel_rfl) (by kernel_rfl) (by kernel_rfl) (by kernel_rfl)) ?_
  intro W base args ds gs before hval0 hW _ _
  have hval : ∀ (j : Nat) t v, Try.f7.params[j]? = some t → args[j]? = some v → Value.okWide Try.prog W .any base t v := hval0
  have hW' := hW
  obtain ⟨p, q, hA0, hV, rfl, _, _⟩ := hW
  have hA : DataW.TrodAll enc Try.prog W 0 (fun _ => true) true Try.f7.params.toList args.toList ds p := hA0
  rw [Try.params7] at hA hval
  obtain ⟨v0, vs0, d0, ds0, p0, q0, hargs, rfl, rfl, h0, r0⟩ := trodAll_cons hA
  obtain ⟨v1, vs1, d1, ds1, p1, q1, rfl, rfl, rfl, h1, r1⟩ := trodAll_cons r0
  obtain ⟨rfl, rfl, rfl⟩ := trodAll_nil r1
  obtain rfl : args = #[v0, v1] := by cases args; simp_all
  obtain ⟨rfl, rfl⟩ := trodVars_none hV
  have k0 := h0
  have lt0 : ∀ x ∈ p0, x.block < W.heap.size := by obtain ⟨m, hm⟩ := k0; exact DataW.trod_lt m _ _ _ hm
  obtain ⟨a0, rfl, w0⟩ := open_int_array Try.underlying31 Try.underlying5 (by kernel_rfl) (by kernel_rfl) (hval 0 31 v0 rfl rfl) h0
  have k1 := h1
  have lt1 : ∀ x ∈ p1, x.block < W.heap.size := by obtain ⟨m, hm⟩ := k1; exact DataW.trod_lt m _ _ _ hm
  obtain ⟨a1, rfl, w1⟩ := open_int_array Try.underlying31 Try.underlying5 (by kernel_rfl) (by kernel_rfl) (hval 1 31 v1 rfl rfl) h1
  refine (fieldDots_walk a0 w0 a1 w1 W).mono fun e W' ⟨he, bel⟩ => ?_
  subst he
  exact ⟨_, rfl, _, _, _, [], _, [], hW', trodAll_mk1 (shut_bool Try.underlying4 _), (trodAll_cons_mk (Below.trod laidOut (by kernel_rfl) (of_decide_eq_true (by kernel_rfl)) k0 bel lt0) (trodAll_cons_mk (Below.trod laidOut (by kernel_rfl) (of_decide_eq_true (by kernel_rfl)) k1 bel lt1) trodAll_mk0)), rfl, bel.frame _, fun h => by cases h⟩
theorem over : Rows.fieldDotsRow.holds Try.pinned (OpenSpec.ofChange Rows.fieldDotsSpec) :=
  OpenClaim.holds_of_wide 7 Try.f7 rfl rfl rfl rfl rfl rfl rfl ⟨rfl, rfl, rfl, rfl, rfl⟩ rfl rfl rfl rfl rfl (by kernel_rfl) Try.func7 (by kernel_rfl)
    (of_decide_eq_true (by kernel_rfl)) (by unfold Func.isWrapper; first | (rw [if_pos (by decide +kernel)]; kernel_rfl) | (rw [if_neg (by decide +kernel)]; exact ⟨rfl, rfl⟩))
    (fun os started H enc _ => lifted os started H enc)
end fieldDotsF
/-- The statement. -/
theorem fieldDots_holds : Rows.FieldDotsSaid := fieldDotsF.over
#print axioms fieldDots_holds
end Go.Proofs.Ytmhnmedifpgnoaa
