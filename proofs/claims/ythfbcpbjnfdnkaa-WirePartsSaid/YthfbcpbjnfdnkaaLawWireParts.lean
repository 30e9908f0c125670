/- Taking bytes in two parts is taking them at once: for every bytes and every two numbers the law returns true. No condition. -/
import Derived.Test.YthfbcpbjnfdnkaaWireKit
namespace Wir
theorem take_fit {l : List Nat} {n : Nat} (h : n ≤ l.length) : take ⟨l, false⟩ n = (⟨l.drop n, false⟩, l.take n) := by
  unfold take next
  have e : ((n : Nat) : Int).toNat = n := by simp
  rw [if_neg (by omega), e, if_neg (by simp; omega)]
  rfl
theorem take_over {l : List Nat} {n : Nat} (h : l.length < n) : take ⟨l, false⟩ n = (failed, []) := by
  unfold take next
  rw [if_neg (by omega)]
  simp [h]
theorem take_failed (n : Nat) : take failed n = (failed, []) := by
  unfold take next
  rw [if_neg (by omega)]
  simp [failed]
theorem take_two_over {l : List Nat} {n m : Nat} (h : l.length < n + m) : take (take ⟨l, false⟩ n).1 m = (failed, []) := by
  by_cases hn : n ≤ l.length
  · rw [take_fit hn]
    exact take_over (by rw [List.length_drop]; omega)
  · rw [take_over (by omega)]
    exact take_failed m
theorem take_le (l : List Nat) (n : Int) : (take ⟨l, false⟩ n).1.l.length ≤ l.length := by
  unfold take next
  split
  · simp [failed]
  · split
    · simp [failed]
    · simp
end Wir
namespace Go.Proofs.Ythfbcpbjnfdnkaa
open Go.ChangeShapes Go.WideShapes Go.ChangeAt Go.RowKit Go.Deep

theorem Rd.other {w w' : World} {p q : Nat} {r r' : Wir.R} (h : Rd w q r') (hp : Rd w p r) (hne : q ≠ p) (hg : w.grownBy w' (some p)) : Rd w' q r' := by
  have hlt := h.lt
  obtain ⟨v, hq, hb, hn⟩ := h
  refine ⟨v, (hg.block q hlt (by simpa using hne)).trans hq, ?_, hn⟩
  by_cases hv : v.ownBlock = some p
  · obtain ⟨v0, hp0, hb0, _⟩ := hp
    rcases hb.cases with ⟨rfl, hnil⟩ | ⟨b, off, cap, rfl, h1, h2, hbl, hc⟩
    · rw [hnil]; exact Bs.nil _
    · simp [Value.ownBlock] at hv
      subst hv
      have hl : r'.l = [] := by
        rcases hl : r'.l with _ | ⟨x, t⟩
        · rfl
        · exfalso
          have h0 := hc 0 (by rw [hl]; simp)
          obtain ⟨c0, c1, _, _⟩ := two_cells hp0
          obtain ⟨a0, cap0, rfl⟩ := hb0.form
          have : off + 0 = 0 ∨ off + 0 = 1 ∨ 2 ≤ off + 0 := by omega
          rcases this with e | e | e
          · rw [e, c0] at h0; simp at h0
          · rw [e, c1] at h0; simp at h0
          · simp [World.cell?, hp0] at h0
            have := (List.getElem?_eq_some_iff.1 h0).1
            simp at this; omega
      have hz : r'.l.length = 0 := by rw [hl]; rfl
      rw [hl]
      exact bs_mk AllB.nil rfl (Nat.zero_le _) h2 (Nat.lt_of_lt_of_le hbl hg.size) (fun i hi => by simp at hi)
  · exact hb.only hg (.inr hv)

set_option maxRecDepth 100000 in
set_option maxHeartbeats 2000000 in
theorem wireParts_out (w : World) (v : Value) (l : List Nat) (h : Rs w v l) (n m : Int) (hc : 300 < l.length ∨ ¬ 300 < l.length ∧ (n < 0 ∨ ¬ n < 0 ∧ (m < 0 ∨ ¬ m < 0 ∧ (1000 < n ∨ ¬ 1000 < n ∧ 1000 < m)))) :
    Calls Try.prog 7 #[v, .int .i64 n, .int .i64 m] w (RetBool true w) := by
  obtain ⟨a, cap, rfl⟩ := h.form
  clear h
  rcases hc with c1 | ⟨c1, c2 | ⟨c2, c3 | ⟨c3, c4 | ⟨c4, c5⟩⟩⟩⟩
  all_goals
    go_enter Try.func7, Try.ntmps7
    go_wp2_with fail
    refine (awake_any _).mono ?_
    rintro e w1 ⟨rfl, hb1⟩
    have B1 := Lib.hid hb1; clear hb1
    go_wp2_with fail
    refine (awake_any _).mono ?_
    rintro e w2 ⟨rfl, hb2⟩
    have B2 := Lib.hid (B1.out.trans (hb2.mono B1.out.size)); clear hb2 B1
    go_wp2_with fail
    go_ret
    exact ⟨rfl, B2.out⟩

set_option maxRecDepth 100000 in
set_option maxHeartbeats 4000000 in
theorem wireParts_in (w : World) (v : Value) (l : List Nat) (h : Rs w v l) (n m : Nat) (hl : l.length ≤ 300) (hn : n ≤ 1000) (hm : m ≤ 1000) :
    Calls Try.prog 7 #[v, .int .i64 n, .int .i64 m] w (RetBool true w) := by
  have R0 := Lib.hid h
  obtain ⟨a, cap, rfl⟩ := h.form
  clear h
  have hsum : (n : Int) + m = ((n + m : Nat) : Int) := by omega
  have HSUM := Lib.hid hsum; clear hsum
  go_enter Try.func7, Try.ntmps7
  go_wp2_with fail
  refine (awake_any _).mono ?_
  rintro e w1 ⟨rfl, hb1⟩
  have S1 := hb1.size
  have R1 := Lib.hid (R0.out.below hb1)
  have B1 := Lib.hid hb1; clear hb1
  go_wp2_with fail
  refine (new_any _ _ _ R1.out (by omega)).mono ?_
  rintro e w2 ⟨p, rfl, hp, hrd, hb2⟩
  have S2 := hb2.size
  have R2 := Lib.hid (R1.out.below hb2)
  have B2 := Lib.hid (B1.out.trans (hb2.mono S1))
  have P2 := Lib.hid hrd
  have hpl := hrd.lt
  clear hb2 hrd R1 B1
  go_wp2_with fail
  refine (new_any _ _ _ R2.out (by omega)).mono ?_
  rintro e w3 ⟨q, rfl, hq, hrd, hb3⟩
  have S3 := hb3.size
  have B3 := Lib.hid (B2.out.trans (hb3.mono (by omega)))
  have P3 := Lib.hid (P2.out.below hb3)
  have Q3 := Lib.hid hrd
  have hql := hrd.lt
  have hpq : p < q := by omega
  clear hb3 hrd R2 B2 P2
  go_wp2_with fail
  refine (rTake_any p _ n _ P3.out (by omega) (by show l.length ≤ _; omega)).mono ?_
  rintro e w4 ⟨v4, rfl, ho4, hrd, hg⟩
  have S4 := hg.size
  have B4 := Lib.hid (B3.out.trans (below_reader hg (B := w.heap.size) (by omega) (by omega)))
  have P4 := Lib.hid hrd
  have Q4 := Lib.hid (Q3.out.other P3.out (by omega) hg)
  have O4 := Lib.hid ho4
  clear hg hrd ho4 B3 P3 Q3
  go_wp2_with fail
  refine (rTake_any p _ m _ P4.out (by omega) (Nat.le_trans (Wir.take_le l n) (by omega))).mono ?_
  rintro e w5 ⟨v5, rfl, ho5, hrd, hg⟩
  have S5 := hg.size
  have B5 := Lib.hid (B4.out.trans (below_reader hg (B := w.heap.size) (by omega) (by omega)))
  have P5 := Lib.hid hrd
  have Q5 := Lib.hid (Q4.out.other P4.out (by omega) hg)
  have O5 := Lib.hid (O4.out.only hg (O4.out.far (by omega)))
  have Y5 := Lib.hid ho5
  clear hg hrd ho5 B4 P4 Q4 O4
  go_wp2_with fail
  rw [HSUM.out]
  refine (rTake_any q _ ((n + m : Nat) : Int) _ Q5.out (by omega) (by show l.length ≤ _; omega)).mono ?_
  rintro e w6 ⟨v6, rfl, ho6, hrd, hg⟩
  have S6 := hg.size
  have B6 := Lib.hid (B5.out.trans (below_reader hg (B := w.heap.size) (by omega) (by omega)))
  have Q6 := Lib.hid hrd
  have P6 := Lib.hid (P5.out.other Q5.out (by omega) hg)
  have O6 := Lib.hid (O5.out.only hg (O5.out.far (by omega)))
  have Y6 := Lib.hid (Y5.out.only hg (Y5.out.far (by omega)))
  have Z6 := Lib.hid ho6
  clear hg hrd ho6 B5 P5 Q5 O5 Y5
  by_cases hover : l.length < n + m
  · have e1 := Wir.take_two_over hover
    have e2 := Wir.take_over hover
    have p6 := P6.out
    have q6 := Q6.out
    have y6 := Y6.out
    have z6 := Z6.out
    rw [e1] at p6 y6
    rw [e2] at q6 z6
    have P7 := Lib.hid p6
    have Q7 := Lib.hid q6
    obtain ⟨ya, yc, rfl⟩ := y6.form
    obtain ⟨za, zc, rfl⟩ := z6.form
    clear p6 q6 y6 z6 e1 e2 P6 Q6 Y6 Z6 O6
    go_wp2_with fail
    refine (bad_any p _ _ P7.out).mono ?_
    rintro e w' ⟨rfl, rfl⟩
    go_wp2_with fail
    refine (bad_any q _ _ Q7.out).mono ?_
    rintro e w' ⟨rfl, rfl⟩
    go_wp2_with fail
    go_ret
    exact ⟨rfl, B6.out⟩
  · have e1 := Wir.take_fit (l := l) (n := n) (by omega)
    have e2 := Wir.take_fit (l := l.drop n) (n := m) (by rw [List.length_drop]; omega)
    have e3 := Wir.take_fit (l := l) (n := n + m) (by omega)
    have p6 := P6.out
    have q6 := Q6.out
    have o6 := O6.out
    have y6 := Y6.out
    have z6 := Z6.out
    rw [e1] at p6 o6 y6
    rw [e2] at p6 y6
    rw [e3] at q6 z6
    rw [List.drop_drop] at p6
    have P7 := Lib.hid p6
    have Q7 := Lib.hid q6
    have hj : Wir.join [l.take n, (l.drop n).take m] = l.take (n + m) := by simp [Wir.join, List.take_add]
    have HJ := Lib.hid hj; clear hj
    have hll : (l.take (n + m)).length ≤ 300 := by rw [List.length_take]; omega
    have OX := Lib.hid o6.bs.rs
    have OY := Lib.hid y6.bs.rs
    have OZ := Lib.hid z6.bs.rs
    obtain ⟨xa, xc, rfl⟩ := o6.form
    obtain ⟨ya, yc, rfl⟩ := y6.form
    obtain ⟨za, zc, rfl⟩ := z6.form
    clear p6 q6 y6 z6 o6 e1 e2 e3 P6 Q6 Y6 Z6 O6
    generalize (l.take n).length = lx at OX ⊢
    generalize ((l.drop n).take m).length = ly at OY ⊢
    have HLL := Lib.hid hll; clear hll
    obtain ⟨lz, hlz⟩ : ∃ lz, lz = (l.take (n + m)).length := ⟨_, rfl⟩
    rw [← hlz] at OZ ⊢
    clear hlz
    go_wp2_with fail
    have hA : Below w6.heap.size w6 (w6.alloc (.cells #[.slice xa lx xc, .slice ya ly yc] 23)) := (Below.refl _ _).alloc (Nat.le_refl _) _
    refine (refJoin_any _ _ _ (bss_two OX.out OY.out) (by rw [HJ.out]; have := HLL.out; omega)).mono ?_
    rintro e w7 ⟨v7, rfl, ho7, hb7⟩
    rw [HJ.out] at ho7
    have hb7' : Below w6.heap.size w6 w7 := hA.trans (hb7.mono (by simp))
    have S7 := hb7'.size
    have B7 := Lib.hid (B6.out.trans (hb7'.mono (by omega)))
    have P8 := Lib.hid (P7.out.below hb7')
    have Q8 := Lib.hid (Q7.out.below hb7')
    have Z7 := Lib.hid (OZ.out.below hb7')
    have J7 := Lib.hid ho7.bs.rs
    clear hA hb7 hb7' ho7 B6 P7 Q7 OX OY OZ
    go_wp2_with fail
    refine (same_yes _ _ _ _ J7.out Z7.out).mono ?_
    rintro e w8 ⟨rfl, hb8⟩
    have B8 := Lib.hid (B7.out.trans (hb8.mono (by omega)))
    have P9 := Lib.hid (P8.out.below hb8)
    have Q9 := Lib.hid (Q8.out.below hb8)
    clear hb8 B7 P8 Q8 Z7 J7
    go_wp2_with fail
    refine (left_any p _ _ P9.out).mono ?_
    rintro e w' ⟨rfl, rfl⟩
    go_wp2_with fail
    refine (left_any q _ _ Q9.out).mono ?_
    rintro e w' ⟨rfl, rfl⟩
    go_wp2_with fail
    refine (bad_any p _ _ P9.out).mono ?_
    rintro e w' ⟨rfl, rfl⟩
    go_wp2_with fail
    go_ret
    exact ⟨rfl, B8.out⟩

theorem wireParts_walk (w : World) (v : Value) (l : List Nat) (h : Rs w v l) (n : Int) (wn : (Lit.int .i64 n).wf = true) (m : Int) (wm : (Lit.int .i64 m).wf = true) :
    Calls Try.prog 7 #[v, .int .i64 n, .int .i64 m] w fun e w' => e = .returned (.bool true) ∧ Below w.heap.size w w' := by
  by_cases hc : 300 < l.length ∨ ¬ 300 < l.length ∧ (n < 0 ∨ ¬ n < 0 ∧ (m < 0 ∨ ¬ m < 0 ∧ (1000 < n ∨ ¬ 1000 < n ∧ 1000 < m)))
  · exact wireParts_out w v l h n m hc
  · obtain ⟨a, rfl⟩ := Int.eq_ofNat_of_zero_le (show 0 ≤ n by omega)
    obtain ⟨b, rfl⟩ := Int.eq_ofNat_of_zero_le (show 0 ≤ m by omega)
    exact wireParts_in w v l h a b (by omega) (by omega) (by omega)

/-! ### THE ROW's STEP -/
namespace wirePartsF
theorem own : ownKnob Try.prog.godebug = none := by kernel_rfl
theorem laidOut : laidOutB Try.prog = true := by kernel_rfl
set_option maxRecDepth 100000 in
theorem lifted (os : Os) (started : os.Started) (H : Type) (enc : TypeId × Value → H) :
    ReturnsInHanded {} Try.checked os 7 .any (Rows.wirePartsSpec.pre6 enc Try.prog Try.f7 Rows.wirePartsRow.domain false) (Rows.wirePartsSpec.post enc Try.prog Try.f7 false true false false) := by
  refine returnsInHanded_of_change (C := Try.checked) own started (by kernel_rfl) Try.func7
    (ChangeSpec.witness6 (enc := enc) (C := Try.checked) false ⟨#[], #[.slice none 0 0, .int .i64 0, .int .i64 0], []⟩ 8 (by kernel_rfl) (by kernel_rfl) (by kernel_rfl) (by kernel_rfl)) ?_
  intro W base args ds gs before hval0 hW _ _
  have hval : ∀ (j : Nat) t v, Try.f7.params[j]? = some t → args[j]? = some v → Value.okWide Try.prog W .any base t v := hval0
  have hW' := hW
  obtain ⟨p, q, hA0, hV, rfl, _, _⟩ := hW
  have hA : DataW.TrodAll enc Try.prog W 0 (fun _ => true) true Try.f7.params.toList args.toList ds p := hA0
  rw [Try.params7] at hA hval
  obtain ⟨v0, vs0, d0, ds0, p0, q0, hargs, rfl, rfl, h0, r0⟩ := trodAll_cons hA
  obtain ⟨v1, vs1, d1, ds1, p1, q1, rfl, rfl, rfl, h1, r1⟩ := trodAll_cons r0
  obtain ⟨v2, vs2, d2, ds2, p2, q2, rfl, rfl, rfl, h2, r2⟩ := trodAll_cons r1
  obtain ⟨rfl, rfl, rfl⟩ := trodAll_nil r2
  obtain rfl : args = #[v0, v1, v2] := by cases args; simp_all
  obtain ⟨rfl, rfl⟩ := trodVars_none hV
  have k0 := h0
  have lt0 : ∀ x ∈ p0, x.block < W.heap.size := by obtain ⟨m, hm⟩ := k0; exact DataW.trod_lt m _ _ _ hm
  obtain ⟨a0, len0, cap0, rfl⟩ := okWide_slice Try.underlying23 (hval 0 23 v0 rfl rfl)
  obtain ⟨z0, w0⟩ := open_bytes Try.underlying23 Try.underlying5 (by kernel_rfl) h0
  have k1 := h1
  have lt1 : ∀ x ∈ p1, x.block < W.heap.size := by obtain ⟨m, hm⟩ := k1; exact DataW.trod_lt m _ _ _ hm
  obtain ⟨a1, rfl, _, _, w1⟩ := open_int Try.underlying3 (hval 1 3 v1 rfl rfl) h1
  have k2 := h2
  have lt2 : ∀ x ∈ p2, x.block < W.heap.size := by obtain ⟨m, hm⟩ := k2; exact DataW.trod_lt m _ _ _ hm
  obtain ⟨a2, rfl, _, _, w2⟩ := open_int Try.underlying3 (hval 2 3 v2 rfl rfl) h2
  refine (wireParts_walk W _ z0 w0 a1 w1 a2 w2).mono fun e W' ⟨he, bel⟩ => ?_
  subst he
  exact ⟨_, rfl, _, _, _, [], _, [], hW', trodAll_mk1 (shut_bool Try.underlying4 _), (trodAll_cons_mk (Below.trod laidOut (by kernel_rfl) (of_decide_eq_true (by kernel_rfl)) k0 bel lt0) (trodAll_cons_mk (Below.trod laidOut (by kernel_rfl) (of_decide_eq_true (by kernel_rfl)) k1 bel lt1) (trodAll_cons_mk (Below.trod laidOut (by kernel_rfl) (of_decide_eq_true (by kernel_rfl)) k2 bel lt2) trodAll_mk0))), rfl, bel.frame _, fun h => by cases h⟩
theorem over : Rows.wirePartsRow.holds Try.pinned (OpenSpec.ofChange Rows.wirePartsSpec) :=
  OpenClaim.holds_of_wide 7 Try.f7 rfl rfl rfl rfl rfl rfl rfl ⟨rfl, rfl, rfl, rfl, rfl⟩ rfl rfl rfl rfl rfl (by kernel_rfl) Try.func7 (by kernel_rfl)
    (of_decide_eq_true (by kernel_rfl)) (by unfold Func.isWrapper; first | (rw [if_pos (by decide +kernel)]; kernel_rfl) | (rw [if_neg (by decide +kernel)]; exact ⟨rfl, rfl⟩))
    (fun os started H enc _ => lifted os started H enc)
end wirePartsF
/-- The statement. -/
theorem wireParts_holds : Rows.WirePartsSaid := wirePartsF.over
#print axioms wireParts_holds
end Go.Proofs.Ythfbcpbjnfdnkaa
