/- Two names have the same bytes exactly if they are the same; bytes of one name are no beginning of those of another one: for every two names the law returns true. No condition. -/
import Derived.Test.YthfbcpbjnfdnkaaNameQ
import Derived.Deep.RegionHeld3
namespace Go.Proofs.Ythfbcpbjnfdnkaa
open Go.ChangeShapes Go.WideShapes Go.ChangeAt Go.RowKit Go.Deep

theorem bytes_same {q0 q1 : ByteArray} {s0 s1 : List ByteArray} (h0 : Nam.valid (nm q0 s0) = true) (h1 : Nam.valid (nm q1 s1) = true) : sameB (Nam.bytes (nm q0 s0)) (Nam.bytes (nm q1 s1)) = decide (q0 = q1 ∧ s0 = s1) := by
  by_cases h : q0 = q1 ∧ s0 = s1
  · obtain ⟨rfl, rfl⟩ := h
    simp [sameB]
  · rw [decide_eq_false h]
    unfold sameB
    rw [decide_eq_false]
    intro e
    exact h (nm_inj.1 (Nam.bytes_inj h0 h1 e))
theorem bytes_front {q0 q1 : ByteArray} {s0 s1 : List ByteArray} (h0 : Nam.valid (nm q0 s0) = true) (h1 : Nam.valid (nm q1 s1) = true) (n : Nat) (hn : n = min (Nam.bytes (nm q0 s0)).length (Nam.bytes (nm q1 s1)).length) : sameB ((Nam.bytes (nm q0 s0)).take n) ((Nam.bytes (nm q1 s1)).take n) = decide (q0 = q1 ∧ s0 = s1) := by
  subst hn
  by_cases h : q0 = q1 ∧ s0 = s1
  · obtain ⟨rfl, rfl⟩ := h
    simp [sameB]
  · rw [decide_eq_false h]
    unfold sameB
    rw [decide_eq_false]
    intro e
    exact h (nm_inj.1 (Nam.bytes_apart h0 h1 e))
theorem Rs.pre {w : World} {a : Option Addr} {n cap : Nat} {l : List Nat} (h : Rs w (.slice a n cap) l) {m : Nat} (hm : m ≤ l.length) : Rs w (.slice a m cap) (l.take m) := by
  have hl : (l.take m).length = m := by rw [List.length_take]; omega
  refine ⟨fun x hx => h.1 x (List.mem_of_mem_take hx), by have := h.2.1; omega, ?_⟩
  rcases h.2.2 with ⟨hv, rfl⟩ | ⟨x, c, hv, hc, hcell⟩
  · simp only [Value.slice.injEq] at hv
    obtain ⟨rfl, rfl, rfl⟩ := hv
    have : m = 0 := by simpa using hm
    subst this
    exact .inl ⟨rfl, by simp⟩
  · simp only [Value.slice.injEq] at hv
    obtain ⟨rfl, rfl, rfl⟩ := hv
    refine .inr ⟨x, cap, by rw [hl], by omega, fun i hi => ?_⟩
    rw [hl] at hi
    rw [hcell i (by omega)]
    simp [List.getElem?_take, hi]
set_option maxRecDepth 100000 in
set_option maxHeartbeats 4000000 in
theorem nameApart_walk (w : World) (q0 : ByteArray) (w0 : q0.size ≤ maxLen) (u0 : Value) (s0 : List ByteArray) (x0 : Ss w u0 s0) (q1 : ByteArray) (w1 : q1.size ≤ maxLen) (u1 : Value) (s1 : List ByteArray) (x1 : Ss w u1 s1) :
    Calls Try.prog 9 #[.agg #[.string q0, u0], .agg #[.string q1, u1]] w (RetBool true w) := by
  obtain ⟨a0, k0, rfl⟩ := x0.form
  obtain ⟨a1, k1, rfl⟩ := x1.form
  have g := only_alloc (only_alloc (only_refl w none) (.cells #[.string q0, .slice a0 s0.length k0] 53)) (.cells #[.string q1, .slice a1 s1.length k1] 53)
  have na := (Nb.fresh x0 w0).alloc (.cells #[.string q1, .slice a1 s1.length k1] 53)
  have nb := Nb.fresh (x1.only (only_alloc (only_refl w none) (.cells #[.string q0, .slice a0 s0.length k0] 53))) w1
  simp only [World.size_alloc] at nb
  clear x0 x1
  go_enter Try.func9, Try.ntmps9
  go_wp2_with fail
  refine (awake_name _).mono ?_
  rintro e W1 ⟨rfl, hb1⟩
  have na1 := na.below hb1
  have nb1 := nb.below hb1
  have g1 := only_trans g (only_of_below hb1 none)
  clear na nb g hb1
  have c0 := na1.c0
  have c1 := na1.c1
  go_wp2_with fail
  refine (few_any q0 _ s0 _ na1.2.1 w0).mono ?_
  rintro e W2 ⟨rfl, h2⟩
  have na2 := na1.only h2
  have nb2 := nb1.only h2
  have g2 := only_trans g1 h2
  clear na1 nb1 g1 h2 c0 c1
  cases hf0 : few q0 s0
  · have GG := g2
    go_wp2_with fail
    refine (awake_name _).mono ?_
    rintro e w9 ⟨rfl, hb9⟩
    go_wp2_with fail
    go_ret
    exact ⟨rfl, below_of_only (only_trans GG (only_of_below hb9 none))⟩
  have c0 := nb2.c0
  have c1 := nb2.c1
  go_wp2_with fail
  refine (few_any q1 _ s1 _ nb2.2.1 w1).mono ?_
  rintro e W3 ⟨rfl, h3⟩
  have na3 := na2.only h3
  have nb3 := nb2.only h3
  have g3 := only_trans g2 h3
  clear na2 nb2 g2 h3 c0 c1
  cases hf1 : few q1 s1
  · have GG := g3
    go_wp2_with fail
    refine (awake_name _).mono ?_
    rintro e w9 ⟨rfl, hb9⟩
    go_wp2_with fail
    go_ret
    exact ⟨rfl, below_of_only (only_trans GG (only_of_below hb9 none))⟩
  have c0 := na3.c0
  have c1 := na3.c1
  go_wp2_with fail
  refine (refvalid_any q0 w0 _ s0 _ na3.2.1).mono ?_
  rintro e W4 ⟨rfl, h4⟩
  have na4 := na3.only h4
  have nb4 := nb3.only h4
  have g4 := only_trans g3 h4
  clear na3 nb3 g3 h4 c0 c1
  cases hv0 : Nam.valid (nm q0 s0)
  · have GG := g4
    go_wp2_with fail
    refine (awake_name _).mono ?_
    rintro e w9 ⟨rfl, hb9⟩
    go_wp2_with fail
    go_ret
    exact ⟨rfl, below_of_only (only_trans GG (only_of_below hb9 none))⟩
  have c0 := nb4.c0
  have c1 := nb4.c1
  go_wp2_with fail
  refine (refvalid_any q1 w1 _ s1 _ nb4.2.1).mono ?_
  rintro e W5 ⟨rfl, h5⟩
  have na5 := na4.only h5
  have nb5 := nb4.only h5
  have g5 := only_trans g4 h5
  clear na4 nb4 g4 h5 c0 c1
  cases hv1 : Nam.valid (nm q1 s1)
  · have GG := g5
    go_wp2_with fail
    refine (awake_name _).mono ?_
    rintro e w9 ⟨rfl, hb9⟩
    go_wp2_with fail
    go_ret
    exact ⟨rfl, below_of_only (only_trans GG (only_of_below hb9 none))⟩
  have HS := Lib.hid (bytes_same hv0 hv1)
  have HT := Lib.hid (bytes_front hv0 hv1)
  have hl0 := Nam.bytes_len hv0
  have hl1 := Nam.bytes_len hv1
  have c0 := na5.c0
  have c1 := na5.c1
  go_wp2_with fail
  refine (nbytes_any q0 w0 _ s0 _ na5.2.1).mono ?_
  rintro e W6 ⟨hb6, ht⟩
  rw [if_pos hv0] at ht
  rcases ht with ⟨hno, _⟩ | ⟨l6, v6, hl6, rfl, o6⟩
  · cases hno
  cases hl6
  have na6 := na5.below hb6
  have nb6 := nb5.below hb6
  have g6 := only_trans g5 (only_of_below hb6 none)
  have O6 := o6.bs.rs
  obtain ⟨b6, k6, rfl⟩ := o6.form
  clear na5 nb5 g5 hb6 c0 c1 o6
  have c0 := nb6.c0
  have c1 := nb6.c1
  go_wp2_with fail
  refine (nbytes_any q1 w1 _ s1 _ nb6.2.1).mono ?_
  rintro e W7 ⟨hb7, ht⟩
  rw [if_pos hv1] at ht
  rcases ht with ⟨hno, _⟩ | ⟨l7, v7, hl7, rfl, o7⟩
  · cases hno
  cases hl7
  have na7 := na6.below hb7
  have nb7 := nb6.below hb7
  have g7 := only_trans g6 (only_of_below hb7 none)
  have P0 := O6.below hb7
  have P1 := o7.bs.rs
  obtain ⟨b7, k7, rfl⟩ := o7.form
  clear na6 nb6 g6 hb7 c0 c1 o7 O6
  generalize Nam.bytes (nm q0 s0) = L0 at *
  generalize Nam.bytes (nm q1 s1) = L1 at *
  have hk0 := P0.cap.2.1
  have hk1 := P1.cap.2.1
  have na7d : Nb W7.drew w.heap.size q0 (.slice a0 s0.length k0) s0 := na7
  have nb7d : Nb W7.drew (w.heap.size + 1) q1 (.slice a1 s1.length k1) s1 := nb7
  have g7d : w.grownBy W7.drew none := ⟨g7.os, g7.tape, g7.output, g7.size, g7.block⟩
  have P0d : Rs W7.drew (.slice b6 L0.length k6) L0 := P0
  have P1d : Rs W7.drew (.slice b7 L1.length k7) L1 := P1
  have c0 := na7.c0
  have c1 := na7.c1
  have d0 := nb7.c0
  have d1 := nb7.c1
  clear na7 nb7 g7 P0 P1
  have HD := Lib.hid (rfl : decide (q0 = q1 ∧ s0 = s1) = decide (q0 = q1 ∧ s0 = s1))
  generalize hbq : decide (q0 = q1 ∧ s0 = s1) = bq at HS HT HD
  have HB := Lib.hid hbq; clear hbq HD
  cases bq
  all_goals (
    rcases Nat.lt_or_ge L1.length L0.length with hm | hm
    · have HTm := Lib.hid (HT.out L1.length (by omega))
      have hs6 : L1.length ≤ k6 := by omega
      have hs7 : L1.length ≤ k7 := by omega
      go_wp2_with fail
      all_goals first | omega | skip
      go_region_held3 (fun w' => w'.cell? ⟨w.heap.size, 0, none⟩ = some (.string q0) ∧ w'.cell? ⟨w.heap.size, 1, none⟩ = some (.slice a0 s0.length k0) ∧ w'.cell? ⟨w.heap.size + 1, 0, none⟩ = some (.string q1) ∧ w'.cell? ⟨w.heap.size + 1, 1, none⟩ = some (.slice a1 s1.length k1)) (first | exact ⟨c0, c1, d0, d1⟩ | exact ⟨c0', c1', d0', d1'⟩) (first
        | (go_at_call 17; refine (same_any _ _ L0 L1 _ (by exact P0d) (by exact P1d)).mono ?_; rintro e w8 ⟨rfl, hb8⟩; rw [HS.out]; have na8 := na7d.below hb8; have nb8 := nb7d.below hb8; have g8 := only_trans g7d (only_of_below hb8 none); have P08 := P0d.below hb8; have P18 := P1d.below hb8; have c0' := na8.c0; have c1' := na8.c1; have d0' := nb8.c0; have d1' := nb8.c1)
        | (go_at_call 33; refine (refsame_name q0 q1 _ _ s0 s1 w8 (by exact na8.2.1) (by exact nb8.2.1)).mono ?_; rintro e w9 ⟨rfl, h9⟩; rw [HB.out]; have na9 := na8.only h9; have nb9 := nb8.only h9; have g9 := only_trans g8 h9; have P09 := P08.below (below_of_only h9); have P19 := P18.below (below_of_only h9); have c0' := na9.c0; have c1' := na9.c1; have d0' := nb9.c0; have d1' := nb9.c1)
        | (go_at_call 17; refine (same_any _ _ (L0.take L1.length) (L1.take L1.length) w9 (by exact P09.pre (by omega)) (by exact P19.pre (by omega))).mono ?_; rintro e w10 ⟨rfl, hb10⟩; rw [HTm.out]; have na10 := na9.below hb10; have nb10 := nb9.below hb10; have g10 := only_trans g9 (only_of_below hb10 none); have c0' := na10.c0; have c1' := na10.c1; have d0' := nb10.c0; have d1' := nb10.c1)
        | (go_at_call 33; refine (refsame_name q0 q1 _ _ s0 s1 w10 (by exact na10.2.1) (by exact nb10.2.1)).mono ?_; rintro e w11 ⟨rfl, h11⟩; rw [HB.out]; have na11 := na10.only h11; have nb11 := nb10.only h11; have g11 := only_trans g10 h11; have c0' := na11.c0; have c1' := na11.c1; have d0' := nb11.c0; have d1' := nb11.c1))
      go_wp2_with fail
      go_ret
      exact ⟨rfl, below_of_only g11⟩
    · have HTm := Lib.hid (HT.out L0.length (by omega))
      have hs6 : L0.length ≤ k6 := by omega
      have hs7 : L0.length ≤ k7 := by omega
      go_wp2_with fail
      all_goals first | omega | skip
      go_region_held3 (fun w' => w'.cell? ⟨w.heap.size, 0, none⟩ = some (.string q0) ∧ w'.cell? ⟨w.heap.size, 1, none⟩ = some (.slice a0 s0.length k0) ∧ w'.cell? ⟨w.heap.size + 1, 0, none⟩ = some (.string q1) ∧ w'.cell? ⟨w.heap.size + 1, 1, none⟩ = some (.slice a1 s1.length k1)) (first | exact ⟨c0, c1, d0, d1⟩ | exact ⟨c0', c1', d0', d1'⟩) (first
        | (go_at_call 17; refine (same_any _ _ L0 L1 _ (by exact P0d) (by exact P1d)).mono ?_; rintro e w8 ⟨rfl, hb8⟩; rw [HS.out]; have na8 := na7d.below hb8; have nb8 := nb7d.below hb8; have g8 := only_trans g7d (only_of_below hb8 none); have P08 := P0d.below hb8; have P18 := P1d.below hb8; have c0' := na8.c0; have c1' := na8.c1; have d0' := nb8.c0; have d1' := nb8.c1)
        | (go_at_call 33; refine (refsame_name q0 q1 _ _ s0 s1 w8 (by exact na8.2.1) (by exact nb8.2.1)).mono ?_; rintro e w9 ⟨rfl, h9⟩; rw [HB.out]; have na9 := na8.only h9; have nb9 := nb8.only h9; have g9 := only_trans g8 h9; have P09 := P08.below (below_of_only h9); have P19 := P18.below (below_of_only h9); have c0' := na9.c0; have c1' := na9.c1; have d0' := nb9.c0; have d1' := nb9.c1)
        | (go_at_call 17; refine (same_any _ _ (L0.take L0.length) (L1.take L0.length) w9 (by exact P09.pre (by omega)) (by exact P19.pre (by omega))).mono ?_; rintro e w10 ⟨rfl, hb10⟩; rw [HTm.out]; have na10 := na9.below hb10; have nb10 := nb9.below hb10; have g10 := only_trans g9 (only_of_below hb10 none); have c0' := na10.c0; have c1' := na10.c1; have d0' := nb10.c0; have d1' := nb10.c1)
        | (go_at_call 33; refine (refsame_name q0 q1 _ _ s0 s1 w10 (by exact na10.2.1) (by exact nb10.2.1)).mono ?_; rintro e w11 ⟨rfl, h11⟩; rw [HB.out]; have na11 := na10.only h11; have nb11 := nb10.only h11; have g11 := only_trans g10 h11; have c0' := na11.c0; have c1' := na11.c1; have d0' := nb11.c0; have d1' := nb11.c1))
      go_wp2_with fail
      go_ret
      exact ⟨rfl, below_of_only g11⟩)

/-! ### THE ROW's STEP -/
namespace nameApartF
theorem own : ownKnob Try.prog.godebug = none := by kernel_rfl
theorem laidOut : laidOutB Try.prog = true := by kernel_rfl
set_option maxRecDepth 100000 in
theorem lifted (os : Os) (started : os.Started) (H : Type) (enc : TypeId × Value → H) :
    ReturnsInHanded {} Try.checked os 9 .any (Rows.nameApartSpec.pre6 enc Try.prog Try.f9 Rows.nameApartRow.domain false) (Rows.nameApartSpec.post enc Try.prog Try.f9 false true false false) := by
  refine returnsInHanded_of_change (C := Try.checked) own started (by kernel_rfl) Try.func9
    (ChangeSpec.witness6 (enc := enc) (C := Try.checked) false ⟨#[], #[.agg #[.string ByteArray.empty, .slice none 0 0], .agg #[.string ByteArray.empty, .slice none 0 0]], []⟩ 8 (by kernel_rfl) (by kernel_rfl) (by kernel_rfl) (by kernel_rfl)) ?_
  intro W base args ds gs before hval0 hW _ _
  have hval : ∀ (j : Nat) t v, Try.f9.params[j]? = some t → args[j]? = some v → Value.okWide Try.prog W .any base t v := hval0
  have hW' := hW
  obtain ⟨p, q, hA0, hV, rfl, _, _⟩ := hW
  have hA : DataW.TrodAll enc Try.prog W 0 (fun _ => true) true Try.f9.params.toList args.toList ds p := hA0
  rw [Try.params9] at hA hval
  obtain ⟨v0, vs0, d0, ds0, p0, q0, hargs, rfl, rfl, h0, r0⟩ := trodAll_cons hA
  obtain ⟨v1, vs1, d1, ds1, p1, q1, rfl, rfl, rfl, h1, r1⟩ := trodAll_cons r0
  obtain ⟨rfl, rfl, rfl⟩ := trodAll_nil r1
  obtain rfl : args = #[v0, v1] := by cases args; simp_all
  obtain ⟨rfl, rfl⟩ := trodVars_none hV
  have k0 := h0
  have lt0 : ∀ x ∈ p0, x.block < W.heap.size := by obtain ⟨m, hm⟩ := k0; exact DataW.trod_lt m _ _ _ hm
  obtain ⟨q0, u0, ss0, rfl, w0, x0⟩ := open_name (hval 0 53 v0 rfl rfl) h0
  have k1 := h1
  have lt1 : ∀ x ∈ p1, x.block < W.heap.size := by obtain ⟨m, hm⟩ := k1; exact DataW.trod_lt m _ _ _ hm
  obtain ⟨q1, u1, ss1, rfl, w1, x1⟩ := open_name (hval 1 53 v1 rfl rfl) h1
  refine (nameApart_walk W q0 w0 u0 ss0 x0 q1 w1 u1 ss1 x1).mono fun e W' ⟨he, bel⟩ => ?_
  subst he
  exact ⟨_, rfl, _, _, _, [], _, [], hW', trodAll_mk1 (shut_bool Try.underlying4 _), (trodAll_cons_mk (Below.trod laidOut (by kernel_rfl) (of_decide_eq_true (by kernel_rfl)) k0 bel lt0) (trodAll_cons_mk (Below.trod laidOut (by kernel_rfl) (of_decide_eq_true (by kernel_rfl)) k1 bel lt1) trodAll_mk0)), rfl, bel.frame _, fun h => by cases h⟩
theorem over : Rows.nameApartRow.holds Try.pinned (OpenSpec.ofChange Rows.nameApartSpec) :=
  OpenClaim.holds_of_wide 9 Try.f9 rfl rfl rfl rfl rfl rfl rfl ⟨rfl, rfl, rfl, rfl, rfl⟩ rfl rfl rfl rfl rfl (by kernel_rfl) Try.func9 (by kernel_rfl)
    (of_decide_eq_true (by kernel_rfl)) (by unfold Func.isWrapper; first | (rw [if_pos (by decide +kernel)]; kernel_rfl) | (rw [if_neg (by decide +kernel)]; exact ⟨rfl, rfl⟩))
    (fun os started H enc _ => lifted os started H enc)
end nameApartF
/-- The statement. -/
theorem nameApart_holds : Rows.NameApartSaid := nameApartF.over
#print axioms nameApart_holds
end Go.Proofs.Ythfbcpbjnfdnkaa
