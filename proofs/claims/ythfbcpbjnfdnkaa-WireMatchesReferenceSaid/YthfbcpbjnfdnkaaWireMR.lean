/- For any bytes and reads the results are those of the reference implementation: the law's walk. -/
import Derived.Test.YthfbcpbjnfdnkaaWireKitB
import Derived.Test.YthfbcpbjnfdnkaaRefE
namespace Go.Proofs.Ythfbcpbjnfdnkaa
open Go.ChangeShapes Go.WideShapes Go.ChangeAt Go.RowKit Go.Deep

theorem rNumber_num (p : Nat) (r : Wir.R) (k : Int) (w : World) (h : Rd w p r) :
    Calls Try.prog 20 #[.pointer (some ⟨p, 0, none⟩), .int .i64 k] w fun e w' => e = .returned (.int .u64 ((Wir.num r k).2 : Int)) ∧ Rd w' p (Wir.num r k).1 ∧ w.grownBy w' (some p) := rNumber_any p r k w h

set_option maxRecDepth 100000 in
set_option maxHeartbeats 2000000 in
theorem wireMR_out (w : World) (v : Value) (l : List Nat) (h : Rs w v l) (u : Value) (ks : List (Int × Int)) (hk : Ops w u ks) (hc : 300 < l.length ∨ ¬ 300 < l.length ∧ 100 < ks.length) :
    Calls Try.prog 5 #[v, u] w (RetBool true w) := by
  obtain ⟨a, cap, rfl⟩ := h.form
  obtain ⟨ka, kcap, rfl⟩ := hk.form
  clear h hk
  rcases hc with c1 | ⟨c1, c2⟩
  all_goals
    go_enter Try.func5, Try.ntmps5
    go_wp2_with fail
    refine (awake_any _).mono ?_
    rintro e w1 ⟨rfl, hb1⟩
    have B1 := Lib.hid hb1; clear hb1
    go_wp2_with fail
    refine (awake_any _).mono ?_
    rintro e w2 ⟨rfl, hb2⟩
    have B2 := Lib.hid (B1.out.trans (hb2.mono B1.out.size)); clear hb2 B1
    go_wp2_with fail
    go_ret
    exact ⟨rfl, B2.out⟩

set_option maxRecDepth 100000 in
set_option maxHeartbeats 4000000 in
theorem wireMR_in (w : World) (v : Value) (l : List Nat) (h : Rs w v l) (u : Value) (ks : List (Int × Int)) (hk : Ops w u ks) (hl : l.length ≤ 300) (hks : ks.length ≤ 100) :
    Calls Try.prog 5 #[v, u] w (RetBool true w) := by
  have R0 := Lib.hid h
  have K0 := Lib.hid hk
  obtain ⟨a, cap, rfl⟩ := h.form
  obtain ⟨ka, kcap, rfl⟩ := hk.form
  clear h hk
  go_enter Try.func5, Try.ntmps5
  go_wp2_with fail
  refine (awake_any _).mono ?_
  rintro e w1 ⟨rfl, hb1⟩
  have R1 := Lib.hid (R0.out.below hb1)
  have B1 := Lib.hid hb1; clear hb1
  go_wp2_with (at_builtin; go_must (refine wpList_append_rs rfl _ _ rfl w1.heap.size (.slice (some ⟨w1.heap.size, 0, none⟩) 0 0) [] rfl (own_built w1 _ [] AllB.nil (Nat.le_refl _) (by simp)) _ l rfl (R1.out.below ((Below.refl _ _).alloc (Nat.le_refl _) _)) (by simp; omega) (by simp) ?_; intro v2 w2 hown hgr))
  rw [List.nil_append] at hown
  have B12 := below_only ((Below.refl w1.heap.size w1).alloc (Nat.le_refl _) (.cells #[] 5)) (Nat.le_refl _) hgr (fun g hg => by simp [Value.ownBlock] at hg; omega)
  have B2 := Lib.hid (B1.out.trans (B12.mono B1.out.size))
  have O2 := Lib.hid hown
  have S2 := Lib.hid B12.size
  obtain ⟨oa, oc, rfl⟩ := hown.form
  have HLT := Lib.hid (fun q hq => (O2.out.lt q hq).2)
  clear hown hgr B12 R1
  go_wp2_with fail
  refine (new_q _ _ _ O2.out.bs.rs (by omega)).mono ?_
  rintro e w3 ⟨p, v3, rfl, hp, hcell, hbs, hv3, hb3⟩
  have O3 := Lib.hid (O2.out.below hb3)
  have B3 := Lib.hid (B2.out.trans (hb3.mono B2.out.size))
  have C3 := Lib.hid hcell
  have V3 := Lib.hid hbs
  have Q3 := Lib.hid hv3
  have PP := Lib.hid hp
  have PB : w.heap.size ≤ p := Nat.le_trans B2.out.size hp
  clear hb3 hcell hbs hv3 hp O2 B2
  go_wp2_with fail
  go_loopw [7] (fun i wr => ∃ j : Nat, j ≤ l.length ∧ i = .int .i64 j ∧ ∃ l' : List Nat, l'.length = l.length ∧ Own wr w1.heap.size (.slice oa l.length oc) l' ∧ Below w.heap.size w wr ∧ wr.heap[p]? = some (.cells #[v3, .bool false] 69 (0, 0)) ∧ Bs wr v3 l) (fun i _ => l.length - (intOf i).toNat)
  case atStart => exact ⟨0, by omega, rfl, l, rfl, O3.out, B3.out, C3.out, V3.out⟩
  case round =>
    clear O3 B3 C3 V3
    obtain ⟨j, hj, rfl, l', hll, hob, hbw, hcp, hbs⟩ := hrel
    by_cases hlt : j < l.length
    · rw [← hll] at hob
      rcases hob.cases with ⟨h', hnil⟩ | ⟨g, cap', h', hg1, hg2, _, _, hcell, hfro⟩
      · rw [hnil] at hll; simp at hll; omega
      simp only [Value.slice.injEq, true_and] at h'
      obtain ⟨rfl, rfl⟩ := h'
      have hgl : g < w2.heap.size := HLT.out g rfl
      have cj := hcell j (by omega)
      have fj := hfro j
      obtain ⟨x, hx⟩ : ∃ x, x = l'.getD j 0 := ⟨_, rfl⟩
      have hx8 : x < 256 := by rw [hx]; exact hob.1.get j
      rw [← hx] at cj
      obtain ⟨y, hy⟩ : ∃ y, y = (x + 1) % 256 := ⟨_, rfl⟩
      have hyi : IntKind.u8.wrap ((x : Int) + 1) = (y : Int) := by simp only [IntKind.wrap_u8]; omega
      have hym : ((x : Int) + 1) % 256 = (y : Int) := by omega
      obtain ⟨hs1, hs2⟩ := hob.set j y (by omega)
      have J := Lib.hid (And.intro hs1 (And.intro (below_only hbw (Nat.le_refl _) hs2 (fun q hq => by cases hq; have := B1.out.size; omega)) (And.intro ((hs2.block p ((Array.getElem?_eq_some_iff.1 hcp).1) (fun e => by cases e; have := PP.out; omega)).trans hcp) (And.intro (hbs.only hs2 (by
        cases hv : v3.ownBlock with
        | none => exact .inl rfl
        | some q => exact .inr (fun e => by cases e; have := (Q3.out g hv).1; omega))) hll))))
      have nj : 0 ≤ (j : Int) := by omega
      have lj : (j : Int) < (l.length : Int) := by omega
      clear hs1 hs2 hob hbw hcp hbs hcell hfro hx hy hll
      go_wp2_with fail
      go_roundw
      case rel => exact ⟨j + 1, by omega, by go_num, l'.set j y, by rw [List.length_set]; exact J.out.2.2.2.2, by have h := J.out.1; rw [J.out.2.2.2.2] at h; first | exact h | (rw [hym]; exact h), J.out.2.1, J.out.2.2.1, J.out.2.2.2.1⟩
      case measure => simp [intOf]; omega
    · obtain rfl : j = l.length := by omega
      have hd : decide ((l.length : Int) < (l.length : Int)) = false := by simp
      have B4 := Lib.hid hbw
      have P4 := Lib.hid (show Rd wr p ⟨l, false⟩ from ⟨v3, hcp, hbs, fun b hb => (Q3.out b hb).2⟩)
      clear hob hbw hcp hbs hll hlt hj B1
      rename World => w4
      have P5 : p < w4.heap.size := (Array.getElem?_eq_some_iff.1 (P4.out.choose_spec.1)).1
      go_wp2_with fail
      have hbn : Below w4.heap.size w4 (w4.alloc (.cells #[.slice a l.length cap, .bool false] 40)) := (Below.refl _ _).alloc (Nat.le_refl _) _
      have BB := Lib.hid (B4.out.trans (hbn.mono B4.out.size))
      have RR := Lib.hid (P4.out.below hbn)
      have FF := Lib.hid (show RfAt w (w4.alloc (.cells #[.slice a l.length cap, .bool false] 40)) w4.heap.size ⟨l, false⟩ from ⟨a, cap, heap_alloc_new _ _, R0.out⟩)
      have PG : w.heap.size ≤ w4.heap.size := B4.out.size
      clear hbn B4 P4 hd
      generalize w4.alloc (.cells #[.slice a l.length cap, .bool false] 40) = W at BB RR FF ⊢
      generalize w4.heap.size = g8 at P5 PG FF ⊢
      go_loopw [9] (fun i wr => ∃ j : Nat, j ≤ ks.length ∧ i = .int .i64 j ∧ ∃ r : Wir.R, r.l.length ≤ 300 ∧ Rd wr p r ∧ RfAt w wr g8 r ∧ Below w.heap.size w wr) (fun i _ => ks.length - (intOf i).toNat)
      case atStart => exact ⟨0, by omega, rfl, _, hl, RR.out, FF.out, BB.out⟩
      case round =>
        clear RR FF BB
        obtain ⟨j, hj, rfl, r, hrl, hrd, hrf, hbw⟩ := hrel
        have R4 := Lib.hid hrd
        have F4 := Lib.hid hrf
        have B4 := Lib.hid hbw
        by_cases hlt : j < ks.length
        · obtain ⟨b, off, rfl, k1, k2⟩ := K0.out.at (i := j) hlt
          obtain ⟨bd0, bd1, bd2⟩ := K0.out.bound j
          generalize (ks.getD j (0, 0)).1 = kk at k1 bd0
          generalize (ks.getD j (0, 0)).2 = kn at k2 bd1 bd2
          have A0 := Lib.hid (fun (w' : World) (h : Below w.heap.size w w') => (h.cell (p := ⟨b, off + j * 2, none⟩) (World.block_lt_of_cell? w _ k1)).trans k1)
          have C0 := Lib.hid (fun (w' : World) (h : Below w.heap.size w w') => (h.cell (p := ⟨b, off + j * 2 + 1, none⟩) (World.block_lt_of_cell? w _ k2)).trans k2)
          have a4 := A0.out _ hbw
          have c4 := C0.out _ hbw
          have lj : (j : Int) < (ks.length : Int) := by omega
          have nj : 0 ≤ (j : Int) := by omega
          clear hrd hrf hbw k1 k2
          by_cases hk0 : kk = 0
          · subst hk0
            go_wp2_with fail
            refine (rTake_any p r kn _ R4.out (by omega) (by omega)).mono ?_
            rintro e w5 ⟨v5, rfl, ho5, hrd5, hg5⟩
            have B5 := Lib.hid (below_only B4.out (Nat.le_refl _) hg5 (fun q hq => by cases hq; exact PB))
            have F5 := Lib.hid (F4.out.same (hg5.block g8 (Array.getElem?_eq_some_iff.1 F4.out.choose_spec.choose_spec.1).1 (by intro e; cases e; omega)))
            have R5 := Lib.hid hrd5
            have O5 := Lib.hid ho5
            obtain ⟨va, vc, rfl⟩ := ho5.form
            clear hrd5 ho5 hg5 a4 c4
            go_upto_region 24 with fail
            obtain ⟨ua, uc, hf1, hf2⟩ := F5.out
            have hf3 : (w5.drewN 1).heap[g8]? = some (.cells #[.slice ua r.l.length uc, .bool r.bad] 40 (0, 0)) := hf1
            have H5 := Lib.hid hf3; clear hf1 hf3
            have U5 := Lib.hid hf2; clear hf2
            refine wp_reg Try.f5 24 12 (fun w' => Below w.heap.size w w') (by kernel_rfl) (by kernel_rfl) (by kernel_rfl) (below_drewN B5.out 1) (fun K hK h0 => ?_)
            refine reg_cast (listed' := #[false, false, false, false, false, false, false, false, false, false, false, false]) (by kernel_rfl) rfl ?_
            have HF := Lib.hid hK; clear hK
            refine reg_take 1 88 (.slice (some ⟨b, off, none⟩) ks.length kcap) (by kernel_rfl) (fun _ _ => by kernel_rfl) h0 ?_
            simp only [Act.put, List.setIfInBounds_toArray, List.set_cons_zero, List.set_cons_succ]
            refine reg_take 2 89 (.int .i64 j) (by kernel_rfl) (fun _ _ => by kernel_rfl) h0 ?_
            simp only [Act.put, List.setIfInBounds_toArray, List.set_cons_zero, List.set_cons_succ]
            refine reg_take 3 90 (.pointer (some ⟨b, off + j * 2, none⟩)) (by kernel_rfl) (fun _ _ => exec_index_op (cap := kcap) (x := .tmp 88) (y := .tmp 89) (by kernel_rfl) (by kernel_rfl) (by kernel_rfl) hlt) h0 ?_
            simp only [Act.put, List.setIfInBounds_toArray, List.set_cons_zero, List.set_cons_succ]
            refine reg_take 4 91 (.pointer (some ⟨b, off + j * 2 + 1, none⟩)) (by kernel_rfl) (fun _ _ => by kernel_rfl) h0 ?_
            simp only [Act.put, List.setIfInBounds_toArray, List.set_cons_zero, List.set_cons_succ]
            refine reg_take 5 92 (.int .i64 kn) (by kernel_rfl) (fun w' h => exec_load_i64 (.tmp 91) ⟨b, off + j * 2 + 1, none⟩ kn (by kernel_rfl) (by kernel_rfl) (C0.out w' h)) h0 ?_
            simp only [Act.put, List.setIfInBounds_toArray, List.set_cons_zero, List.set_cons_succ]
            refine reg_one 0 (by kernel_rfl) (by kernel_rfl) (q_load 87 (.tmp 8) g8 _ #[.slice ua r.l.length uc, .bool r.bad] (by kernel_rfl) (by kernel_rfl) (by kernel_rfl) H5.out rfl h0 ?_)
            simp only [Act.put, List.setIfInBounds_toArray, List.set_cons_zero, List.set_cons_succ]
            refine reg_call 6 93 25 #[rdv (.slice ua r.l.length uc) r.bad, .int .i64 kn] (by kernel_rfl) (by kernel_rfl) ?_
            refine (reftake_any w _ r kn _ U5.out h0 (by omega)).mono ?_
            rintro e w6 ⟨u6, y6, rfl, hu6, hy6, hb6⟩
            have h0 := h0.trans (hb6.mono h0.size)
            have H6 := Lib.hid ((hb6.block g8 (Array.getElem?_eq_some_iff.1 H5.out).1).trans H5.out)
            obtain ⟨u6a, u6c, rfl⟩ := hu6.form
            refine ⟨_, rfl, h0, ?_⟩
            simp only [Act.put, List.setIfInBounds_toArray, List.set_cons_zero, List.set_cons_succ]
            have hw6 : Below w5.heap.size w5 w6 := (below_drewN (Below.refl _ _) 1).trans hb6
            have R6 := Lib.hid (R5.out.below hw6)
            have U6 := Lib.hid hu6
            clear hu6
            have Y6 := Lib.hid hy6
            obtain ⟨y6a, y6c, rfl⟩ := hy6.form
            clear hb6
            refine reg_take 7 86 (.tuple #[rdv (.slice u6a (Wir.take r kn).1.l.length u6c) (Wir.take r kn).1.bad, .slice y6a (Wir.take r kn).2.length y6c]) (by kernel_rfl) (fun _ _ => by kernel_rfl) h0 ?_
            simp only [Act.put, List.setIfInBounds_toArray, List.set_cons_zero, List.set_cons_succ]
            refine reg_take 8 94 (rdv (.slice u6a (Wir.take r kn).1.l.length u6c) (Wir.take r kn).1.bad) (by kernel_rfl) (fun _ _ => by kernel_rfl) h0 ?_
            simp only [Act.put, List.setIfInBounds_toArray, List.set_cons_zero, List.set_cons_succ]
            refine reg_take 9 95 (.slice y6a (Wir.take r kn).2.length y6c) (by kernel_rfl) (fun _ _ => by kernel_rfl) h0 ?_
            simp only [Act.put, List.setIfInBounds_toArray, List.set_cons_zero, List.set_cons_succ]
            refine reg_one 10 (by kernel_rfl) (by kernel_rfl) (q_row 40 (.tmp 8) (.tmp 94) g8 #[.slice u6a (Wir.take r kn).1.l.length u6c, .bool (Wir.take r kn).1.bad] 40 #[.slice ua r.l.length uc, .bool r.bad] (by kernel_rfl) (by kernel_rfl) (by kernel_rfl) (by kernel_rfl) H6.out infoRd rfl (by simp [Value.oneCell']) PG h0 ?_)
            intro h0 H7
            simp only [Act.put, List.setIfInBounds_toArray, List.set_cons_zero, List.set_cons_succ]
            refine reg_take 11 11 (.slice y6a (Wir.take r kn).2.length y6c) (by kernel_rfl) (fun _ _ => by kernel_rfl) h0 ?_
            simp only [Act.put, List.setIfInBounds_toArray, List.set_cons_zero, List.set_cons_succ]
            refine reg_done (by kernel_rfl) (HF.out _ _ ?_)
            clear HF
            have hr3 : (Wir.take r kn).1.l.length ≤ 300 := Nat.le_trans (Wir.take_len r kn) hrl
            have hgl3 : (Wir.take r kn).2.length ≤ 300 := Nat.le_trans (Wir.take2_len r kn) hrl
            have hgw : g8 < wr.heap.size := (Array.getElem?_eq_some_iff.1 F4.out.choose_spec.choose_spec.1).1
            have hgw5 : g8 < (w5.drewN 1).heap.size := (Array.getElem?_eq_some_iff.1 H5.out).1
            have GV0 := ((O5.out.below hw6).only (only_setRow w6 g8 #[.slice u6a (Wir.take r kn).1.l.length u6c, .bool (Wir.take r kn).1.bad]) (.inr (fun e => by have := (O5.out.lt g8 e).1; omega)))
            have WV0 := (Y6.out.only (only_setRow w6 g8 #[.slice u6a (Wir.take r kn).1.l.length u6c, .bool (Wir.take r kn).1.bad]) (.inr (fun e => by have := (Y6.out.lt g8 e).1; omega)))
            have RV0 := R6.out.far (only_setRow w6 g8 #[.slice u6a (Wir.take r kn).1.l.length u6c, .bool (Wir.take r kn).1.bad]) P5
            have GV := Lib.hid GV0.bs.rs
            have GO := Lib.hid GV0
            have WV := Lib.hid WV0.bs.rs
            have RV := Lib.hid RV0
            have BV := Lib.hid h0
            have HV := Lib.hid H7
            clear GV0 WV0 RV0 h0 H7 hgw5 hy6 Y6 R6 O5 R5 B5 F5 H5 H6 hw6 U5
            generalize w6.setRow g8 #[.slice u6a (Wir.take r kn).1.l.length u6c, .bool (Wir.take r kn).1.bad] = V at GV GO WV RV BV HV ⊢
            generalize Wir.take r kn = t at *
            obtain ⟨⟨rl, rb⟩, gl⟩ := t
            go_upto_region 28 with fail
            obtain ⟨nl, hnl⟩ : ∃ n, n = rl.length := ⟨_, rfl⟩
            have hr3 : rl.length ≤ 300 := hr3
            have hgl3 : gl.length ≤ 300 := hgl3
            obtain ⟨z0, z1, _, _⟩ := two_cells HV.out
            have z0 : V.cell? ⟨g8, 0, none⟩ = some (.slice u6a nl u6c) := by rw [hnl]; exact z0
            have Z0 := Lib.hid (fun (w' : World) (h : Below V.heap.size V w') => (h.cell (p := ⟨g8, 0, none⟩) (World.block_lt_of_cell? V _ z0)).trans z0)
            have Z1 := Lib.hid (fun (w' : World) (h : Below V.heap.size V w') => (h.cell (p := ⟨g8, 1, none⟩) (World.block_lt_of_cell? V _ z1)).trans z1)
            have HNL := Lib.hid hnl
            clear z0 z1 hnl
            cases rb
            ·
              refine wp_reg Try.f5 28 38 (fun w' => Below V.heap.size V w') (by kernel_rfl) (by kernel_rfl) (by kernel_rfl) (below_drewN (Below.refl _ _) 1) (fun K hK h0 => ?_)
              refine reg_cast (listed' := #[false, false, false, false, false, false, false, false, false, false, false, false, false, false, false, false, false, false, false, false, false, false, false, false, false, false, false, false, false, false, false, false, false, false, false, false, false, false]) (by kernel_rfl) rfl ?_
              have HF := Lib.hid hK; clear hK
              refine reg_take 0 115 (.slice va gl.length vc) (by kernel_rfl) (fun _ _ => by kernel_rfl) h0 ?_
              simp only [Act.put, List.setIfInBounds_toArray, List.set_cons_zero, List.set_cons_succ]
              refine reg_take 1 116 (.slice y6a gl.length y6c) (by kernel_rfl) (fun _ _ => by kernel_rfl) h0 ?_
              simp only [Act.put, List.setIfInBounds_toArray, List.set_cons_zero, List.set_cons_succ]
              refine reg_call 2 117 17 #[.slice va gl.length vc, .slice y6a gl.length y6c] (by kernel_rfl) (by kernel_rfl) ?_
              refine (same_yes _ _ _ _ (GV.out.below h0) (WV.out.below h0)).mono ?_
              rintro e wz ⟨rfl, hbz⟩
              have h0 := below_then h0 hbz
              refine ⟨_, rfl, h0, ?_⟩
              simp only [Act.put, List.setIfInBounds_toArray, List.set_cons_zero, List.set_cons_succ]
              refine reg_take 3 118 (.bool false) (by kernel_rfl) (fun _ _ => by kernel_rfl) h0 ?_
              simp only [Act.put, List.setIfInBounds_toArray, List.set_cons_zero, List.set_cons_succ]
              refine reg_take 4 119 (.bool false) (by kernel_rfl) (fun _ _ => by kernel_rfl) h0 ?_
              simp only [Act.put, List.setIfInBounds_toArray, List.set_cons_zero, List.set_cons_succ]
              refine reg_take 5 120 (.int .u64 0) (by kernel_rfl) (fun _ _ => by kernel_rfl) h0 ?_
              simp only [Act.put, List.setIfInBounds_toArray, List.set_cons_zero, List.set_cons_succ]
              refine reg_take 6 121 (.int .u64 0) (by kernel_rfl) (fun _ _ => by kernel_rfl) h0 ?_
              simp only [Act.put, List.setIfInBounds_toArray, List.set_cons_zero, List.set_cons_succ]
              refine reg_take 7 122 (.bool false) (by kernel_rfl) (fun _ _ => exec_neq_u64 (.tmp 120) (.tmp 121) (0) (by kernel_rfl) (by kernel_rfl) (by kernel_rfl)) h0 ?_
              simp only [Act.put, List.setIfInBounds_toArray, List.set_cons_zero, List.set_cons_succ]
              refine reg_take 8 123 (.bool false) (by kernel_rfl) (fun _ _ => by kernel_rfl) h0 ?_
              simp only [Act.put, List.setIfInBounds_toArray, List.set_cons_zero, List.set_cons_succ]
              refine reg_take 9 124 (.bool false) (by kernel_rfl) (fun _ _ => by kernel_rfl) h0 ?_
              simp only [Act.put, List.setIfInBounds_toArray, List.set_cons_zero, List.set_cons_succ]
              refine reg_take 10 125 (.pointer (some ⟨p, 0, none⟩)) (by kernel_rfl) (fun _ _ => by kernel_rfl) h0 ?_
              simp only [Act.put, List.setIfInBounds_toArray, List.set_cons_zero, List.set_cons_succ]
              refine reg_take 12 127 (.pointer (some ⟨g8, 1, none⟩)) (by kernel_rfl) (fun _ _ => by kernel_rfl) h0 ?_
              simp only [Act.put, List.setIfInBounds_toArray, List.set_cons_zero, List.set_cons_succ]
              refine reg_take 13 128 (.bool false) (by kernel_rfl) (fun w' h => exec_load_bool (.tmp 127) ⟨g8, 1, none⟩ false (by kernel_rfl) (by kernel_rfl) (Z1.out w' h)) h0 ?_
              simp only [Act.put, List.setIfInBounds_toArray, List.set_cons_zero, List.set_cons_succ]
              refine reg_call 11 126 28 #[.pointer (some ⟨p, 0, none⟩)] (by kernel_rfl) (by kernel_rfl) ?_
              refine (bad_any p ⟨rl, false⟩ _ (RV.out.below h0)).mono ?_
              rintro e wz ⟨rfl, hbz⟩
              subst hbz
              refine ⟨_, rfl, h0, ?_⟩
              simp only [Act.put, List.setIfInBounds_toArray, List.set_cons_zero, List.set_cons_succ]
              refine reg_take 14 129 (.bool false) (by kernel_rfl) (fun _ _ => by kernel_rfl) h0 ?_
              simp only [Act.put, List.setIfInBounds_toArray, List.set_cons_zero, List.set_cons_succ]
              refine reg_take 15 130 (.bool false) (by kernel_rfl) (fun _ _ => by kernel_rfl) h0 ?_
              simp only [Act.put, List.setIfInBounds_toArray, List.set_cons_zero, List.set_cons_succ]
              refine reg_take 16 131 (.bool false) (by kernel_rfl) (fun _ _ => by kernel_rfl) h0 ?_
              simp only [Act.put, List.setIfInBounds_toArray, List.set_cons_zero, List.set_cons_succ]
              refine reg_take 17 132 (.pointer (some ⟨p, 0, none⟩)) (by kernel_rfl) (fun _ _ => by kernel_rfl) h0 ?_
              simp only [Act.put, List.setIfInBounds_toArray, List.set_cons_zero, List.set_cons_succ]
              refine reg_take 19 134 (.pointer (some ⟨g8, 0, none⟩)) (by kernel_rfl) (fun _ _ => by kernel_rfl) h0 ?_
              simp only [Act.put, List.setIfInBounds_toArray, List.set_cons_zero, List.set_cons_succ]
              refine reg_take 20 135 (.slice u6a nl u6c) (by kernel_rfl) (fun w' h => exec_load_sl (.tmp 134) ⟨g8, 0, none⟩ u6a nl u6c (by kernel_rfl) (by kernel_rfl) (Z0.out w' h)) h0 ?_
              simp only [Act.put, List.setIfInBounds_toArray, List.set_cons_zero, List.set_cons_succ]
              refine reg_take 21 136 (.int .i64 nl) (by kernel_rfl) (fun _ _ => by kernel_rfl) h0 ?_
              simp only [Act.put, List.setIfInBounds_toArray, List.set_cons_zero, List.set_cons_succ]
              refine reg_call 18 133 29 #[.pointer (some ⟨p, 0, none⟩)] (by kernel_rfl) (by kernel_rfl) ?_
              refine (left_any' HNL.out (RV.out.below h0)).mono ?_
              rintro e wz ⟨rfl, hbz⟩
              subst hbz
              refine ⟨_, rfl, h0, ?_⟩
              simp only [Act.put, List.setIfInBounds_toArray, List.set_cons_zero, List.set_cons_succ]
              refine reg_take 22 137 (.bool false) (by kernel_rfl) (fun _ _ => exec_neq_i64 (.tmp 133) (.tmp 136) nl (by kernel_rfl) (by kernel_rfl) (by kernel_rfl)) h0 ?_
              simp only [Act.put, List.setIfInBounds_toArray, List.set_cons_zero, List.set_cons_succ]
              refine reg_take 23 138 (.bool false) (by kernel_rfl) (fun _ _ => by kernel_rfl) h0 ?_
              simp only [Act.put, List.setIfInBounds_toArray, List.set_cons_zero, List.set_cons_succ]
              refine reg_take 24 139 (.bool false) (by kernel_rfl) (fun _ _ => by kernel_rfl) h0 ?_
              simp only [Act.put, List.setIfInBounds_toArray, List.set_cons_zero, List.set_cons_succ]
              refine reg_take 25 140 (.pointer (some ⟨p, 0, none⟩)) (by kernel_rfl) (fun _ _ => by kernel_rfl) h0 ?_
              simp only [Act.put, List.setIfInBounds_toArray, List.set_cons_zero, List.set_cons_succ]
              refine reg_take 27 142 (.pointer (some ⟨g8, 1, none⟩)) (by kernel_rfl) (fun _ _ => by kernel_rfl) h0 ?_
              simp only [Act.put, List.setIfInBounds_toArray, List.set_cons_zero, List.set_cons_succ]
              refine reg_take 28 143 (.bool false) (by kernel_rfl) (fun w' h => exec_load_bool (.tmp 142) ⟨g8, 1, none⟩ false (by kernel_rfl) (by kernel_rfl) (Z1.out w' h)) h0 ?_
              simp only [Act.put, List.setIfInBounds_toArray, List.set_cons_zero, List.set_cons_succ]
              refine reg_take 29 144 (.bool true) (by kernel_rfl) (fun _ _ => by kernel_rfl) h0 ?_
              simp only [Act.put, List.setIfInBounds_toArray, List.set_cons_zero, List.set_cons_succ]
              refine reg_call 26 141 22 #[.pointer (some ⟨p, 0, none⟩)] (by kernel_rfl) (by kernel_rfl) ?_
              refine (done_anyF HNL.out (RV.out.below h0)).mono ?_
              rintro e wz ⟨rfl, hbz⟩
              subst hbz
              refine ⟨_, rfl, h0, ?_⟩
              simp only [Act.put, List.setIfInBounds_toArray, List.set_cons_zero, List.set_cons_succ]
              refine reg_take 30 145 (.bool true) (by kernel_rfl) (fun _ _ => by kernel_rfl) h0 ?_
              simp only [Act.put, List.setIfInBounds_toArray, List.set_cons_zero, List.set_cons_succ]
              refine reg_take 31 146 (.pointer (some ⟨g8, 0, none⟩)) (by kernel_rfl) (fun _ _ => by kernel_rfl) h0 ?_
              simp only [Act.put, List.setIfInBounds_toArray, List.set_cons_zero, List.set_cons_succ]
              refine reg_take 32 147 (.slice u6a nl u6c) (by kernel_rfl) (fun w' h => exec_load_sl (.tmp 146) ⟨g8, 0, none⟩ u6a nl u6c (by kernel_rfl) (by kernel_rfl) (Z0.out w' h)) h0 ?_
              simp only [Act.put, List.setIfInBounds_toArray, List.set_cons_zero, List.set_cons_succ]
              refine reg_take 33 148 (.int .i64 nl) (by kernel_rfl) (fun _ _ => by kernel_rfl) h0 ?_
              simp only [Act.put, List.setIfInBounds_toArray, List.set_cons_zero, List.set_cons_succ]
              refine reg_take 34 149 (.bool (nl == 0)) (by kernel_rfl) (fun _ _ => exec_eql_i64z (.tmp 148) (.const (.int .i64 0)) nl (by kernel_rfl) (by kernel_rfl) (by kernel_rfl)) h0 ?_
              simp only [Act.put, List.setIfInBounds_toArray, List.set_cons_zero, List.set_cons_succ]
              refine reg_take 35 150 (.bool (nl == 0)) (by kernel_rfl) (fun _ _ => by kernel_rfl) h0 ?_
              simp only [Act.put, List.setIfInBounds_toArray, List.set_cons_zero, List.set_cons_succ]
              refine reg_take 36 151 (.bool false) (by kernel_rfl) (fun _ _ => exec_neq_bool (.tmp 141) (.tmp 150) (nl == 0) (by kernel_rfl) (by kernel_rfl) (by kernel_rfl)) h0 ?_
              simp only [Act.put, List.setIfInBounds_toArray, List.set_cons_zero, List.set_cons_succ]
              refine reg_take 37 152 (.bool false) (by kernel_rfl) (fun _ _ => by kernel_rfl) h0 ?_
              simp only [Act.put, List.setIfInBounds_toArray, List.set_cons_zero, List.set_cons_succ]
              refine reg_done (by kernel_rfl) (HF.out _ _ ?_)
              clear HF
              have E1 := Lib.hid (And.intro (GO.out.below h0) (And.intro (RV.out.below h0) (And.intro ((h0.block g8 (Array.getElem?_eq_some_iff.1 HV.out).1).trans HV.out) (BV.out.trans (h0.mono BV.out.size)))))
              clear h0 GO RV HV BV GV WV Z0 Z1
              go_wp2_with fail
              go_loopw [14] (fun i wq => ∃ m : Nat, m ≤ gl.length ∧ i = .int .i64 m ∧ ∃ l2 : List Nat, l2.length = gl.length ∧ Own wq wr.heap.size (.slice va gl.length vc) l2 ∧ Rd wq p ⟨rl, false⟩ ∧ wq.heap[g8]? = some (.cells #[.slice u6a rl.length u6c, .bool false] 40 (0, 0)) ∧ Below w.heap.size w wq) (fun i _ => gl.length - (intOf i).toNat)
              case atStart => exact ⟨0, by omega, rfl, gl, rfl, E1.out.1, E1.out.2.1, E1.out.2.2.1, E1.out.2.2.2⟩
              case round =>
                clear E1
                obtain ⟨m, hm, rfl, l2, hll, hob, hqd, hqc, hqb⟩ := hrel
                by_cases hltm : m < gl.length
                · rw [← hll] at hob
                  rcases hob.cases with ⟨h', hnil⟩ | ⟨g, cap', h', hg1, hg2, _, _, hcell, hfro⟩
                  · rw [hnil] at hll; simp at hll; omega
                  simp only [Value.slice.injEq, true_and] at h'
                  obtain ⟨rfl, rfl⟩ := h'
                  have cj := hcell m (by omega)
                  have fj := hfro m
                  obtain ⟨x, hx⟩ : ∃ x, x = l2.getD m 0 := ⟨_, rfl⟩
                  have hx8 : x < 256 := by rw [hx]; exact hob.1.get m
                  rw [← hx] at cj
                  obtain ⟨y, hy⟩ : ∃ y, y = (x + 1) % 256 := ⟨_, rfl⟩
                  have hyi : IntKind.u8.wrap ((x : Int) + 1) = (y : Int) := by simp only [IntKind.wrap_u8]; omega
                  have hym : ((x : Int) + 1) % 256 = (y : Int) := by omega
                  obtain ⟨hs1, hs2⟩ := hob.set m y (by omega)
                  have J := Lib.hid (And.intro hs1 (And.intro (hqd.far hs2 (by omega)) (And.intro ((hs2.block g8 ((Array.getElem?_eq_some_iff.1 hqc).1) (fun e => by cases e; omega)).trans hqc) (And.intro (below_only hqb (Nat.le_refl _) hs2 (fun q hq => by cases hq; omega)) hll))))
                  have nj : 0 ≤ (m : Int) := by omega
                  have lj : (m : Int) < (gl.length : Int) := by omega
                  clear hs1 hs2 hob hqd hqc hqb hcell hfro hx hy hll
                  go_wp2_with fail
                  go_roundw
                  case rel => exact ⟨m + 1, by omega, by go_num, l2.set m y, by rw [List.length_set]; exact J.out.2.2.2.2, by have h := J.out.1; rw [J.out.2.2.2.2] at h; first | exact h | (rw [hym]; exact h), J.out.2.1, J.out.2.2.1, J.out.2.2.2.1⟩
                  case measure => simp [intOf]; omega
                · obtain rfl : m = gl.length := by omega
                  have hd : decide ((gl.length : Int) < (gl.length : Int)) = false := by simp
                  have J := Lib.hid (And.intro hqd (And.intro hqc hqb))
                  clear hob hqd hqc hqb hll hltm hm
                  go_wp2_with fail
                  go_roundw
                  case rel => exact ⟨j + 1, by omega, by go_num, ⟨rl, false⟩, hr3, J.out.1, ⟨_, _, J.out.2.1, U6.out⟩, J.out.2.2⟩
                  case measure => simp [intOf]; omega
            ·
              refine wp_reg Try.f5 28 38 (fun w' => Below V.heap.size V w') (by kernel_rfl) (by kernel_rfl) (by kernel_rfl) (below_drewN (Below.refl _ _) 1) (fun K hK h0 => ?_)
              refine reg_cast (listed' := #[false, false, false, false, false, false, false, false, false, false, false, false, false, false, false, false, false, false, false, false, false, false, false, false, false, false, false, false, false, false, false, false, false, false, false, false, false, false]) (by kernel_rfl) rfl ?_
              have HF := Lib.hid hK; clear hK
              refine reg_take 0 115 (.slice va gl.length vc) (by kernel_rfl) (fun _ _ => by kernel_rfl) h0 ?_
              simp only [Act.put, List.setIfInBounds_toArray, List.set_cons_zero, List.set_cons_succ]
              refine reg_take 1 116 (.slice y6a gl.length y6c) (by kernel_rfl) (fun _ _ => by kernel_rfl) h0 ?_
              simp only [Act.put, List.setIfInBounds_toArray, List.set_cons_zero, List.set_cons_succ]
              refine reg_call 2 117 17 #[.slice va gl.length vc, .slice y6a gl.length y6c] (by kernel_rfl) (by kernel_rfl) ?_
              refine (same_yes _ _ _ _ (GV.out.below h0) (WV.out.below h0)).mono ?_
              rintro e wz ⟨rfl, hbz⟩
              have h0 := below_then h0 hbz
              refine ⟨_, rfl, h0, ?_⟩
              simp only [Act.put, List.setIfInBounds_toArray, List.set_cons_zero, List.set_cons_succ]
              refine reg_take 3 118 (.bool false) (by kernel_rfl) (fun _ _ => by kernel_rfl) h0 ?_
              simp only [Act.put, List.setIfInBounds_toArray, List.set_cons_zero, List.set_cons_succ]
              refine reg_take 4 119 (.bool false) (by kernel_rfl) (fun _ _ => by kernel_rfl) h0 ?_
              simp only [Act.put, List.setIfInBounds_toArray, List.set_cons_zero, List.set_cons_succ]
              refine reg_take 5 120 (.int .u64 0) (by kernel_rfl) (fun _ _ => by kernel_rfl) h0 ?_
              simp only [Act.put, List.setIfInBounds_toArray, List.set_cons_zero, List.set_cons_succ]
              refine reg_take 6 121 (.int .u64 0) (by kernel_rfl) (fun _ _ => by kernel_rfl) h0 ?_
              simp only [Act.put, List.setIfInBounds_toArray, List.set_cons_zero, List.set_cons_succ]
              refine reg_take 7 122 (.bool false) (by kernel_rfl) (fun _ _ => exec_neq_u64 (.tmp 120) (.tmp 121) (0) (by kernel_rfl) (by kernel_rfl) (by kernel_rfl)) h0 ?_
              simp only [Act.put, List.setIfInBounds_toArray, List.set_cons_zero, List.set_cons_succ]
              refine reg_take 8 123 (.bool false) (by kernel_rfl) (fun _ _ => by kernel_rfl) h0 ?_
              simp only [Act.put, List.setIfInBounds_toArray, List.set_cons_zero, List.set_cons_succ]
              refine reg_take 9 124 (.bool false) (by kernel_rfl) (fun _ _ => by kernel_rfl) h0 ?_
              simp only [Act.put, List.setIfInBounds_toArray, List.set_cons_zero, List.set_cons_succ]
              refine reg_take 10 125 (.pointer (some ⟨p, 0, none⟩)) (by kernel_rfl) (fun _ _ => by kernel_rfl) h0 ?_
              simp only [Act.put, List.setIfInBounds_toArray, List.set_cons_zero, List.set_cons_succ]
              refine reg_take 12 127 (.pointer (some ⟨g8, 1, none⟩)) (by kernel_rfl) (fun _ _ => by kernel_rfl) h0 ?_
              simp only [Act.put, List.setIfInBounds_toArray, List.set_cons_zero, List.set_cons_succ]
              refine reg_take 13 128 (.bool true) (by kernel_rfl) (fun w' h => exec_load_bool (.tmp 127) ⟨g8, 1, none⟩ true (by kernel_rfl) (by kernel_rfl) (Z1.out w' h)) h0 ?_
              simp only [Act.put, List.setIfInBounds_toArray, List.set_cons_zero, List.set_cons_succ]
              refine reg_call 11 126 28 #[.pointer (some ⟨p, 0, none⟩)] (by kernel_rfl) (by kernel_rfl) ?_
              refine (bad_any p ⟨rl, true⟩ _ (RV.out.below h0)).mono ?_
              rintro e wz ⟨rfl, hbz⟩
              subst hbz
              refine ⟨_, rfl, h0, ?_⟩
              simp only [Act.put, List.setIfInBounds_toArray, List.set_cons_zero, List.set_cons_succ]
              refine reg_take 14 129 (.bool false) (by kernel_rfl) (fun _ _ => by kernel_rfl) h0 ?_
              simp only [Act.put, List.setIfInBounds_toArray, List.set_cons_zero, List.set_cons_succ]
              refine reg_take 15 130 (.bool false) (by kernel_rfl) (fun _ _ => by kernel_rfl) h0 ?_
              simp only [Act.put, List.setIfInBounds_toArray, List.set_cons_zero, List.set_cons_succ]
              refine reg_take 16 131 (.bool false) (by kernel_rfl) (fun _ _ => by kernel_rfl) h0 ?_
              simp only [Act.put, List.setIfInBounds_toArray, List.set_cons_zero, List.set_cons_succ]
              refine reg_take 17 132 (.pointer (some ⟨p, 0, none⟩)) (by kernel_rfl) (fun _ _ => by kernel_rfl) h0 ?_
              simp only [Act.put, List.setIfInBounds_toArray, List.set_cons_zero, List.set_cons_succ]
              refine reg_take 19 134 (.pointer (some ⟨g8, 0, none⟩)) (by kernel_rfl) (fun _ _ => by kernel_rfl) h0 ?_
              simp only [Act.put, List.setIfInBounds_toArray, List.set_cons_zero, List.set_cons_succ]
              refine reg_take 20 135 (.slice u6a nl u6c) (by kernel_rfl) (fun w' h => exec_load_sl (.tmp 134) ⟨g8, 0, none⟩ u6a nl u6c (by kernel_rfl) (by kernel_rfl) (Z0.out w' h)) h0 ?_
              simp only [Act.put, List.setIfInBounds_toArray, List.set_cons_zero, List.set_cons_succ]
              refine reg_take 21 136 (.int .i64 nl) (by kernel_rfl) (fun _ _ => by kernel_rfl) h0 ?_
              simp only [Act.put, List.setIfInBounds_toArray, List.set_cons_zero, List.set_cons_succ]
              refine reg_call 18 133 29 #[.pointer (some ⟨p, 0, none⟩)] (by kernel_rfl) (by kernel_rfl) ?_
              refine (left_any' HNL.out (RV.out.below h0)).mono ?_
              rintro e wz ⟨rfl, hbz⟩
              subst hbz
              refine ⟨_, rfl, h0, ?_⟩
              simp only [Act.put, List.setIfInBounds_toArray, List.set_cons_zero, List.set_cons_succ]
              refine reg_take 22 137 (.bool false) (by kernel_rfl) (fun _ _ => exec_neq_i64 (.tmp 133) (.tmp 136) nl (by kernel_rfl) (by kernel_rfl) (by kernel_rfl)) h0 ?_
              simp only [Act.put, List.setIfInBounds_toArray, List.set_cons_zero, List.set_cons_succ]
              refine reg_take 23 138 (.bool false) (by kernel_rfl) (fun _ _ => by kernel_rfl) h0 ?_
              simp only [Act.put, List.setIfInBounds_toArray, List.set_cons_zero, List.set_cons_succ]
              refine reg_take 24 139 (.bool false) (by kernel_rfl) (fun _ _ => by kernel_rfl) h0 ?_
              simp only [Act.put, List.setIfInBounds_toArray, List.set_cons_zero, List.set_cons_succ]
              refine reg_take 25 140 (.pointer (some ⟨p, 0, none⟩)) (by kernel_rfl) (fun _ _ => by kernel_rfl) h0 ?_
              simp only [Act.put, List.setIfInBounds_toArray, List.set_cons_zero, List.set_cons_succ]
              refine reg_take 27 142 (.pointer (some ⟨g8, 1, none⟩)) (by kernel_rfl) (fun _ _ => by kernel_rfl) h0 ?_
              simp only [Act.put, List.setIfInBounds_toArray, List.set_cons_zero, List.set_cons_succ]
              refine reg_take 28 143 (.bool true) (by kernel_rfl) (fun w' h => exec_load_bool (.tmp 142) ⟨g8, 1, none⟩ true (by kernel_rfl) (by kernel_rfl) (Z1.out w' h)) h0 ?_
              simp only [Act.put, List.setIfInBounds_toArray, List.set_cons_zero, List.set_cons_succ]
              refine reg_take 29 144 (.bool false) (by kernel_rfl) (fun _ _ => by kernel_rfl) h0 ?_
              simp only [Act.put, List.setIfInBounds_toArray, List.set_cons_zero, List.set_cons_succ]
              refine reg_call 26 141 22 #[.pointer (some ⟨p, 0, none⟩)] (by kernel_rfl) (by kernel_rfl) ?_
              refine (done_anyT (RV.out.below h0)).mono ?_
              rintro e wz ⟨rfl, hbz⟩
              subst hbz
              refine ⟨_, rfl, h0, ?_⟩
              simp only [Act.put, List.setIfInBounds_toArray, List.set_cons_zero, List.set_cons_succ]
              refine reg_take 30 145 (.bool false) (by kernel_rfl) (fun _ _ => by kernel_rfl) h0 ?_
              simp only [Act.put, List.setIfInBounds_toArray, List.set_cons_zero, List.set_cons_succ]
              refine reg_off 31 146 (by kernel_rfl) h0 ?_
              simp only [Act.put, List.setIfInBounds_toArray, List.set_cons_zero, List.set_cons_succ]
              refine reg_off 32 147 (by kernel_rfl) h0 ?_
              simp only [Act.put, List.setIfInBounds_toArray, List.set_cons_zero, List.set_cons_succ]
              refine reg_off 33 148 (by kernel_rfl) h0 ?_
              simp only [Act.put, List.setIfInBounds_toArray, List.set_cons_zero, List.set_cons_succ]
              refine reg_off 34 149 (by kernel_rfl) h0 ?_
              simp only [Act.put, List.setIfInBounds_toArray, List.set_cons_zero, List.set_cons_succ]
              refine reg_take 35 150 (.bool false) (by kernel_rfl) (fun _ _ => by kernel_rfl) h0 ?_
              simp only [Act.put, List.setIfInBounds_toArray, List.set_cons_zero, List.set_cons_succ]
              refine reg_take 36 151 (.bool false) (by kernel_rfl) (fun _ _ => exec_neq_bool (.tmp 141) (.tmp 150) false (by kernel_rfl) (by kernel_rfl) (by kernel_rfl)) h0 ?_
              simp only [Act.put, List.setIfInBounds_toArray, List.set_cons_zero, List.set_cons_succ]
              refine reg_take 37 152 (.bool false) (by kernel_rfl) (fun _ _ => by kernel_rfl) h0 ?_
              simp only [Act.put, List.setIfInBounds_toArray, List.set_cons_zero, List.set_cons_succ]
              refine reg_done (by kernel_rfl) (HF.out _ _ ?_)
              clear HF
              have E1 := Lib.hid (And.intro (GO.out.below h0) (And.intro (RV.out.below h0) (And.intro ((h0.block g8 (Array.getElem?_eq_some_iff.1 HV.out).1).trans HV.out) (BV.out.trans (h0.mono BV.out.size)))))
              clear h0 GO RV HV BV GV WV Z0 Z1
              go_wp2_with fail
              go_loopw [14] (fun i wq => ∃ m : Nat, m ≤ gl.length ∧ i = .int .i64 m ∧ ∃ l2 : List Nat, l2.length = gl.length ∧ Own wq wr.heap.size (.slice va gl.length vc) l2 ∧ Rd wq p ⟨rl, true⟩ ∧ wq.heap[g8]? = some (.cells #[.slice u6a rl.length u6c, .bool true] 40 (0, 0)) ∧ Below w.heap.size w wq) (fun i _ => gl.length - (intOf i).toNat)
              case atStart => exact ⟨0, by omega, rfl, gl, rfl, E1.out.1, E1.out.2.1, E1.out.2.2.1, E1.out.2.2.2⟩
              case round =>
                clear E1
                obtain ⟨m, hm, rfl, l2, hll, hob, hqd, hqc, hqb⟩ := hrel
                by_cases hltm : m < gl.length
                · rw [← hll] at hob
                  rcases hob.cases with ⟨h', hnil⟩ | ⟨g, cap', h', hg1, hg2, _, _, hcell, hfro⟩
                  · rw [hnil] at hll; simp at hll; omega
                  simp only [Value.slice.injEq, true_and] at h'
                  obtain ⟨rfl, rfl⟩ := h'
                  have cj := hcell m (by omega)
                  have fj := hfro m
                  obtain ⟨x, hx⟩ : ∃ x, x = l2.getD m 0 := ⟨_, rfl⟩
                  have hx8 : x < 256 := by rw [hx]; exact hob.1.get m
                  rw [← hx] at cj
                  obtain ⟨y, hy⟩ : ∃ y, y = (x + 1) % 256 := ⟨_, rfl⟩
                  have hyi : IntKind.u8.wrap ((x : Int) + 1) = (y : Int) := by simp only [IntKind.wrap_u8]; omega
                  have hym : ((x : Int) + 1) % 256 = (y : Int) := by omega
                  obtain ⟨hs1, hs2⟩ := hob.set m y (by omega)
                  have J := Lib.hid (And.intro hs1 (And.intro (hqd.far hs2 (by omega)) (And.intro ((hs2.block g8 ((Array.getElem?_eq_some_iff.1 hqc).1) (fun e => by cases e; omega)).trans hqc) (And.intro (below_only hqb (Nat.le_refl _) hs2 (fun q hq => by cases hq; omega)) hll))))
                  have nj : 0 ≤ (m : Int) := by omega
                  have lj : (m : Int) < (gl.length : Int) := by omega
                  clear hs1 hs2 hob hqd hqc hqb hcell hfro hx hy hll
                  go_wp2_with fail
                  go_roundw
                  case rel => exact ⟨m + 1, by omega, by go_num, l2.set m y, by rw [List.length_set]; exact J.out.2.2.2.2, by have h := J.out.1; rw [J.out.2.2.2.2] at h; first | exact h | (rw [hym]; exact h), J.out.2.1, J.out.2.2.1, J.out.2.2.2.1⟩
                  case measure => simp [intOf]; omega
                · obtain rfl : m = gl.length := by omega
                  have hd : decide ((gl.length : Int) < (gl.length : Int)) = false := by simp
                  have J := Lib.hid (And.intro hqd (And.intro hqc hqb))
                  clear hob hqd hqc hqb hll hltm hm
                  go_wp2_with fail
                  go_roundw
                  case rel => exact ⟨j + 1, by omega, by go_num, ⟨rl, true⟩, hr3, J.out.1, ⟨_, _, J.out.2.1, U6.out⟩, J.out.2.2⟩
                  case measure => simp [intOf]; omega
          · by_cases hk1 : kk = 1
            ·
              subst hk1
              go_wp2_with fail
              refine (rNumber_num p r kn _ R4.out).mono ?_
              rintro e w5 ⟨rfl, hrd5, hg5⟩
              have B5 := Lib.hid (below_only B4.out (Nat.le_refl _) hg5 (fun q hq => by cases hq; exact PB))
              have F5 := Lib.hid (F4.out.same (hg5.block g8 (Array.getElem?_eq_some_iff.1 F4.out.choose_spec.choose_spec.1).1 (by intro e; cases e; omega)))
              have R5 := Lib.hid hrd5
              clear hrd5 hg5 a4 c4
              go_upto_region 27 with fail
              obtain ⟨ua, uc, hf1, hf2⟩ := F5.out
              have hf3 : (w5.drewN 1).heap[g8]? = some (.cells #[.slice ua r.l.length uc, .bool r.bad] 40 (0, 0)) := hf1
              have H5 := Lib.hid hf3; clear hf1 hf3
              have U5 := Lib.hid hf2; clear hf2
              refine wp_reg Try.f5 27 12 (fun w' => Below w.heap.size w w') (by kernel_rfl) (by kernel_rfl) (by kernel_rfl) (below_drewN B5.out 1) (fun K hK h0 => ?_)
              refine reg_cast (listed' := #[false, false, false, false, false, false, false, false, false, false, false, false]) (by kernel_rfl) rfl ?_
              have HF := Lib.hid hK; clear hK
              refine reg_take 1 107 (.slice (some ⟨b, off, none⟩) ks.length kcap) (by kernel_rfl) (fun _ _ => by kernel_rfl) h0 ?_
              simp only [Act.put, List.setIfInBounds_toArray, List.set_cons_zero, List.set_cons_succ]
              refine reg_take 2 108 (.int .i64 j) (by kernel_rfl) (fun _ _ => by kernel_rfl) h0 ?_
              simp only [Act.put, List.setIfInBounds_toArray, List.set_cons_zero, List.set_cons_succ]
              refine reg_take 3 109 (.pointer (some ⟨b, off + j * 2, none⟩)) (by kernel_rfl) (fun _ _ => exec_index_op (cap := kcap) (x := .tmp 107) (y := .tmp 108) (by kernel_rfl) (by kernel_rfl) (by kernel_rfl) hlt) h0 ?_
              simp only [Act.put, List.setIfInBounds_toArray, List.set_cons_zero, List.set_cons_succ]
              refine reg_take 4 110 (.pointer (some ⟨b, off + j * 2 + 1, none⟩)) (by kernel_rfl) (fun _ _ => by kernel_rfl) h0 ?_
              simp only [Act.put, List.setIfInBounds_toArray, List.set_cons_zero, List.set_cons_succ]
              refine reg_take 5 111 (.int .i64 kn) (by kernel_rfl) (fun w' h => exec_load_i64 (.tmp 110) ⟨b, off + j * 2 + 1, none⟩ kn (by kernel_rfl) (by kernel_rfl) (C0.out w' h)) h0 ?_
              simp only [Act.put, List.setIfInBounds_toArray, List.set_cons_zero, List.set_cons_succ]
              refine reg_one 0 (by kernel_rfl) (by kernel_rfl) (q_load 106 (.tmp 8) g8 _ #[.slice ua r.l.length uc, .bool r.bad] (by kernel_rfl) (by kernel_rfl) (by kernel_rfl) H5.out rfl h0 ?_)
              simp only [Act.put, List.setIfInBounds_toArray, List.set_cons_zero, List.set_cons_succ]
              refine reg_call 6 112 26 #[rdv (.slice ua r.l.length uc) r.bad, .int .i64 kn] (by kernel_rfl) (by kernel_rfl) ?_
              refine (refnum_any w _ r kn _ U5.out h0 (by omega)).mono ?_
              rintro e w6 ⟨u6, rfl, hu6, hb6⟩
              have h0 := h0.trans (hb6.mono h0.size)
              have H6 := Lib.hid ((hb6.block g8 (Array.getElem?_eq_some_iff.1 H5.out).1).trans H5.out)
              obtain ⟨u6a, u6c, rfl⟩ := hu6.form
              refine ⟨_, rfl, h0, ?_⟩
              simp only [Act.put, List.setIfInBounds_toArray, List.set_cons_zero, List.set_cons_succ]
              have hw6 : Below w5.heap.size w5 w6 := (below_drewN (Below.refl _ _) 1).trans hb6
              have R6 := Lib.hid (R5.out.below hw6)
              have U6 := Lib.hid hu6
              clear hu6
              clear hb6
              refine reg_take 7 105 (.tuple #[rdv (.slice u6a (Wir.num r kn).1.l.length u6c) (Wir.num r kn).1.bad, .int .u64 ((Wir.num r kn).2 : Int)]) (by kernel_rfl) (fun _ _ => by kernel_rfl) h0 ?_
              simp only [Act.put, List.setIfInBounds_toArray, List.set_cons_zero, List.set_cons_succ]
              refine reg_take 8 113 (rdv (.slice u6a (Wir.num r kn).1.l.length u6c) (Wir.num r kn).1.bad) (by kernel_rfl) (fun _ _ => by kernel_rfl) h0 ?_
              simp only [Act.put, List.setIfInBounds_toArray, List.set_cons_zero, List.set_cons_succ]
              refine reg_take 9 114 (.int .u64 ((Wir.num r kn).2 : Int)) (by kernel_rfl) (fun _ _ => by kernel_rfl) h0 ?_
              simp only [Act.put, List.setIfInBounds_toArray, List.set_cons_zero, List.set_cons_succ]
              refine reg_one 10 (by kernel_rfl) (by kernel_rfl) (q_row 40 (.tmp 8) (.tmp 113) g8 #[.slice u6a (Wir.num r kn).1.l.length u6c, .bool (Wir.num r kn).1.bad] 40 #[.slice ua r.l.length uc, .bool r.bad] (by kernel_rfl) (by kernel_rfl) (by kernel_rfl) (by kernel_rfl) H6.out infoRd rfl (by simp [Value.oneCell']) PG h0 ?_)
              intro h0 H7
              simp only [Act.put, List.setIfInBounds_toArray, List.set_cons_zero, List.set_cons_succ]
              refine reg_take 11 13 (.int .u64 ((Wir.num r kn).2 : Int)) (by kernel_rfl) (fun _ _ => by kernel_rfl) h0 ?_
              simp only [Act.put, List.setIfInBounds_toArray, List.set_cons_zero, List.set_cons_succ]
              refine reg_done (by kernel_rfl) (HF.out _ _ ?_)
              clear HF
              have hr3 : (Wir.num r kn).1.l.length ≤ 300 := Nat.le_trans (num_len r kn) hrl
              have RV0 := R6.out.far (only_setRow w6 g8 #[.slice u6a (Wir.num r kn).1.l.length u6c, .bool (Wir.num r kn).1.bad]) P5
              have RV := Lib.hid RV0
              have BV := Lib.hid h0
              have HV := Lib.hid H7
              clear RV0 h0 H7 R6 R5 B5 F5 H5 H6 hw6 U5
              generalize w6.setRow g8 #[.slice u6a (Wir.num r kn).1.l.length u6c, .bool (Wir.num r kn).1.bad] = V at RV BV HV ⊢
              generalize Wir.num r kn = t at *
              obtain ⟨⟨rl, rb⟩, xn⟩ := t
              go_upto_region 28 with fail
              obtain ⟨nl, hnl⟩ : ∃ n, n = rl.length := ⟨_, rfl⟩
              have hr3 : rl.length ≤ 300 := hr3
              have GV := Lib.hid (Bs.nil V).rs
              have WV := Lib.hid (Bs.nil V).rs
              obtain ⟨z0, z1, _, _⟩ := two_cells HV.out
              have z0 : V.cell? ⟨g8, 0, none⟩ = some (.slice u6a nl u6c) := by rw [hnl]; exact z0
              have Z0 := Lib.hid (fun (w' : World) (h : Below V.heap.size V w') => (h.cell (p := ⟨g8, 0, none⟩) (World.block_lt_of_cell? V _ z0)).trans z0)
              have Z1 := Lib.hid (fun (w' : World) (h : Below V.heap.size V w') => (h.cell (p := ⟨g8, 1, none⟩) (World.block_lt_of_cell? V _ z1)).trans z1)
              have HNL := Lib.hid hnl
              clear z0 z1 hnl
              cases rb
              ·
                refine wp_reg Try.f5 28 38 (fun w' => Below V.heap.size V w') (by kernel_rfl) (by kernel_rfl) (by kernel_rfl) (below_drewN (Below.refl _ _) 1) (fun K hK h0 => ?_)
                refine reg_cast (listed' := #[false, false, false, false, false, false, false, false, false, false, false, false, false, false, false, false, false, false, false, false, false, false, false, false, false, false, false, false, false, false, false, false, false, false, false, false, false, false]) (by kernel_rfl) rfl ?_
                have HF := Lib.hid hK; clear hK
                refine reg_take 0 115 (.slice none 0 0) (by kernel_rfl) (fun _ _ => by kernel_rfl) h0 ?_
                simp only [Act.put, List.setIfInBounds_toArray, List.set_cons_zero, List.set_cons_succ]
                refine reg_take 1 116 (.slice none 0 0) (by kernel_rfl) (fun _ _ => by kernel_rfl) h0 ?_
                simp only [Act.put, List.setIfInBounds_toArray, List.set_cons_zero, List.set_cons_succ]
                refine reg_call 2 117 17 #[.slice none 0 0, .slice none 0 0] (by kernel_rfl) (by kernel_rfl) ?_
                refine (same_yes _ _ _ _ (GV.out.below h0) (WV.out.below h0)).mono ?_
                rintro e wz ⟨rfl, hbz⟩
                have h0 := below_then h0 hbz
                refine ⟨_, rfl, h0, ?_⟩
                simp only [Act.put, List.setIfInBounds_toArray, List.set_cons_zero, List.set_cons_succ]
                refine reg_take 3 118 (.bool false) (by kernel_rfl) (fun _ _ => by kernel_rfl) h0 ?_
                simp only [Act.put, List.setIfInBounds_toArray, List.set_cons_zero, List.set_cons_succ]
                refine reg_take 4 119 (.bool false) (by kernel_rfl) (fun _ _ => by kernel_rfl) h0 ?_
                simp only [Act.put, List.setIfInBounds_toArray, List.set_cons_zero, List.set_cons_succ]
                refine reg_take 5 120 (.int .u64 (xn : Int)) (by kernel_rfl) (fun _ _ => by kernel_rfl) h0 ?_
                simp only [Act.put, List.setIfInBounds_toArray, List.set_cons_zero, List.set_cons_succ]
                refine reg_take 6 121 (.int .u64 (xn : Int)) (by kernel_rfl) (fun _ _ => by kernel_rfl) h0 ?_
                simp only [Act.put, List.setIfInBounds_toArray, List.set_cons_zero, List.set_cons_succ]
                refine reg_take 7 122 (.bool false) (by kernel_rfl) (fun _ _ => exec_neq_u64 (.tmp 120) (.tmp 121) ((xn : Int)) (by kernel_rfl) (by kernel_rfl) (by kernel_rfl)) h0 ?_
                simp only [Act.put, List.setIfInBounds_toArray, List.set_cons_zero, List.set_cons_succ]
                refine reg_take 8 123 (.bool false) (by kernel_rfl) (fun _ _ => by kernel_rfl) h0 ?_
                simp only [Act.put, List.setIfInBounds_toArray, List.set_cons_zero, List.set_cons_succ]
                refine reg_take 9 124 (.bool false) (by kernel_rfl) (fun _ _ => by kernel_rfl) h0 ?_
                simp only [Act.put, List.setIfInBounds_toArray, List.set_cons_zero, List.set_cons_succ]
                refine reg_take 10 125 (.pointer (some ⟨p, 0, none⟩)) (by kernel_rfl) (fun _ _ => by kernel_rfl) h0 ?_
                simp only [Act.put, List.setIfInBounds_toArray, List.set_cons_zero, List.set_cons_succ]
                refine reg_take 12 127 (.pointer (some ⟨g8, 1, none⟩)) (by kernel_rfl) (fun _ _ => by kernel_rfl) h0 ?_
                simp only [Act.put, List.setIfInBounds_toArray, List.set_cons_zero, List.set_cons_succ]
                refine reg_take 13 128 (.bool false) (by kernel_rfl) (fun w' h => exec_load_bool (.tmp 127) ⟨g8, 1, none⟩ false (by kernel_rfl) (by kernel_rfl) (Z1.out w' h)) h0 ?_
                simp only [Act.put, List.setIfInBounds_toArray, List.set_cons_zero, List.set_cons_succ]
                refine reg_call 11 126 28 #[.pointer (some ⟨p, 0, none⟩)] (by kernel_rfl) (by kernel_rfl) ?_
                refine (bad_any p ⟨rl, false⟩ _ (RV.out.below h0)).mono ?_
                rintro e wz ⟨rfl, hbz⟩
                subst hbz
                refine ⟨_, rfl, h0, ?_⟩
                simp only [Act.put, List.setIfInBounds_toArray, List.set_cons_zero, List.set_cons_succ]
                refine reg_take 14 129 (.bool false) (by kernel_rfl) (fun _ _ => by kernel_rfl) h0 ?_
                simp only [Act.put, List.setIfInBounds_toArray, List.set_cons_zero, List.set_cons_succ]
                refine reg_take 15 130 (.bool false) (by kernel_rfl) (fun _ _ => by kernel_rfl) h0 ?_
                simp only [Act.put, List.setIfInBounds_toArray, List.set_cons_zero, List.set_cons_succ]
                refine reg_take 16 131 (.bool false) (by kernel_rfl) (fun _ _ => by kernel_rfl) h0 ?_
                simp only [Act.put, List.setIfInBounds_toArray, List.set_cons_zero, List.set_cons_succ]
                refine reg_take 17 132 (.pointer (some ⟨p, 0, none⟩)) (by kernel_rfl) (fun _ _ => by kernel_rfl) h0 ?_
                simp only [Act.put, List.setIfInBounds_toArray, List.set_cons_zero, List.set_cons_succ]
                refine reg_take 19 134 (.pointer (some ⟨g8, 0, none⟩)) (by kernel_rfl) (fun _ _ => by kernel_rfl) h0 ?_
                simp only [Act.put, List.setIfInBounds_toArray, List.set_cons_zero, List.set_cons_succ]
                refine reg_take 20 135 (.slice u6a nl u6c) (by kernel_rfl) (fun w' h => exec_load_sl (.tmp 134) ⟨g8, 0, none⟩ u6a nl u6c (by kernel_rfl) (by kernel_rfl) (Z0.out w' h)) h0 ?_
                simp only [Act.put, List.setIfInBounds_toArray, List.set_cons_zero, List.set_cons_succ]
                refine reg_take 21 136 (.int .i64 nl) (by kernel_rfl) (fun _ _ => by kernel_rfl) h0 ?_
                simp only [Act.put, List.setIfInBounds_toArray, List.set_cons_zero, List.set_cons_succ]
                refine reg_call 18 133 29 #[.pointer (some ⟨p, 0, none⟩)] (by kernel_rfl) (by kernel_rfl) ?_
                refine (left_any' HNL.out (RV.out.below h0)).mono ?_
                rintro e wz ⟨rfl, hbz⟩
                subst hbz
                refine ⟨_, rfl, h0, ?_⟩
                simp only [Act.put, List.setIfInBounds_toArray, List.set_cons_zero, List.set_cons_succ]
                refine reg_take 22 137 (.bool false) (by kernel_rfl) (fun _ _ => exec_neq_i64 (.tmp 133) (.tmp 136) nl (by kernel_rfl) (by kernel_rfl) (by kernel_rfl)) h0 ?_
                simp only [Act.put, List.setIfInBounds_toArray, List.set_cons_zero, List.set_cons_succ]
                refine reg_take 23 138 (.bool false) (by kernel_rfl) (fun _ _ => by kernel_rfl) h0 ?_
                simp only [Act.put, List.setIfInBounds_toArray, List.set_cons_zero, List.set_cons_succ]
                refine reg_take 24 139 (.bool false) (by kernel_rfl) (fun _ _ => by kernel_rfl) h0 ?_
                simp only [Act.put, List.setIfInBounds_toArray, List.set_cons_zero, List.set_cons_succ]
                refine reg_take 25 140 (.pointer (some ⟨p, 0, none⟩)) (by kernel_rfl) (fun _ _ => by kernel_rfl) h0 ?_
                simp only [Act.put, List.setIfInBounds_toArray, List.set_cons_zero, List.set_cons_succ]
                refine reg_take 27 142 (.pointer (some ⟨g8, 1, none⟩)) (by kernel_rfl) (fun _ _ => by kernel_rfl) h0 ?_
                simp only [Act.put, List.setIfInBounds_toArray, List.set_cons_zero, List.set_cons_succ]
                refine reg_take 28 143 (.bool false) (by kernel_rfl) (fun w' h => exec_load_bool (.tmp 142) ⟨g8, 1, none⟩ false (by kernel_rfl) (by kernel_rfl) (Z1.out w' h)) h0 ?_
                simp only [Act.put, List.setIfInBounds_toArray, List.set_cons_zero, List.set_cons_succ]
                refine reg_take 29 144 (.bool true) (by kernel_rfl) (fun _ _ => by kernel_rfl) h0 ?_
                simp only [Act.put, List.setIfInBounds_toArray, List.set_cons_zero, List.set_cons_succ]
                refine reg_call 26 141 22 #[.pointer (some ⟨p, 0, none⟩)] (by kernel_rfl) (by kernel_rfl) ?_
                refine (done_anyF HNL.out (RV.out.below h0)).mono ?_
                rintro e wz ⟨rfl, hbz⟩
                subst hbz
                refine ⟨_, rfl, h0, ?_⟩
                simp only [Act.put, List.setIfInBounds_toArray, List.set_cons_zero, List.set_cons_succ]
                refine reg_take 30 145 (.bool true) (by kernel_rfl) (fun _ _ => by kernel_rfl) h0 ?_
                simp only [Act.put, List.setIfInBounds_toArray, List.set_cons_zero, List.set_cons_succ]
                refine reg_take 31 146 (.pointer (some ⟨g8, 0, none⟩)) (by kernel_rfl) (fun _ _ => by kernel_rfl) h0 ?_
                simp only [Act.put, List.setIfInBounds_toArray, List.set_cons_zero, List.set_cons_succ]
                refine reg_take 32 147 (.slice u6a nl u6c) (by kernel_rfl) (fun w' h => exec_load_sl (.tmp 146) ⟨g8, 0, none⟩ u6a nl u6c (by kernel_rfl) (by kernel_rfl) (Z0.out w' h)) h0 ?_
                simp only [Act.put, List.setIfInBounds_toArray, List.set_cons_zero, List.set_cons_succ]
                refine reg_take 33 148 (.int .i64 nl) (by kernel_rfl) (fun _ _ => by kernel_rfl) h0 ?_
                simp only [Act.put, List.setIfInBounds_toArray, List.set_cons_zero, List.set_cons_succ]
                refine reg_take 34 149 (.bool (nl == 0)) (by kernel_rfl) (fun _ _ => exec_eql_i64z (.tmp 148) (.const (.int .i64 0)) nl (by kernel_rfl) (by kernel_rfl) (by kernel_rfl)) h0 ?_
                simp only [Act.put, List.setIfInBounds_toArray, List.set_cons_zero, List.set_cons_succ]
                refine reg_take 35 150 (.bool (nl == 0)) (by kernel_rfl) (fun _ _ => by kernel_rfl) h0 ?_
                simp only [Act.put, List.setIfInBounds_toArray, List.set_cons_zero, List.set_cons_succ]
                refine reg_take 36 151 (.bool false) (by kernel_rfl) (fun _ _ => exec_neq_bool (.tmp 141) (.tmp 150) (nl == 0) (by kernel_rfl) (by kernel_rfl) (by kernel_rfl)) h0 ?_
                simp only [Act.put, List.setIfInBounds_toArray, List.set_cons_zero, List.set_cons_succ]
                refine reg_take 37 152 (.bool false) (by kernel_rfl) (fun _ _ => by kernel_rfl) h0 ?_
                simp only [Act.put, List.setIfInBounds_toArray, List.set_cons_zero, List.set_cons_succ]
                refine reg_done (by kernel_rfl) (HF.out _ _ ?_)
                clear HF
                have E1 := Lib.hid (And.intro (RV.out.below h0) (And.intro ((h0.block g8 (Array.getElem?_eq_some_iff.1 HV.out).1).trans HV.out) (BV.out.trans (h0.mono BV.out.size))))
                clear h0 RV HV BV GV WV Z0 Z1
                go_wp2_with fail
                go_loopw [14] (fun i wq => i = .int .i64 0 ∧ Rd wq p ⟨rl, false⟩ ∧ wq.heap[g8]? = some (.cells #[.slice u6a rl.length u6c, .bool false] 40 (0, 0)) ∧ Below w.heap.size w wq) (fun _ _ => 0)
                case atStart => exact ⟨rfl, E1.out.1, E1.out.2.1, E1.out.2.2⟩
                case round =>
                  clear E1
                  obtain ⟨rfl, hqd, hqc, hqb⟩ := hrel
                  have J := Lib.hid (And.intro hqd (And.intro hqc hqb))
                  clear hqd hqc hqb
                  go_wp2_with fail
                  go_roundw
                  case rel => exact ⟨j + 1, by omega, by go_num, ⟨rl, false⟩, hr3, J.out.1, ⟨_, _, J.out.2.1, U6.out⟩, J.out.2.2⟩
                  case measure => simp [intOf]; omega
              ·
                refine wp_reg Try.f5 28 38 (fun w' => Below V.heap.size V w') (by kernel_rfl) (by kernel_rfl) (by kernel_rfl) (below_drewN (Below.refl _ _) 1) (fun K hK h0 => ?_)
                refine reg_cast (listed' := #[false, false, false, false, false, false, false, false, false, false, false, false, false, false, false, false, false, false, false, false, false, false, false, false, false, false, false, false, false, false, false, false, false, false, false, false, false, false]) (by kernel_rfl) rfl ?_
                have HF := Lib.hid hK; clear hK
                refine reg_take 0 115 (.slice none 0 0) (by kernel_rfl) (fun _ _ => by kernel_rfl) h0 ?_
                simp only [Act.put, List.setIfInBounds_toArray, List.set_cons_zero, List.set_cons_succ]
                refine reg_take 1 116 (.slice none 0 0) (by kernel_rfl) (fun _ _ => by kernel_rfl) h0 ?_
                simp only [Act.put, List.setIfInBounds_toArray, List.set_cons_zero, List.set_cons_succ]
                refine reg_call 2 117 17 #[.slice none 0 0, .slice none 0 0] (by kernel_rfl) (by kernel_rfl) ?_
                refine (same_yes _ _ _ _ (GV.out.below h0) (WV.out.below h0)).mono ?_
                rintro e wz ⟨rfl, hbz⟩
                have h0 := below_then h0 hbz
                refine ⟨_, rfl, h0, ?_⟩
                simp only [Act.put, List.setIfInBounds_toArray, List.set_cons_zero, List.set_cons_succ]
                refine reg_take 3 118 (.bool false) (by kernel_rfl) (fun _ _ => by kernel_rfl) h0 ?_
                simp only [Act.put, List.setIfInBounds_toArray, List.set_cons_zero, List.set_cons_succ]
                refine reg_take 4 119 (.bool false) (by kernel_rfl) (fun _ _ => by kernel_rfl) h0 ?_
                simp only [Act.put, List.setIfInBounds_toArray, List.set_cons_zero, List.set_cons_succ]
                refine reg_take 5 120 (.int .u64 (xn : Int)) (by kernel_rfl) (fun _ _ => by kernel_rfl) h0 ?_
                simp only [Act.put, List.setIfInBounds_toArray, List.set_cons_zero, List.set_cons_succ]
                refine reg_take 6 121 (.int .u64 (xn : Int)) (by kernel_rfl) (fun _ _ => by kernel_rfl) h0 ?_
                simp only [Act.put, List.setIfInBounds_toArray, List.set_cons_zero, List.set_cons_succ]
                refine reg_take 7 122 (.bool false) (by kernel_rfl) (fun _ _ => exec_neq_u64 (.tmp 120) (.tmp 121) ((xn : Int)) (by kernel_rfl) (by kernel_rfl) (by kernel_rfl)) h0 ?_
                simp only [Act.put, List.setIfInBounds_toArray, List.set_cons_zero, List.set_cons_succ]
                refine reg_take 8 123 (.bool false) (by kernel_rfl) (fun _ _ => by kernel_rfl) h0 ?_
                simp only [Act.put, List.setIfInBounds_toArray, List.set_cons_zero, List.set_cons_succ]
                refine reg_take 9 124 (.bool false) (by kernel_rfl) (fun _ _ => by kernel_rfl) h0 ?_
                simp only [Act.put, List.setIfInBounds_toArray, List.set_cons_zero, List.set_cons_succ]
                refine reg_take 10 125 (.pointer (some ⟨p, 0, none⟩)) (by kernel_rfl) (fun _ _ => by kernel_rfl) h0 ?_
                simp only [Act.put, List.setIfInBounds_toArray, List.set_cons_zero, List.set_cons_succ]
                refine reg_take 12 127 (.pointer (some ⟨g8, 1, none⟩)) (by kernel_rfl) (fun _ _ => by kernel_rfl) h0 ?_
                simp only [Act.put, List.setIfInBounds_toArray, List.set_cons_zero, List.set_cons_succ]
                refine reg_take 13 128 (.bool true) (by kernel_rfl) (fun w' h => exec_load_bool (.tmp 127) ⟨g8, 1, none⟩ true (by kernel_rfl) (by kernel_rfl) (Z1.out w' h)) h0 ?_
                simp only [Act.put, List.setIfInBounds_toArray, List.set_cons_zero, List.set_cons_succ]
                refine reg_call 11 126 28 #[.pointer (some ⟨p, 0, none⟩)] (by kernel_rfl) (by kernel_rfl) ?_
                refine (bad_any p ⟨rl, true⟩ _ (RV.out.below h0)).mono ?_
                rintro e wz ⟨rfl, hbz⟩
                subst hbz
                refine ⟨_, rfl, h0, ?_⟩
                simp only [Act.put, List.setIfInBounds_toArray, List.set_cons_zero, List.set_cons_succ]
                refine reg_take 14 129 (.bool false) (by kernel_rfl) (fun _ _ => by kernel_rfl) h0 ?_
                simp only [Act.put, List.setIfInBounds_toArray, List.set_cons_zero, List.set_cons_succ]
                refine reg_take 15 130 (.bool false) (by kernel_rfl) (fun _ _ => by kernel_rfl) h0 ?_
                simp only [Act.put, List.setIfInBounds_toArray, List.set_cons_zero, List.set_cons_succ]
                refine reg_take 16 131 (.bool false) (by kernel_rfl) (fun _ _ => by kernel_rfl) h0 ?_
                simp only [Act.put, List.setIfInBounds_toArray, List.set_cons_zero, List.set_cons_succ]
                refine reg_take 17 132 (.pointer (some ⟨p, 0, none⟩)) (by kernel_rfl) (fun _ _ => by kernel_rfl) h0 ?_
                simp only [Act.put, List.setIfInBounds_toArray, List.set_cons_zero, List.set_cons_succ]
                refine reg_take 19 134 (.pointer (some ⟨g8, 0, none⟩)) (by kernel_rfl) (fun _ _ => by kernel_rfl) h0 ?_
                simp only [Act.put, List.setIfInBounds_toArray, List.set_cons_zero, List.set_cons_succ]
                refine reg_take 20 135 (.slice u6a nl u6c) (by kernel_rfl) (fun w' h => exec_load_sl (.tmp 134) ⟨g8, 0, none⟩ u6a nl u6c (by kernel_rfl) (by kernel_rfl) (Z0.out w' h)) h0 ?_
                simp only [Act.put, List.setIfInBounds_toArray, List.set_cons_zero, List.set_cons_succ]
                refine reg_take 21 136 (.int .i64 nl) (by kernel_rfl) (fun _ _ => by kernel_rfl) h0 ?_
                simp only [Act.put, List.setIfInBounds_toArray, List.set_cons_zero, List.set_cons_succ]
                refine reg_call 18 133 29 #[.pointer (some ⟨p, 0, none⟩)] (by kernel_rfl) (by kernel_rfl) ?_
                refine (left_any' HNL.out (RV.out.below h0)).mono ?_
                rintro e wz ⟨rfl, hbz⟩
                subst hbz
                refine ⟨_, rfl, h0, ?_⟩
                simp only [Act.put, List.setIfInBounds_toArray, List.set_cons_zero, List.set_cons_succ]
                refine reg_take 22 137 (.bool false) (by kernel_rfl) (fun _ _ => exec_neq_i64 (.tmp 133) (.tmp 136) nl (by kernel_rfl) (by kernel_rfl) (by kernel_rfl)) h0 ?_
                simp only [Act.put, List.setIfInBounds_toArray, List.set_cons_zero, List.set_cons_succ]
                refine reg_take 23 138 (.bool false) (by kernel_rfl) (fun _ _ => by kernel_rfl) h0 ?_
                simp only [Act.put, List.setIfInBounds_toArray, List.set_cons_zero, List.set_cons_succ]
                refine reg_take 24 139 (.bool false) (by kernel_rfl) (fun _ _ => by kernel_rfl) h0 ?_
                simp only [Act.put, List.setIfInBounds_toArray, List.set_cons_zero, List.set_cons_succ]
                refine reg_take 25 140 (.pointer (some ⟨p, 0, none⟩)) (by kernel_rfl) (fun _ _ => by kernel_rfl) h0 ?_
                simp only [Act.put, List.setIfInBounds_toArray, List.set_cons_zero, List.set_cons_succ]
                refine reg_take 27 142 (.pointer (some ⟨g8, 1, none⟩)) (by kernel_rfl) (fun _ _ => by kernel_rfl) h0 ?_
                simp only [Act.put, List.setIfInBounds_toArray, List.set_cons_zero, List.set_cons_succ]
                refine reg_take 28 143 (.bool true) (by kernel_rfl) (fun w' h => exec_load_bool (.tmp 142) ⟨g8, 1, none⟩ true (by kernel_rfl) (by kernel_rfl) (Z1.out w' h)) h0 ?_
                simp only [Act.put, List.setIfInBounds_toArray, List.set_cons_zero, List.set_cons_succ]
                refine reg_take 29 144 (.bool false) (by kernel_rfl) (fun _ _ => by kernel_rfl) h0 ?_
                simp only [Act.put, List.setIfInBounds_toArray, List.set_cons_zero, List.set_cons_succ]
                refine reg_call 26 141 22 #[.pointer (some ⟨p, 0, none⟩)] (by kernel_rfl) (by kernel_rfl) ?_
                refine (done_anyT (RV.out.below h0)).mono ?_
                rintro e wz ⟨rfl, hbz⟩
                subst hbz
                refine ⟨_, rfl, h0, ?_⟩
                simp only [Act.put, List.setIfInBounds_toArray, List.set_cons_zero, List.set_cons_succ]
                refine reg_take 30 145 (.bool false) (by kernel_rfl) (fun _ _ => by kernel_rfl) h0 ?_
                simp only [Act.put, List.setIfInBounds_toArray, List.set_cons_zero, List.set_cons_succ]
                refine reg_off 31 146 (by kernel_rfl) h0 ?_
                simp only [Act.put, List.setIfInBounds_toArray, List.set_cons_zero, List.set_cons_succ]
                refine reg_off 32 147 (by kernel_rfl) h0 ?_
                simp only [Act.put, List.setIfInBounds_toArray, List.set_cons_zero, List.set_cons_succ]
                refine reg_off 33 148 (by kernel_rfl) h0 ?_
                simp only [Act.put, List.setIfInBounds_toArray, List.set_cons_zero, List.set_cons_succ]
                refine reg_off 34 149 (by kernel_rfl) h0 ?_
                simp only [Act.put, List.setIfInBounds_toArray, List.set_cons_zero, List.set_cons_succ]
                refine reg_take 35 150 (.bool false) (by kernel_rfl) (fun _ _ => by kernel_rfl) h0 ?_
                simp only [Act.put, List.setIfInBounds_toArray, List.set_cons_zero, List.set_cons_succ]
                refine reg_take 36 151 (.bool false) (by kernel_rfl) (fun _ _ => exec_neq_bool (.tmp 141) (.tmp 150) false (by kernel_rfl) (by kernel_rfl) (by kernel_rfl)) h0 ?_
                simp only [Act.put, List.setIfInBounds_toArray, List.set_cons_zero, List.set_cons_succ]
                refine reg_take 37 152 (.bool false) (by kernel_rfl) (fun _ _ => by kernel_rfl) h0 ?_
                simp only [Act.put, List.setIfInBounds_toArray, List.set_cons_zero, List.set_cons_succ]
                refine reg_done (by kernel_rfl) (HF.out _ _ ?_)
                clear HF
                have E1 := Lib.hid (And.intro (RV.out.below h0) (And.intro ((h0.block g8 (Array.getElem?_eq_some_iff.1 HV.out).1).trans HV.out) (BV.out.trans (h0.mono BV.out.size))))
                clear h0 RV HV BV GV WV Z0 Z1
                go_wp2_with fail
                go_loopw [14] (fun i wq => i = .int .i64 0 ∧ Rd wq p ⟨rl, true⟩ ∧ wq.heap[g8]? = some (.cells #[.slice u6a rl.length u6c, .bool true] 40 (0, 0)) ∧ Below w.heap.size w wq) (fun _ _ => 0)
                case atStart => exact ⟨rfl, E1.out.1, E1.out.2.1, E1.out.2.2⟩
                case round =>
                  clear E1
                  obtain ⟨rfl, hqd, hqc, hqb⟩ := hrel
                  have J := Lib.hid (And.intro hqd (And.intro hqc hqb))
                  clear hqd hqc hqb
                  go_wp2_with fail
                  go_roundw
                  case rel => exact ⟨j + 1, by omega, by go_num, ⟨rl, true⟩, hr3, J.out.1, ⟨_, _, J.out.2.1, U6.out⟩, J.out.2.2⟩
                  case measure => simp [intOf]; omega
            · have dk0 : decide (kk = 0) = false := by simp; omega
              have dk1 : decide (kk = 1) = false := by simp; omega
              go_wp2_with fail
              refine (rString_any p r kn _ R4.out (by omega)).mono ?_
              rintro e w5 ⟨v5, rfl, ho5, hrd5, hg5⟩
              have B5 := Lib.hid (below_only B4.out (Nat.le_refl _) hg5 (fun q hq => by cases hq; exact PB))
              have F5 := Lib.hid (F4.out.same (hg5.block g8 (Array.getElem?_eq_some_iff.1 F4.out.choose_spec.choose_spec.1).1 (by intro e; cases e; omega)))
              have R5 := Lib.hid hrd5
              have O5 := Lib.hid ho5
              obtain ⟨va, vc, rfl⟩ := ho5.form
              clear hrd5 ho5 hg5 a4 c4
              go_upto_region 21 with fail
              obtain ⟨ua, uc, hf1, hf2⟩ := F5.out
              have hf3 : (w5.drewN 1).heap[g8]? = some (.cells #[.slice ua r.l.length uc, .bool r.bad] 40 (0, 0)) := hf1
              have H5 := Lib.hid hf3; clear hf1 hf3
              have U5 := Lib.hid hf2; clear hf2
              refine wp_reg Try.f5 21 12 (fun w' => Below w.heap.size w w') (by kernel_rfl) (by kernel_rfl) (by kernel_rfl) (below_drewN B5.out 1) (fun K hK h0 => ?_)
              refine reg_cast (listed' := #[false, false, false, false, false, false, false, false, false, false, false, false]) (by kernel_rfl) rfl ?_
              have HF := Lib.hid hK; clear hK
              refine reg_take 1 69 (.slice (some ⟨b, off, none⟩) ks.length kcap) (by kernel_rfl) (fun _ _ => by kernel_rfl) h0 ?_
              simp only [Act.put, List.setIfInBounds_toArray, List.set_cons_zero, List.set_cons_succ]
              refine reg_take 2 70 (.int .i64 j) (by kernel_rfl) (fun _ _ => by kernel_rfl) h0 ?_
              simp only [Act.put, List.setIfInBounds_toArray, List.set_cons_zero, List.set_cons_succ]
              refine reg_take 3 71 (.pointer (some ⟨b, off + j * 2, none⟩)) (by kernel_rfl) (fun _ _ => exec_index_op (cap := kcap) (x := .tmp 69) (y := .tmp 70) (by kernel_rfl) (by kernel_rfl) (by kernel_rfl) hlt) h0 ?_
              simp only [Act.put, List.setIfInBounds_toArray, List.set_cons_zero, List.set_cons_succ]
              refine reg_take 4 72 (.pointer (some ⟨b, off + j * 2 + 1, none⟩)) (by kernel_rfl) (fun _ _ => by kernel_rfl) h0 ?_
              simp only [Act.put, List.setIfInBounds_toArray, List.set_cons_zero, List.set_cons_succ]
              refine reg_take 5 73 (.int .i64 kn) (by kernel_rfl) (fun w' h => exec_load_i64 (.tmp 72) ⟨b, off + j * 2 + 1, none⟩ kn (by kernel_rfl) (by kernel_rfl) (C0.out w' h)) h0 ?_
              simp only [Act.put, List.setIfInBounds_toArray, List.set_cons_zero, List.set_cons_succ]
              refine reg_one 0 (by kernel_rfl) (by kernel_rfl) (q_load 68 (.tmp 8) g8 _ #[.slice ua r.l.length uc, .bool r.bad] (by kernel_rfl) (by kernel_rfl) (by kernel_rfl) H5.out rfl h0 ?_)
              simp only [Act.put, List.setIfInBounds_toArray, List.set_cons_zero, List.set_cons_succ]
              refine reg_call 6 74 27 #[rdv (.slice ua r.l.length uc) r.bad, .int .i64 kn] (by kernel_rfl) (by kernel_rfl) ?_
              refine (refstr_any w _ r kn _ U5.out h0 (by omega)).mono ?_
              rintro e w6 ⟨u6, y6, rfl, hu6, hy6, hb6⟩
              have h0 := h0.trans (hb6.mono h0.size)
              have H6 := Lib.hid ((hb6.block g8 (Array.getElem?_eq_some_iff.1 H5.out).1).trans H5.out)
              obtain ⟨u6a, u6c, rfl⟩ := hu6.form
              refine ⟨_, rfl, h0, ?_⟩
              simp only [Act.put, List.setIfInBounds_toArray, List.set_cons_zero, List.set_cons_succ]
              have hw6 : Below w5.heap.size w5 w6 := (below_drewN (Below.refl _ _) 1).trans hb6
              have R6 := Lib.hid (R5.out.below hw6)
              have U6 := Lib.hid hu6
              clear hu6
              have Y6 := Lib.hid hy6
              obtain ⟨y6a, y6c, rfl⟩ := hy6.form
              clear hb6
              refine reg_take 7 67 (.tuple #[rdv (.slice u6a (Wir.string r kn).1.l.length u6c) (Wir.string r kn).1.bad, .slice y6a (Wir.string r kn).2.length y6c]) (by kernel_rfl) (fun _ _ => by kernel_rfl) h0 ?_
              simp only [Act.put, List.setIfInBounds_toArray, List.set_cons_zero, List.set_cons_succ]
              refine reg_take 8 75 (rdv (.slice u6a (Wir.string r kn).1.l.length u6c) (Wir.string r kn).1.bad) (by kernel_rfl) (fun _ _ => by kernel_rfl) h0 ?_
              simp only [Act.put, List.setIfInBounds_toArray, List.set_cons_zero, List.set_cons_succ]
              refine reg_take 9 76 (.slice y6a (Wir.string r kn).2.length y6c) (by kernel_rfl) (fun _ _ => by kernel_rfl) h0 ?_
              simp only [Act.put, List.setIfInBounds_toArray, List.set_cons_zero, List.set_cons_succ]
              refine reg_one 10 (by kernel_rfl) (by kernel_rfl) (q_row 40 (.tmp 8) (.tmp 75) g8 #[.slice u6a (Wir.string r kn).1.l.length u6c, .bool (Wir.string r kn).1.bad] 40 #[.slice ua r.l.length uc, .bool r.bad] (by kernel_rfl) (by kernel_rfl) (by kernel_rfl) (by kernel_rfl) H6.out infoRd rfl (by simp [Value.oneCell']) PG h0 ?_)
              intro h0 H7
              simp only [Act.put, List.setIfInBounds_toArray, List.set_cons_zero, List.set_cons_succ]
              refine reg_take 11 11 (.slice y6a (Wir.string r kn).2.length y6c) (by kernel_rfl) (fun _ _ => by kernel_rfl) h0 ?_
              simp only [Act.put, List.setIfInBounds_toArray, List.set_cons_zero, List.set_cons_succ]
              refine reg_done (by kernel_rfl) (HF.out _ _ ?_)
              clear HF
              have hr3 : (Wir.string r kn).1.l.length ≤ 300 := Nat.le_trans (Wir.string_len r kn) hrl
              have hgl3 : (Wir.string r kn).2.length ≤ 300 := Nat.le_trans (Wir.string2_len r kn) hrl
              have hgw : g8 < wr.heap.size := (Array.getElem?_eq_some_iff.1 F4.out.choose_spec.choose_spec.1).1
              have hgw5 : g8 < (w5.drewN 1).heap.size := (Array.getElem?_eq_some_iff.1 H5.out).1
              have GV0 := ((O5.out.below hw6).only (only_setRow w6 g8 #[.slice u6a (Wir.string r kn).1.l.length u6c, .bool (Wir.string r kn).1.bad]) (.inr (fun e => by have := (O5.out.lt g8 e).1; omega)))
              have WV0 := (Y6.out.only (only_setRow w6 g8 #[.slice u6a (Wir.string r kn).1.l.length u6c, .bool (Wir.string r kn).1.bad]) (.inr (fun e => by have := (Y6.out.lt g8 e).1; omega)))
              have RV0 := R6.out.far (only_setRow w6 g8 #[.slice u6a (Wir.string r kn).1.l.length u6c, .bool (Wir.string r kn).1.bad]) P5
              have GV := Lib.hid GV0.bs.rs
              have GO := Lib.hid GV0
              have WV := Lib.hid WV0.bs.rs
              have RV := Lib.hid RV0
              have BV := Lib.hid h0
              have HV := Lib.hid H7
              clear GV0 WV0 RV0 h0 H7 hgw5 hy6 Y6 R6 O5 R5 B5 F5 H5 H6 hw6 U5
              generalize w6.setRow g8 #[.slice u6a (Wir.string r kn).1.l.length u6c, .bool (Wir.string r kn).1.bad] = V at GV GO WV RV BV HV ⊢
              generalize Wir.string r kn = t at *
              obtain ⟨⟨rl, rb⟩, gl⟩ := t
              go_upto_region 28 with fail
              obtain ⟨nl, hnl⟩ : ∃ n, n = rl.length := ⟨_, rfl⟩
              have hr3 : rl.length ≤ 300 := hr3
              have hgl3 : gl.length ≤ 300 := hgl3
              obtain ⟨z0, z1, _, _⟩ := two_cells HV.out
              have z0 : V.cell? ⟨g8, 0, none⟩ = some (.slice u6a nl u6c) := by rw [hnl]; exact z0
              have Z0 := Lib.hid (fun (w' : World) (h : Below V.heap.size V w') => (h.cell (p := ⟨g8, 0, none⟩) (World.block_lt_of_cell? V _ z0)).trans z0)
              have Z1 := Lib.hid (fun (w' : World) (h : Below V.heap.size V w') => (h.cell (p := ⟨g8, 1, none⟩) (World.block_lt_of_cell? V _ z1)).trans z1)
              have HNL := Lib.hid hnl
              clear z0 z1 hnl
              cases rb
              ·
                refine wp_reg Try.f5 28 38 (fun w' => Below V.heap.size V w') (by kernel_rfl) (by kernel_rfl) (by kernel_rfl) (below_drewN (Below.refl _ _) 1) (fun K hK h0 => ?_)
                refine reg_cast (listed' := #[false, false, false, false, false, false, false, false, false, false, false, false, false, false, false, false, false, false, false, false, false, false, false, false, false, false, false, false, false, false, false, false, false, false, false, false, false, false]) (by kernel_rfl) rfl ?_
                have HF := Lib.hid hK; clear hK
                refine reg_take 0 115 (.slice va gl.length vc) (by kernel_rfl) (fun _ _ => by kernel_rfl) h0 ?_
                simp only [Act.put, List.setIfInBounds_toArray, List.set_cons_zero, List.set_cons_succ]
                refine reg_take 1 116 (.slice y6a gl.length y6c) (by kernel_rfl) (fun _ _ => by kernel_rfl) h0 ?_
                simp only [Act.put, List.setIfInBounds_toArray, List.set_cons_zero, List.set_cons_succ]
                refine reg_call 2 117 17 #[.slice va gl.length vc, .slice y6a gl.length y6c] (by kernel_rfl) (by kernel_rfl) ?_
                refine (same_yes _ _ _ _ (GV.out.below h0) (WV.out.below h0)).mono ?_
                rintro e wz ⟨rfl, hbz⟩
                have h0 := below_then h0 hbz
                refine ⟨_, rfl, h0, ?_⟩
                simp only [Act.put, List.setIfInBounds_toArray, List.set_cons_zero, List.set_cons_succ]
                refine reg_take 3 118 (.bool false) (by kernel_rfl) (fun _ _ => by kernel_rfl) h0 ?_
                simp only [Act.put, List.setIfInBounds_toArray, List.set_cons_zero, List.set_cons_succ]
                refine reg_take 4 119 (.bool false) (by kernel_rfl) (fun _ _ => by kernel_rfl) h0 ?_
                simp only [Act.put, List.setIfInBounds_toArray, List.set_cons_zero, List.set_cons_succ]
                refine reg_take 5 120 (.int .u64 0) (by kernel_rfl) (fun _ _ => by kernel_rfl) h0 ?_
                simp only [Act.put, List.setIfInBounds_toArray, List.set_cons_zero, List.set_cons_succ]
                refine reg_take 6 121 (.int .u64 0) (by kernel_rfl) (fun _ _ => by kernel_rfl) h0 ?_
                simp only [Act.put, List.setIfInBounds_toArray, List.set_cons_zero, List.set_cons_succ]
                refine reg_take 7 122 (.bool false) (by kernel_rfl) (fun _ _ => exec_neq_u64 (.tmp 120) (.tmp 121) (0) (by kernel_rfl) (by kernel_rfl) (by kernel_rfl)) h0 ?_
                simp only [Act.put, List.setIfInBounds_toArray, List.set_cons_zero, List.set_cons_succ]
                refine reg_take 8 123 (.bool false) (by kernel_rfl) (fun _ _ => by kernel_rfl) h0 ?_
                simp only [Act.put, List.setIfInBounds_toArray, List.set_cons_zero, List.set_cons_succ]
                refine reg_take 9 124 (.bool false) (by kernel_rfl) (fun _ _ => by kernel_rfl) h0 ?_
                simp only [Act.put, List.setIfInBounds_toArray, List.set_cons_zero, List.set_cons_succ]
                refine reg_take 10 125 (.pointer (some ⟨p, 0, none⟩)) (by kernel_rfl) (fun _ _ => by kernel_rfl) h0 ?_
                simp only [Act.put, List.setIfInBounds_toArray, List.set_cons_zero, List.set_cons_succ]
                refine reg_take 12 127 (.pointer (some ⟨g8, 1, none⟩)) (by kernel_rfl) (fun _ _ => by kernel_rfl) h0 ?_
                simp only [Act.put, List.setIfInBounds_toArray, List.set_cons_zero, List.set_cons_succ]
                refine reg_take 13 128 (.bool false) (by kernel_rfl) (fun w' h => exec_load_bool (.tmp 127) ⟨g8, 1, none⟩ false (by kernel_rfl) (by kernel_rfl) (Z1.out w' h)) h0 ?_
                simp only [Act.put, List.setIfInBounds_toArray, List.set_cons_zero, List.set_cons_succ]
                refine reg_call 11 126 28 #[.pointer (some ⟨p, 0, none⟩)] (by kernel_rfl) (by kernel_rfl) ?_
                refine (bad_any p ⟨rl, false⟩ _ (RV.out.below h0)).mono ?_
                rintro e wz ⟨rfl, hbz⟩
                subst hbz
                refine ⟨_, rfl, h0, ?_⟩
                simp only [Act.put, List.setIfInBounds_toArray, List.set_cons_zero, List.set_cons_succ]
                refine reg_take 14 129 (.bool false) (by kernel_rfl) (fun _ _ => by kernel_rfl) h0 ?_
                simp only [Act.put, List.setIfInBounds_toArray, List.set_cons_zero, List.set_cons_succ]
                refine reg_take 15 130 (.bool false) (by kernel_rfl) (fun _ _ => by kernel_rfl) h0 ?_
                simp only [Act.put, List.setIfInBounds_toArray, List.set_cons_zero, List.set_cons_succ]
                refine reg_take 16 131 (.bool false) (by kernel_rfl) (fun _ _ => by kernel_rfl) h0 ?_
                simp only [Act.put, List.setIfInBounds_toArray, List.set_cons_zero, List.set_cons_succ]
                refine reg_take 17 132 (.pointer (some ⟨p, 0, none⟩)) (by kernel_rfl) (fun _ _ => by kernel_rfl) h0 ?_
                simp only [Act.put, List.setIfInBounds_toArray, List.set_cons_zero, List.set_cons_succ]
                refine reg_take 19 134 (.pointer (some ⟨g8, 0, none⟩)) (by kernel_rfl) (fun _ _ => by kernel_rfl) h0 ?_
                simp only [Act.put, List.setIfInBounds_toArray, List.set_cons_zero, List.set_cons_succ]
                refine reg_take 20 135 (.slice u6a nl u6c) (by kernel_rfl) (fun w' h => exec_load_sl (.tmp 134) ⟨g8, 0, none⟩ u6a nl u6c (by kernel_rfl) (by kernel_rfl) (Z0.out w' h)) h0 ?_
                simp only [Act.put, List.setIfInBounds_toArray, List.set_cons_zero, List.set_cons_succ]
                refine reg_take 21 136 (.int .i64 nl) (by kernel_rfl) (fun _ _ => by kernel_rfl) h0 ?_
                simp only [Act.put, List.setIfInBounds_toArray, List.set_cons_zero, List.set_cons_succ]
                refine reg_call 18 133 29 #[.pointer (some ⟨p, 0, none⟩)] (by kernel_rfl) (by kernel_rfl) ?_
                refine (left_any' HNL.out (RV.out.below h0)).mono ?_
                rintro e wz ⟨rfl, hbz⟩
                subst hbz
                refine ⟨_, rfl, h0, ?_⟩
                simp only [Act.put, List.setIfInBounds_toArray, List.set_cons_zero, List.set_cons_succ]
                refine reg_take 22 137 (.bool false) (by kernel_rfl) (fun _ _ => exec_neq_i64 (.tmp 133) (.tmp 136) nl (by kernel_rfl) (by kernel_rfl) (by kernel_rfl)) h0 ?_
                simp only [Act.put, List.setIfInBounds_toArray, List.set_cons_zero, List.set_cons_succ]
                refine reg_take 23 138 (.bool false) (by kernel_rfl) (fun _ _ => by kernel_rfl) h0 ?_
                simp only [Act.put, List.setIfInBounds_toArray, List.set_cons_zero, List.set_cons_succ]
                refine reg_take 24 139 (.bool false) (by kernel_rfl) (fun _ _ => by kernel_rfl) h0 ?_
                simp only [Act.put, List.setIfInBounds_toArray, List.set_cons_zero, List.set_cons_succ]
                refine reg_take 25 140 (.pointer (some ⟨p, 0, none⟩)) (by kernel_rfl) (fun _ _ => by kernel_rfl) h0 ?_
                simp only [Act.put, List.setIfInBounds_toArray, List.set_cons_zero, List.set_cons_succ]
                refine reg_take 27 142 (.pointer (some ⟨g8, 1, none⟩)) (by kernel_rfl) (fun _ _ => by kernel_rfl) h0 ?_
                simp only [Act.put, List.setIfInBounds_toArray, List.set_cons_zero, List.set_cons_succ]
                refine reg_take 28 143 (.bool false) (by kernel_rfl) (fun w' h => exec_load_bool (.tmp 142) ⟨g8, 1, none⟩ false (by kernel_rfl) (by kernel_rfl) (Z1.out w' h)) h0 ?_
                simp only [Act.put, List.setIfInBounds_toArray, List.set_cons_zero, List.set_cons_succ]
                refine reg_take 29 144 (.bool true) (by kernel_rfl) (fun _ _ => by kernel_rfl) h0 ?_
                simp only [Act.put, List.setIfInBounds_toArray, List.set_cons_zero, List.set_cons_succ]
                refine reg_call 26 141 22 #[.pointer (some ⟨p, 0, none⟩)] (by kernel_rfl) (by kernel_rfl) ?_
                refine (done_anyF HNL.out (RV.out.below h0)).mono ?_
                rintro e wz ⟨rfl, hbz⟩
                subst hbz
                refine ⟨_, rfl, h0, ?_⟩
                simp only [Act.put, List.setIfInBounds_toArray, List.set_cons_zero, List.set_cons_succ]
                refine reg_take 30 145 (.bool true) (by kernel_rfl) (fun _ _ => by kernel_rfl) h0 ?_
                simp only [Act.put, List.setIfInBounds_toArray, List.set_cons_zero, List.set_cons_succ]
                refine reg_take 31 146 (.pointer (some ⟨g8, 0, none⟩)) (by kernel_rfl) (fun _ _ => by kernel_rfl) h0 ?_
                simp only [Act.put, List.setIfInBounds_toArray, List.set_cons_zero, List.set_cons_succ]
                refine reg_take 32 147 (.slice u6a nl u6c) (by kernel_rfl) (fun w' h => exec_load_sl (.tmp 146) ⟨g8, 0, none⟩ u6a nl u6c (by kernel_rfl) (by kernel_rfl) (Z0.out w' h)) h0 ?_
                simp only [Act.put, List.setIfInBounds_toArray, List.set_cons_zero, List.set_cons_succ]
                refine reg_take 33 148 (.int .i64 nl) (by kernel_rfl) (fun _ _ => by kernel_rfl) h0 ?_
                simp only [Act.put, List.setIfInBounds_toArray, List.set_cons_zero, List.set_cons_succ]
                refine reg_take 34 149 (.bool (nl == 0)) (by kernel_rfl) (fun _ _ => exec_eql_i64z (.tmp 148) (.const (.int .i64 0)) nl (by kernel_rfl) (by kernel_rfl) (by kernel_rfl)) h0 ?_
                simp only [Act.put, List.setIfInBounds_toArray, List.set_cons_zero, List.set_cons_succ]
                refine reg_take 35 150 (.bool (nl == 0)) (by kernel_rfl) (fun _ _ => by kernel_rfl) h0 ?_
                simp only [Act.put, List.setIfInBounds_toArray, List.set_cons_zero, List.set_cons_succ]
                refine reg_take 36 151 (.bool false) (by kernel_rfl) (fun _ _ => exec_neq_bool (.tmp 141) (.tmp 150) (nl == 0) (by kernel_rfl) (by kernel_rfl) (by kernel_rfl)) h0 ?_
                simp only [Act.put, List.setIfInBounds_toArray, List.set_cons_zero, List.set_cons_succ]
                refine reg_take 37 152 (.bool false) (by kernel_rfl) (fun _ _ => by kernel_rfl) h0 ?_
                simp only [Act.put, List.setIfInBounds_toArray, List.set_cons_zero, List.set_cons_succ]
                refine reg_done (by kernel_rfl) (HF.out _ _ ?_)
                clear HF
                have E1 := Lib.hid (And.intro (GO.out.below h0) (And.intro (RV.out.below h0) (And.intro ((h0.block g8 (Array.getElem?_eq_some_iff.1 HV.out).1).trans HV.out) (BV.out.trans (h0.mono BV.out.size)))))
                clear h0 GO RV HV BV GV WV Z0 Z1
                go_wp2_with fail
                go_loopw [14] (fun i wq => ∃ m : Nat, m ≤ gl.length ∧ i = .int .i64 m ∧ ∃ l2 : List Nat, l2.length = gl.length ∧ Own wq wr.heap.size (.slice va gl.length vc) l2 ∧ Rd wq p ⟨rl, false⟩ ∧ wq.heap[g8]? = some (.cells #[.slice u6a rl.length u6c, .bool false] 40 (0, 0)) ∧ Below w.heap.size w wq) (fun i _ => gl.length - (intOf i).toNat)
                case atStart => exact ⟨0, by omega, rfl, gl, rfl, E1.out.1, E1.out.2.1, E1.out.2.2.1, E1.out.2.2.2⟩
                case round =>
                  clear E1
                  obtain ⟨m, hm, rfl, l2, hll, hob, hqd, hqc, hqb⟩ := hrel
                  by_cases hltm : m < gl.length
                  · rw [← hll] at hob
                    rcases hob.cases with ⟨h', hnil⟩ | ⟨g, cap', h', hg1, hg2, _, _, hcell, hfro⟩
                    · rw [hnil] at hll; simp at hll; omega
                    simp only [Value.slice.injEq, true_and] at h'
                    obtain ⟨rfl, rfl⟩ := h'
                    have cj := hcell m (by omega)
                    have fj := hfro m
                    obtain ⟨x, hx⟩ : ∃ x, x = l2.getD m 0 := ⟨_, rfl⟩
                    have hx8 : x < 256 := by rw [hx]; exact hob.1.get m
                    rw [← hx] at cj
                    obtain ⟨y, hy⟩ : ∃ y, y = (x + 1) % 256 := ⟨_, rfl⟩
                    have hyi : IntKind.u8.wrap ((x : Int) + 1) = (y : Int) := by simp only [IntKind.wrap_u8]; omega
                    have hym : ((x : Int) + 1) % 256 = (y : Int) := by omega
                    obtain ⟨hs1, hs2⟩ := hob.set m y (by omega)
                    have J := Lib.hid (And.intro hs1 (And.intro (hqd.far hs2 (by omega)) (And.intro ((hs2.block g8 ((Array.getElem?_eq_some_iff.1 hqc).1) (fun e => by cases e; omega)).trans hqc) (And.intro (below_only hqb (Nat.le_refl _) hs2 (fun q hq => by cases hq; omega)) hll))))
                    have nj : 0 ≤ (m : Int) := by omega
                    have lj : (m : Int) < (gl.length : Int) := by omega
                    clear hs1 hs2 hob hqd hqc hqb hcell hfro hx hy hll
                    go_wp2_with fail
                    go_roundw
                    case rel => exact ⟨m + 1, by omega, by go_num, l2.set m y, by rw [List.length_set]; exact J.out.2.2.2.2, by have h := J.out.1; rw [J.out.2.2.2.2] at h; first | exact h | (rw [hym]; exact h), J.out.2.1, J.out.2.2.1, J.out.2.2.2.1⟩
                    case measure => simp [intOf]; omega
                  · obtain rfl : m = gl.length := by omega
                    have hd : decide ((gl.length : Int) < (gl.length : Int)) = false := by simp
                    have J := Lib.hid (And.intro hqd (And.intro hqc hqb))
                    clear hob hqd hqc hqb hll hltm hm
                    go_wp2_with fail
                    go_roundw
                    case rel => exact ⟨j + 1, by omega, by go_num, ⟨rl, false⟩, hr3, J.out.1, ⟨_, _, J.out.2.1, U6.out⟩, J.out.2.2⟩
                    case measure => simp [intOf]; omega
              ·
                refine wp_reg Try.f5 28 38 (fun w' => Below V.heap.size V w') (by kernel_rfl) (by kernel_rfl) (by kernel_rfl) (below_drewN (Below.refl _ _) 1) (fun K hK h0 => ?_)
                refine reg_cast (listed' := #[false, false, false, false, false, false, false, false, false, false, false, false, false, false, false, false, false, false, false, false, false, false, false, false, false, false, false, false, false, false, false, false, false, false, false, false, false, false]) (by kernel_rfl) rfl ?_
                have HF := Lib.hid hK; clear hK
                refine reg_take 0 115 (.slice va gl.length vc) (by kernel_rfl) (fun _ _ => by kernel_rfl) h0 ?_
                simp only [Act.put, List.setIfInBounds_toArray, List.set_cons_zero, List.set_cons_succ]
                refine reg_take 1 116 (.slice y6a gl.length y6c) (by kernel_rfl) (fun _ _ => by kernel_rfl) h0 ?_
                simp only [Act.put, List.setIfInBounds_toArray, List.set_cons_zero, List.set_cons_succ]
                refine reg_call 2 117 17 #[.slice va gl.length vc, .slice y6a gl.length y6c] (by kernel_rfl) (by kernel_rfl) ?_
                refine (same_yes _ _ _ _ (GV.out.below h0) (WV.out.below h0)).mono ?_
                rintro e wz ⟨rfl, hbz⟩
                have h0 := below_then h0 hbz
                refine ⟨_, rfl, h0, ?_⟩
                simp only [Act.put, List.setIfInBounds_toArray, List.set_cons_zero, List.set_cons_succ]
                refine reg_take 3 118 (.bool false) (by kernel_rfl) (fun _ _ => by kernel_rfl) h0 ?_
                simp only [Act.put, List.setIfInBounds_toArray, List.set_cons_zero, List.set_cons_succ]
                refine reg_take 4 119 (.bool false) (by kernel_rfl) (fun _ _ => by kernel_rfl) h0 ?_
                simp only [Act.put, List.setIfInBounds_toArray, List.set_cons_zero, List.set_cons_succ]
                refine reg_take 5 120 (.int .u64 0) (by kernel_rfl) (fun _ _ => by kernel_rfl) h0 ?_
                simp only [Act.put, List.setIfInBounds_toArray, List.set_cons_zero, List.set_cons_succ]
                refine reg_take 6 121 (.int .u64 0) (by kernel_rfl) (fun _ _ => by kernel_rfl) h0 ?_
                simp only [Act.put, List.setIfInBounds_toArray, List.set_cons_zero, List.set_cons_succ]
                refine reg_take 7 122 (.bool false) (by kernel_rfl) (fun _ _ => exec_neq_u64 (.tmp 120) (.tmp 121) (0) (by kernel_rfl) (by kernel_rfl) (by kernel_rfl)) h0 ?_
                simp only [Act.put, List.setIfInBounds_toArray, List.set_cons_zero, List.set_cons_succ]
                refine reg_take 8 123 (.bool false) (by kernel_rfl) (fun _ _ => by kernel_rfl) h0 ?_
                simp only [Act.put, List.setIfInBounds_toArray, List.set_cons_zero, List.set_cons_succ]
                refine reg_take 9 124 (.bool false) (by kernel_rfl) (fun _ _ => by kernel_rfl) h0 ?_
                simp only [Act.put, List.setIfInBounds_toArray, List.set_cons_zero, List.set_cons_succ]
                refine reg_take 10 125 (.pointer (some ⟨p, 0, none⟩)) (by kernel_rfl) (fun _ _ => by kernel_rfl) h0 ?_
                simp only [Act.put, List.setIfInBounds_toArray, List.set_cons_zero, List.set_cons_succ]
                refine reg_take 12 127 (.pointer (some ⟨g8, 1, none⟩)) (by kernel_rfl) (fun _ _ => by kernel_rfl) h0 ?_
                simp only [Act.put, List.setIfInBounds_toArray, List.set_cons_zero, List.set_cons_succ]
                refine reg_take 13 128 (.bool true) (by kernel_rfl) (fun w' h => exec_load_bool (.tmp 127) ⟨g8, 1, none⟩ true (by kernel_rfl) (by kernel_rfl) (Z1.out w' h)) h0 ?_
                simp only [Act.put, List.setIfInBounds_toArray, List.set_cons_zero, List.set_cons_succ]
                refine reg_call 11 126 28 #[.pointer (some ⟨p, 0, none⟩)] (by kernel_rfl) (by kernel_rfl) ?_
                refine (bad_any p ⟨rl, true⟩ _ (RV.out.below h0)).mono ?_
                rintro e wz ⟨rfl, hbz⟩
                subst hbz
                refine ⟨_, rfl, h0, ?_⟩
                simp only [Act.put, List.setIfInBounds_toArray, List.set_cons_zero, List.set_cons_succ]
                refine reg_take 14 129 (.bool false) (by kernel_rfl) (fun _ _ => by kernel_rfl) h0 ?_
                simp only [Act.put, List.setIfInBounds_toArray, List.set_cons_zero, List.set_cons_succ]
                refine reg_take 15 130 (.bool false) (by kernel_rfl) (fun _ _ => by kernel_rfl) h0 ?_
                simp only [Act.put, List.setIfInBounds_toArray, List.set_cons_zero, List.set_cons_succ]
                refine reg_take 16 131 (.bool false) (by kernel_rfl) (fun _ _ => by kernel_rfl) h0 ?_
                simp only [Act.put, List.setIfInBounds_toArray, List.set_cons_zero, List.set_cons_succ]
                refine reg_take 17 132 (.pointer (some ⟨p, 0, none⟩)) (by kernel_rfl) (fun _ _ => by kernel_rfl) h0 ?_
                simp only [Act.put, List.setIfInBounds_toArray, List.set_cons_zero, List.set_cons_succ]
                refine reg_take 19 134 (.pointer (some ⟨g8, 0, none⟩)) (by kernel_rfl) (fun _ _ => by kernel_rfl) h0 ?_
                simp only [Act.put, List.setIfInBounds_toArray, List.set_cons_zero, List.set_cons_succ]
                refine reg_take 20 135 (.slice u6a nl u6c) (by kernel_rfl) (fun w' h => exec_load_sl (.tmp 134) ⟨g8, 0, none⟩ u6a nl u6c (by kernel_rfl) (by kernel_rfl) (Z0.out w' h)) h0 ?_
                simp only [Act.put, List.setIfInBounds_toArray, List.set_cons_zero, List.set_cons_succ]
                refine reg_take 21 136 (.int .i64 nl) (by kernel_rfl) (fun _ _ => by kernel_rfl) h0 ?_
                simp only [Act.put, List.setIfInBounds_toArray, List.set_cons_zero, List.set_cons_succ]
                refine reg_call 18 133 29 #[.pointer (some ⟨p, 0, none⟩)] (by kernel_rfl) (by kernel_rfl) ?_
                refine (left_any' HNL.out (RV.out.below h0)).mono ?_
                rintro e wz ⟨rfl, hbz⟩
                subst hbz
                refine ⟨_, rfl, h0, ?_⟩
                simp only [Act.put, List.setIfInBounds_toArray, List.set_cons_zero, List.set_cons_succ]
                refine reg_take 22 137 (.bool false) (by kernel_rfl) (fun _ _ => exec_neq_i64 (.tmp 133) (.tmp 136) nl (by kernel_rfl) (by kernel_rfl) (by kernel_rfl)) h0 ?_
                simp only [Act.put, List.setIfInBounds_toArray, List.set_cons_zero, List.set_cons_succ]
                refine reg_take 23 138 (.bool false) (by kernel_rfl) (fun _ _ => by kernel_rfl) h0 ?_
                simp only [Act.put, List.setIfInBounds_toArray, List.set_cons_zero, List.set_cons_succ]
                refine reg_take 24 139 (.bool false) (by kernel_rfl) (fun _ _ => by kernel_rfl) h0 ?_
                simp only [Act.put, List.setIfInBounds_toArray, List.set_cons_zero, List.set_cons_succ]
                refine reg_take 25 140 (.pointer (some ⟨p, 0, none⟩)) (by kernel_rfl) (fun _ _ => by kernel_rfl) h0 ?_
                simp only [Act.put, List.setIfInBounds_toArray, List.set_cons_zero, List.set_cons_succ]
                refine reg_take 27 142 (.pointer (some ⟨g8, 1, none⟩)) (by kernel_rfl) (fun _ _ => by kernel_rfl) h0 ?_
                simp only [Act.put, List.setIfInBounds_toArray, List.set_cons_zero, List.set_cons_succ]
                refine reg_take 28 143 (.bool true) (by kernel_rfl) (fun w' h => exec_load_bool (.tmp 142) ⟨g8, 1, none⟩ true (by kernel_rfl) (by kernel_rfl) (Z1.out w' h)) h0 ?_
                simp only [Act.put, List.setIfInBounds_toArray, List.set_cons_zero, List.set_cons_succ]
                refine reg_take 29 144 (.bool false) (by kernel_rfl) (fun _ _ => by kernel_rfl) h0 ?_
                simp only [Act.put, List.setIfInBounds_toArray, List.set_cons_zero, List.set_cons_succ]
                refine reg_call 26 141 22 #[.pointer (some ⟨p, 0, none⟩)] (by kernel_rfl) (by kernel_rfl) ?_
                refine (done_anyT (RV.out.below h0)).mono ?_
                rintro e wz ⟨rfl, hbz⟩
                subst hbz
                refine ⟨_, rfl, h0, ?_⟩
                simp only [Act.put, List.setIfInBounds_toArray, List.set_cons_zero, List.set_cons_succ]
                refine reg_take 30 145 (.bool false) (by kernel_rfl) (fun _ _ => by kernel_rfl) h0 ?_
                simp only [Act.put, List.setIfInBounds_toArray, List.set_cons_zero, List.set_cons_succ]
                refine reg_off 31 146 (by kernel_rfl) h0 ?_
                simp only [Act.put, List.setIfInBounds_toArray, List.set_cons_zero, List.set_cons_succ]
                refine reg_off 32 147 (by kernel_rfl) h0 ?_
                simp only [Act.put, List.setIfInBounds_toArray, List.set_cons_zero, List.set_cons_succ]
                refine reg_off 33 148 (by kernel_rfl) h0 ?_
                simp only [Act.put, List.setIfInBounds_toArray, List.set_cons_zero, List.set_cons_succ]
                refine reg_off 34 149 (by kernel_rfl) h0 ?_
                simp only [Act.put, List.setIfInBounds_toArray, List.set_cons_zero, List.set_cons_succ]
                refine reg_take 35 150 (.bool false) (by kernel_rfl) (fun _ _ => by kernel_rfl) h0 ?_
                simp only [Act.put, List.setIfInBounds_toArray, List.set_cons_zero, List.set_cons_succ]
                refine reg_take 36 151 (.bool false) (by kernel_rfl) (fun _ _ => exec_neq_bool (.tmp 141) (.tmp 150) false (by kernel_rfl) (by kernel_rfl) (by kernel_rfl)) h0 ?_
                simp only [Act.put, List.setIfInBounds_toArray, List.set_cons_zero, List.set_cons_succ]
                refine reg_take 37 152 (.bool false) (by kernel_rfl) (fun _ _ => by kernel_rfl) h0 ?_
                simp only [Act.put, List.setIfInBounds_toArray, List.set_cons_zero, List.set_cons_succ]
                refine reg_done (by kernel_rfl) (HF.out _ _ ?_)
                clear HF
                have E1 := Lib.hid (And.intro (GO.out.below h0) (And.intro (RV.out.below h0) (And.intro ((h0.block g8 (Array.getElem?_eq_some_iff.1 HV.out).1).trans HV.out) (BV.out.trans (h0.mono BV.out.size)))))
                clear h0 GO RV HV BV GV WV Z0 Z1
                go_wp2_with fail
                go_loopw [14] (fun i wq => ∃ m : Nat, m ≤ gl.length ∧ i = .int .i64 m ∧ ∃ l2 : List Nat, l2.length = gl.length ∧ Own wq wr.heap.size (.slice va gl.length vc) l2 ∧ Rd wq p ⟨rl, true⟩ ∧ wq.heap[g8]? = some (.cells #[.slice u6a rl.length u6c, .bool true] 40 (0, 0)) ∧ Below w.heap.size w wq) (fun i _ => gl.length - (intOf i).toNat)
                case atStart => exact ⟨0, by omega, rfl, gl, rfl, E1.out.1, E1.out.2.1, E1.out.2.2.1, E1.out.2.2.2⟩
                case round =>
                  clear E1
                  obtain ⟨m, hm, rfl, l2, hll, hob, hqd, hqc, hqb⟩ := hrel
                  by_cases hltm : m < gl.length
                  · rw [← hll] at hob
                    rcases hob.cases with ⟨h', hnil⟩ | ⟨g, cap', h', hg1, hg2, _, _, hcell, hfro⟩
                    · rw [hnil] at hll; simp at hll; omega
                    simp only [Value.slice.injEq, true_and] at h'
                    obtain ⟨rfl, rfl⟩ := h'
                    have cj := hcell m (by omega)
                    have fj := hfro m
                    obtain ⟨x, hx⟩ : ∃ x, x = l2.getD m 0 := ⟨_, rfl⟩
                    have hx8 : x < 256 := by rw [hx]; exact hob.1.get m
                    rw [← hx] at cj
                    obtain ⟨y, hy⟩ : ∃ y, y = (x + 1) % 256 := ⟨_, rfl⟩
                    have hyi : IntKind.u8.wrap ((x : Int) + 1) = (y : Int) := by simp only [IntKind.wrap_u8]; omega
                    have hym : ((x : Int) + 1) % 256 = (y : Int) := by omega
                    obtain ⟨hs1, hs2⟩ := hob.set m y (by omega)
                    have J := Lib.hid (And.intro hs1 (And.intro (hqd.far hs2 (by omega)) (And.intro ((hs2.block g8 ((Array.getElem?_eq_some_iff.1 hqc).1) (fun e => by cases e; omega)).trans hqc) (And.intro (below_only hqb (Nat.le_refl _) hs2 (fun q hq => by cases hq; omega)) hll))))
                    have nj : 0 ≤ (m : Int) := by omega
                    have lj : (m : Int) < (gl.length : Int) := by omega
                    clear hs1 hs2 hob hqd hqc hqb hcell hfro hx hy hll
                    go_wp2_with fail
                    go_roundw
                    case rel => exact ⟨m + 1, by omega, by go_num, l2.set m y, by rw [List.length_set]; exact J.out.2.2.2.2, by have h := J.out.1; rw [J.out.2.2.2.2] at h; first | exact h | (rw [hym]; exact h), J.out.2.1, J.out.2.2.1, J.out.2.2.2.1⟩
                    case measure => simp [intOf]; omega
                  · obtain rfl : m = gl.length := by omega
                    have hd : decide ((gl.length : Int) < (gl.length : Int)) = false := by simp
                    have J := Lib.hid (And.intro hqd (And.intro hqc hqb))
                    clear hob hqd hqc hqb hll hltm hm
                    go_wp2_with fail
                    go_roundw
                    case rel => exact ⟨j + 1, by omega, by go_num, ⟨rl, true⟩, hr3, J.out.1, ⟨_, _, J.out.2.1, U6.out⟩, J.out.2.2⟩
                    case measure => simp [intOf]; omega
        · obtain rfl : j = ks.length := by omega
          have hd : decide ((ks.length : Int) < (ks.length : Int)) = false := by simp
          clear hrd hrf hbw hlt hj
          go_wp2_with fail
          go_ret
          exact ⟨rfl, B4.out⟩

theorem wireMatchesReference_walk (w : World) (v : Value) (l : List Nat) (h : Rs w v l) (u : Value) (ks : List (Int × Int)) (hk : Ops w u ks) :
    Calls Try.prog 5 #[v, u] w (RetBool true w) := by
  by_cases hl : 300 < l.length
  · exact wireMR_out w v l h u ks hk (.inl hl)
  · by_cases hks : 100 < ks.length
    · exact wireMR_out w v l h u ks hk (.inr ⟨hl, hks⟩)
    · exact wireMR_in w v l h u ks hk (by omega) (by omega)
end Go.Proofs.Ythfbcpbjnfdnkaa
