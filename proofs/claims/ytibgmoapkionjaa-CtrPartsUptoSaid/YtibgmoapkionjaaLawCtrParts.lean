/- The result does not depend on how the bytes are divided among calls of Next: for every key, nonce and list of byte slices that holds at most 1048576 values the law returns true. -/
import Derived.Test.YtibgmoapkionjaaCtrKit
import Derived.JoinedCond
namespace Go.Proofs.Ytibgmoapkionjaa
open Go.ChangeShapes Go.WideShapes Go.ChangeAt Go.RowKit Go.Deep

theorem Rs.only' {w w' : World} {u : Value} {l : List Nat} {r : Option Nat} (h : Rs w u l) (k : w.grownBy w' r) (hne : u.ownBlock = none ∨ u.ownBlock ≠ r) : Rs w' u l := by
  obtain ⟨h0, h1, h | ⟨x, cap, rfl, hcap, hc⟩⟩ := h
  · exact ⟨h0, h1, .inl h⟩
  · refine ⟨h0, h1, .inr ⟨x, cap, rfl, hcap, fun i hi => k.cell (hc i hi) ?_⟩⟩
    rcases hne with h | h
    · simp [Value.ownBlock] at h
    · have e : (x.add i).block = x.block := by unfold Addr.add; split <;> rfl
      rw [e]; exact h
attribute [local irreducible] wpAnyH in
set_option maxRecDepth 100000 in
set_option maxHeartbeats 4000000 in
theorem ctrParts_out (key nonce : Nat → Nat) (v : Value) (ll : List (List Nat)) (w0 : World) (hv : Bss w0 v ll) (hl : 20 < ll.length) (w : World) :
    Calls Try.prog 10 #[.agg (arr .u8 16 key), .agg (arr .u8 8 nonce), v] w (RetBool true w) := by
  have hsz := arr_size .u8 16 key
  have hsz2 := arr_size .u8 8 nonce
  obtain ⟨xa, xc, rfl, -, -⟩ := hv
  go_enter Try.func10, Try.ntmps10
  go_wp2_with fail
  refine (ctrAwake_any _).mono ?_
  rintro e w1 ⟨rfl, hb1⟩
  have B1 := Lib.hid ((((Below.refl w.heap.size w).alloc (Nat.le_refl _) (.cells (arr .u8 16 key) 22)).alloc (by simp) (.cells (arr .u8 8 nonce) 40)).trans (hb1.mono (by simp; omega)))
  clear hb1
  go_wp2_with fail
  refine (ctrAwake_any _).mono ?_
  rintro e w2 ⟨rfl, hb2⟩
  have B2 := Lib.hid (B1.out.trans (hb2.mono B1.out.size)); clear hb2 B1
  go_wp2_with fail
  go_ret
  exact ⟨rfl, B2.out⟩

set_option maxRecDepth 100000 in
set_option maxHeartbeats 4000000 in
theorem ctrParts_core (key nonce : Nat → Nat) (hk : Aes.B8 key) (hn : Aes.B8 nonce) (v : Value) (ll : List (List Nat)) (w : World) (hv : Bss w v ll) (hl : ll.length ≤ 20) (hj : (Wir.join ll).length ≤ 1048576) :
    Calls Try.prog 10 #[.agg (arr .u8 16 key), .agg (arr .u8 8 nonce), v] w (RetBool true w) := by
  have HV := Lib.hid hv
  obtain ⟨xa, xc, rfl, -, -⟩ := hv
  have d20 : decide (20 < (ll.length : Int)) = false := by simp; omega
  have hsz := arr_size .u8 16 key
  have hsz2 := arr_size .u8 8 nonce
  go_enter Try.func10, Try.ntmps10
  go_wp2_with fail
  refine (ctrAwake_any _).mono ?_
  rintro e w1 ⟨rfl, hb1⟩
  go_upto_region 3 with fail
  obtain ⟨a1, a2, a3⟩ := kn_boxes w key nonce
  have h1 := a1.below hb1 (by simp; omega)
  have h2 := a2.below hb1 (by simp)
  have VB := Lib.hid (a3.trans (hb1.mono (by simp; omega)))
  have VA := Lib.hid (And.intro h1 h2)
  have hz := h2.lt
  clear a1 a2 a3 h1 h2 hb1
  obtain ⟨V, hV⟩ : ∃ V : World, V = w1 := ⟨_, rfl⟩
  rw [← hV] at VA VB hz ⊢
  clear hV
  generalize hn0 : w.heap.size = n0 at VA VB hz ⊢
  obtain ⟨n1, hn1⟩ : ∃ n1, n1 = n0 + 1 := ⟨_, rfl⟩
  rw [← hn1] at VA hz ⊢
  have HN1 := Lib.hid hn1; clear hn1
  have L1 := cells_at VA.out.1
  have L2 := cells_at VA.out.2
  have RV := Lib.hid (show Bss V (.slice xa ll.length xc) ll by subst hn0; exact HV.out.below VB.out)
  have hn0' : n0 ≤ V.heap.size := by have := VB.out.size; omega
  go_wp2_with fail
  refine (refJoin_any _ _ _ RV.out (by omega)).mono ?_
  rintro e w2 ⟨v2, rfl, ho2, hb2⟩
  have k1 := VA.out.1.below hb2 VA.out.1.lt
  have k2 := VA.out.2.below hb2 VA.out.2.lt
  have B2 := Lib.hid (VB.out.trans (hb2.mono (by omega)))
  have O2 := Lib.hid ho2.bs
  obtain ⟨ja, jc, rfl⟩ := ho2.form
  have hV2 := hb2.size
  clear hb2 ho2 RV
  by_cases hlong : 1000 < (Wir.join ll).length
  · go_wp2_with fail
    go_ret
    subst hn0
    exact ⟨rfl, B2.out⟩
  · have d1000 : decide (1000 < ((Wir.join ll).length : Int)) = false := by simp; omega
    go_upto_region 6 with fail
    go_wp2_with (first | refine wpList_load_row rfl _ _ rfl n0 rfl _ _ (0, 0) _ k1 rfl rfl (info16 _) ?_ | refine wpList_load_row rfl _ _ rfl n1 rfl _ _ (0, 0) _ k2 rfl rfl (info8 _) ?_ | refine wpList_load_rowG (by kernel_rfl) _ _ rfl n0 rfl _ _ (0, 0) _ k1 rfl rfl (info16 _) ?_ | refine wpList_load_rowG (by kernel_rfl) _ _ rfl n1 rfl _ _ (0, 0) _ k2 rfl rfl (info8 _) ?_)
    refine (ctrnew_any key nonce _).mono ?_
    rintro e w3 ⟨p, rfl, hp, hcp, hb3⟩
    have k1 := k1.below hb3 k1.lt
    have k2 := k2.below hb3 k2.lt
    have hs2 := B2.out.size
    have B3 := Lib.hid (B2.out.trans (hb3.mono (by omega)))
    have O3 := Lib.hid (O2.out.below hb3)
    have OL := Lib.hid (fun b hb => Nat.lt_of_lt_of_le (O2.out.lt b hb) hp)
    have P3 := Lib.hid hcp
    have hpn : n0 + 2 ≤ p := by have := HN1.out; have := VA.out.2.lt; omega
    clear hb3 hcp B2 O2
    go_wp2_with fail
    go_loopw [9, 10, 11] (fun g n i wr => ∃ m : Nat, m ≤ ll.length ∧ i = .int .i64 (m : Int) ∧ n = .int .i64 ((Wir.join (ll.take m)).length : Int) ∧ Own wr (p + 1) g (Ctr.crypt key nonce 0 (Wir.join (ll.take m))) ∧ isCph wr p key nonce ((Wir.join (ll.take m)).length : Int) ∧ Below n0 w wr ∧ isArr wr n0 22 .u8 16 key ∧ isArr wr n1 40 .u8 8 nonce ∧ Bs wr (.slice ja (Wir.join ll).length jc) (Wir.join ll)) (fun _ _ i _ => ll.length - (intOf i).toNat)
    case atStart => exact ⟨0, by omega, rfl, by simp [Wir.join], Own.nil _ _, by simpa [Wir.join] using P3.out, B3.out, k1, k2, O3.out⟩
    case round =>
      clear B3 O3 P3 k1 k2
      obtain ⟨m, hm, rfl, rfl, hg, hc, hb, k1, k2, hall⟩ := hrel
      have HG := Lib.hid hg; have HC := Lib.hid hc; have HB := Lib.hid hb; have K1 := Lib.hid k1; have K2 := Lib.hid k2; have HA := Lib.hid hall
      have hpw := hc.lt
      by_cases hlt : m < ll.length
      · obtain ⟨b, off, u, rfl, hu, hr⟩ := HV.out.at hlt
        have hbw : b < n0 := by have := World.block_lt_of_cell? w _ hu; simp at this; omega
        have hur : wr.cell? ⟨b, off + m, none⟩ = some u := (hb.cell (p := ⟨b, off + m, none⟩) hbw).trans hu
        have R0 := Lib.hid hr
        have HU := Lib.hid hu
        obtain ⟨ua, uc, rfl⟩ := hr.form
        have lm : (m : Int) < (ll.length : Int) := by omega
        have nm : 0 ≤ (m : Int) := by omega
        have hgl := Wir.get_le ll m hlt
        have JS := Lib.hid (Wir.join_snoc ll m hlt)
        obtain ⟨ga, gc, rfl⟩ := hg.form
        rw [Ctr.crypt_length] at HG ⊢
        generalize hx : ll.getD m [] = x at R0 JS hgl hur HU
        clear hx
        generalize hy : Wir.join (ll.take m) = y at HG HC JS hgl
        clear hy
        clear hg hc hb k1 k2 hall hr hu
        go_wp2_with fail
        refine (ctrnext_any p key nonce y.length _ x _ hk hn HC.out (R0.out.below (by rw [hn0]; exact HB.out)) (by omega) (by omega)).mono ?_
        rintro e w4 ⟨v4, rfl, ho4, hc4, hg4⟩
        have G4 := HG.out.only hg4 (by cases hq : (Value.slice ga y.length gc).ownBlock with | none => exact .inl rfl | some q => exact .inr (fun e => by cases e; have := (HG.out.lt _ hq).1; omega))
        have B4 := below_only HB.out (Nat.le_of_eq hn0.symm) hg4 (fun q hq => by cases hq; omega)
        have A4 := HA.out.only hg4 (by cases hq : (Value.slice ja (Wir.join ll).length jc).ownBlock with | none => exact .inl rfl | some q => exact .inr (fun e => by cases e; have := OL.out _ hq; omega))
        have K14 := K1.out.of_block (hg4.block _ K1.out.lt (by simp; omega))
        have K24 := K2.out.of_block (hg4.block _ K2.out.lt (by simp; have := HN1.out; omega))
        have HG4 := Lib.hid G4; have HB4 := Lib.hid B4; have HA4 := Lib.hid A4; have HK1 := Lib.hid K14; have HK2 := Lib.hid K24; have HC4 := Lib.hid hc4
        have O4 := Lib.hid ho4
        obtain ⟨wa, wc, rfl⟩ := ho4.form
        rw [Ctr.crypt_length] at O4 ⊢
        have hpw4 : p + 1 ≤ w4.heap.size := Nat.lt_of_lt_of_le hpw hg4.size
        have hOp : ∀ q, (Value.slice wa x.length wc).ownBlock = some q → p < q := fun q hq => by have := (O4.out.lt q hq).1; omega
        clear ho4 hc4 hg4 G4 B4 A4 K14 K24 hur HG HC HB HA K1 K2
        go_wp2_with (at_builtin; go_must (refine wpList_append_rs rfl _ _ rfl (p + 1) (.slice ga y.length gc) (Ctr.crypt key nonce 0 y) rfl HG4.out (.slice wa x.length wc) (Ctr.crypt key nonce y.length x) rfl O4.out.bs.rs (by rw [Ctr.crypt_length, Ctr.crypt_length]; omega) hpw4 ?_; intro v5 w5 hown5 hgr5; have hur := (below_only HB4.out (Nat.le_of_eq hn0.symm) hgr5 (fun q hq => by have := (HG4.out.lt q hq).1; omega)).cell (p := ⟨b, off + m, none⟩) hbw |>.trans HU.out))
        have B5 := Lib.hid (below_only HB4.out (Nat.le_of_eq hn0.symm) hgr5 (fun q hq => by have := (HG4.out.lt q hq).1; omega))
        obtain ⟨z, hz⟩ : ∃ z, z = y.length + x.length := ⟨_, rfl⟩
        have C5 := Lib.hid (show isCph w5 p key nonce (z : Int) from by rw [hz]; exact (hgr5.block p HC4.out.lt (fun e => by have := (HG4.out.lt p e.symm).1; omega)).trans HC4.out)
        have A5 := Lib.hid (HA4.out.only hgr5 (by cases hq : (Value.slice ja (Wir.join ll).length jc).ownBlock with | none => exact .inl rfl | some q => exact .inr (fun e => by have := (HG4.out.lt q e.symm).1; have := OL.out _ hq; omega)))
        have K15 := Lib.hid (HK1.out.of_block (hgr5.block _ HK1.out.lt (fun e => by have := (HG4.out.lt n0 e.symm).1; omega)))
        have K25 := Lib.hid (HK2.out.of_block (hgr5.block _ HK2.out.lt (fun e => by have := (HG4.out.lt n1 e.symm).1; have := HN1.out; omega)))
        have hadd : (y.length : Int) + (x.length : Int) = (z : Int) := by omega
        have HZ := Lib.hid hz; clear hz
        have HJ := Lib.hid (show Ctr.crypt key nonce 0 y ++ Ctr.crypt key nonce y.length x = Ctr.crypt key nonce 0 (Wir.join (ll.take (m + 1))) by rw [JS.out, Ctr.crypt_append, Nat.zero_add])
        have HLN := Lib.hid (show y.length + x.length = (Wir.join (ll.take (m + 1))).length by rw [JS.out, List.length_append])
        rw [HJ.out] at hown5
        have O5 := Lib.hid hown5
        clear hown5 hgr5 HG4 HB4 HC4 HA4 HK1 HK2 O4 hOp
        go_wp2_with fail
        refine (ctrused_any p key nonce _ _ C5.out).mono ?_
        rintro e w6 ⟨rfl, rfl⟩
        go_wp2_with fail
        go_roundw
        case rel => exact ⟨m + 1, by omega, by go_num, by rw [← HLN.out, ← HZ.out], O5.out, by rw [← HLN.out, ← HZ.out]; exact C5.out, B5.out, K15.out, K25.out, A5.out⟩
        case measure => simp [intOf]; omega
      · obtain rfl : m = ll.length := by omega
        have hd : decide ((ll.length : Int) < (ll.length : Int)) = false := by simp
        rw [List.take_length] at HG
        clear hg hc hb k1 k2 hall hlt hm HC hpw
        have k1 := K1.out
        have k2 := K2.out
        obtain ⟨ga, gc, hgf⟩ := HG.out.form
        subst hgf
        go_wp2_with (first | refine wpList_load_row rfl _ _ rfl n0 rfl _ _ (0, 0) _ k1 rfl rfl (info16 _) ?_ | refine wpList_load_row rfl _ _ rfl n1 rfl _ _ (0, 0) _ k2 rfl rfl (info8 _) ?_ | refine wpList_load_rowG (by kernel_rfl) _ _ rfl n0 rfl _ _ (0, 0) _ k1 rfl rfl (info16 _) ?_ | refine wpList_load_rowG (by kernel_rfl) _ _ rfl n1 rfl _ _ (0, 0) _ k2 rfl rfl (info8 _) ?_)
        refine (refcrypt_any key nonce _ (Wir.join ll) _ hk hn HA.out.rs (by omega)).mono ?_
        rintro e w4 ⟨v4, rfl, ho4, hb4⟩
        have B4 := Lib.hid (HB.out.trans (hb4.mono (by have := HB.out.size; omega)))
        have G4 := Lib.hid (HG.out.below hb4)
        have O4 := Lib.hid ho4
        clear hb4 ho4 k1 k2 HB HG HA K1 K2
        go_wp2_with fail
        refine (same_yes _ _ _ _ G4.out.bs.rs O4.out.bs.rs).mono ?_
        rintro e w5 ⟨rfl, hb5⟩
        have B5 := Lib.hid (B4.out.trans (hb5.mono (by have := B4.out.size; omega)))
        clear hb5 B4 G4 O4
        go_wp2_with fail
        go_ret
        subst hn0
        exact ⟨rfl, B5.out⟩

theorem ctrParts_walk (w : World) (f : Nat → Int) (wf : ∀ j, j < 16 → (Lit.int .u8 (f j)).wf = true) (g : Nat → Int) (wg : ∀ j, j < 8 → (Lit.int .u8 (g j)).wf = true) (v : Value) (ll : List (List Nat)) (hv : Bss w v ll) (hj : (Wir.join ll).length ≤ 1048576) :
    Calls Try.prog 10 #[.agg ((List.range 16).map fun i => Value.int .u8 (f i)).toArray, .agg ((List.range 8).map fun i => Value.int .u8 (g i)).toArray, v] w (RetBool true w) := by
  obtain ⟨key, hk, e1⟩ := bytes_arg f wf
  obtain ⟨nonce, hn, e2⟩ := bytes_arg g wg
  rw [e1, e2]
  by_cases hl : 20 < ll.length
  · exact ctrParts_out key nonce v ll w hv hl w
  · exact ctrParts_core key nonce hk hn v ll w hv (by omega) hj

/-! ### THE ROW's STEP -/
namespace ctrPartsF
theorem own : ownKnob Try.prog.godebug = none := by kernel_rfl
theorem laidOut : laidOutB Try.prog = true := by kernel_rfl
set_option maxRecDepth 100000 in
theorem lifted (os : Os) (started : os.Started) (H : Type) (enc : TypeId × Value → H) (F : Stop.Interp) :
    ReturnsInHanded {} Try.checked os 10 .any ((Rows.OpenSpec.upto Rows.ctrPartsSpec).pre6 enc Try.prog Try.f10 Rows.ctrPartsUptoRow.domain false) (((Rows.OpenSpec.upto Rows.ctrPartsSpec).at F).post enc Try.prog Try.f10 false true false false) := by
  refine returnsInHanded_of_cond (C := Try.checked) (s := Rows.OpenSpec.upto Rows.ctrPartsSpec) (k := Rows.uptoSmall) rfl own started (by kernel_rfl) Try.func10
    (OpenSpec.witness (enc := enc) (C := Try.checked) (s := Rows.OpenSpec.upto Rows.ctrPartsSpec) (k := Rows.uptoSmall) rfl false ⟨#[], #[.agg #[.int .u8 0, .int .u8 0, .int .u8 0, .int .u8 0, .int .u8 0, .int .u8 0, .int .u8 0, .int .u8 0, .int .u8 0, .int .u8 0, .int .u8 0, .int .u8 0, .int .u8 0, .int .u8 0, .int .u8 0, .int .u8 0], .agg #[.int .u8 0, .int .u8 0, .int .u8 0, .int .u8 0, .int .u8 0, .int .u8 0, .int .u8 0, .int .u8 0], .slice none 0 0], []⟩ 8 (by kernel_rfl) (by kernel_rfl) (by kernel_rfl)
      (x := ([.agg [.lit (.int .u8 0), .lit (.int .u8 0), .lit (.int .u8 0), .lit (.int .u8 0), .lit (.int .u8 0), .lit (.int .u8 0), .lit (.int .u8 0), .lit (.int .u8 0), .lit (.int .u8 0), .lit (.int .u8 0), .lit (.int .u8 0), .lit (.int .u8 0), .lit (.int .u8 0), .lit (.int .u8 0), .lit (.int .u8 0), .lit (.int .u8 0)], .agg [.lit (.int .u8 0), .lit (.int .u8 0), .lit (.int .u8 0), .lit (.int .u8 0), .lit (.int .u8 0), .lit (.int .u8 0), .lit (.int .u8 0), .lit (.int .u8 0)], .nil], [], [])) (by kernel_rfl) rfl (by kernel_rfl)) ?_
  intro W base args ds gs before hval0 hW _ hcond _
  have hk0 := of_decide_eq_true hcond
  have hval : ∀ (j : Nat) t v, Try.f10.params[j]? = some t → args[j]? = some v → Value.okWide Try.prog W .any base t v := hval0
  have hW' := hW
  obtain ⟨p, q, hA0, hV, rfl, _, _⟩ := hW
  have hA : DataW.TrodAll enc Try.prog W 0 (fun _ => true) true Try.f10.params.toList args.toList ds p := hA0
  rw [Try.params10] at hA hval
  obtain ⟨v0, vs0, d0, ds0, p0, q0, hargs, rfl, rfl, h0, r0⟩ := trodAll_cons hA
  obtain ⟨v1, vs1, d1, ds1, p1, q1, rfl, rfl, rfl, h1, r1⟩ := trodAll_cons r0
  obtain ⟨v2, vs2, d2, ds2, p2, q2, rfl, rfl, rfl, h2, r2⟩ := trodAll_cons r1
  obtain ⟨rfl, rfl, rfl⟩ := trodAll_nil r2
  obtain rfl : args = #[v0, v1, v2] := by cases args; simp_all
  obtain ⟨rfl, rfl⟩ := trodVars_none hV
  have k0 := h0
  have lt0 : ∀ x ∈ p0, x.block < W.heap.size := by obtain ⟨m, hm⟩ := k0; exact DataW.trod_lt m _ _ _ hm
  obtain ⟨a0, rfl, w0⟩ := open_int_array Try.underlying22 Try.underlying5 (by kernel_rfl) (by kernel_rfl) (hval 0 22 v0 rfl rfl) h0
  have k1 := h1
  have lt1 : ∀ x ∈ p1, x.block < W.heap.size := by obtain ⟨m, hm⟩ := k1; exact DataW.trod_lt m _ _ _ hm
  obtain ⟨a1, rfl, w1⟩ := open_int_array Try.underlying40 Try.underlying5 (by kernel_rfl) (by kernel_rfl) (hval 1 40 v1 rfl rfl) h1
  have k2 := h2
  have lt2 : ∀ x ∈ p2, x.block < W.heap.size := by obtain ⟨m, hm⟩ := k2; exact DataW.trod_lt m _ _ _ hm
  obtain ⟨a2, len2, cap2, rfl⟩ := okWide_slice Try.underlying48 (hval 2 48 v2 rfl rfl)
  obtain ⟨z2, w2, b2, c2⟩ := open_byteslists_bulk Try.underlying48 Try.underlying43 Try.underlying5 (by kernel_rfl) (by kernel_rfl) h2
  refine (ctrParts_walk W a0 w0 a1 w1 _ z2 w2 (by simp only [List.cons_append, List.nil_append, Rows.uptoBulkAll] at hk0; omega)).mono fun e W' ⟨he, bel⟩ => ?_
  subst he
  exact ⟨_, rfl, _, _, _, [], _, [], hW', trodAll_mk1 (shut_bool Try.underlying4 _), (trodAll_cons_mk (Below.trod laidOut (by kernel_rfl) (of_decide_eq_true (by kernel_rfl)) k0 bel lt0) (trodAll_cons_mk (Below.trod laidOut (by kernel_rfl) (of_decide_eq_true (by kernel_rfl)) k1 bel lt1) (trodAll_cons_mk (Below.trod laidOut (by kernel_rfl) (of_decide_eq_true (by kernel_rfl)) k2 bel lt2) trodAll_mk0))), rfl, bel.frame _, fun h => by cases h⟩
theorem over : Rows.ctrPartsUptoRow.holds Try.pinned (Rows.OpenSpec.upto Rows.ctrPartsSpec) :=
  OpenClaim.holds_of_cond 10 Try.f10 rfl rfl rfl rfl rfl rfl rfl ⟨rfl, rfl, rfl, rfl, rfl⟩ rfl rfl rfl rfl rfl (by kernel_rfl) Try.func10 (by kernel_rfl)
    (of_decide_eq_true (by kernel_rfl)) (by unfold Func.isWrapper; first | (rw [if_pos (by decide +kernel)]; kernel_rfl) | (rw [if_neg (by decide +kernel)]; exact ⟨rfl, rfl⟩))
    (fun os started H enc _ F => lifted os started H enc F)
end ctrPartsF
/-- The statement. -/
theorem ctrParts_holds : Rows.CtrPartsUptoSaid := ctrPartsF.over
#print axioms ctrParts_holds
end Go.Proofs.Ytibgmoapkionjaa
