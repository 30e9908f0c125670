/- Layer 14: Open, in the reference. -/
import Derived.Test.YtnhchdkchohnbaaGreatDoorReqX
import Derived.Test.YtnhchdkchohnbaaGreatDoorAutO
namespace Go.Proofs.YtnhchdkchohnbaaGreatDoor
open Go.RowKit Go.Deep

/-- A store of a row in a drawn region. -/
theorem reg_row {ops : Array Oper} {S : World → Prop} {K : Act → World → Prop} {n : Nat} {listed : Array Bool} {a : Act} {w : World} (i : Nat) (hr : Region.ready .any ops listed = [i]) (h1 : Nat.blt i ops.size = true) (hw : Region.wanted (opn ops i) (yielded ops a.tmps) = true) (ty : TypeId) (x y : Operand)
    (ho : (opn ops i).op = .store ty x y) (hd : (opn ops i).dst = none) (g : Nat) (cells old : Array Value) (hx : a.eval x = .pointer (some ⟨g, 0, none⟩)) (hy : a.eval y = .agg cells) (t : TypeId) (hg : Hb w g old t) (hi : (Tryz.prog.info? ty).map (·.size) = some cells.size) (hsz : old.size = cells.size) (hone : cells.all (·.oneCell') = true) (hS : S (w.setRow g cells))
    (h : wpAnyH Tryz.prog .any ops (nq K) S n (listed.setIfInBounds i true) a (w.setRow g cells)) : wpAnyH Tryz.prog .any ops (nq K) S (n + 1) listed a w :=
  reg_one i hr h1 (HStep.of_law #[] hw fun _ hK => wpList_store_rowTo rfl ty x y ho hd g cells hx hy t old hg hi hsz hone (lawQ_done (hK _ _ hS h)))
set_option maxRecDepth 100000 in
set_option maxHeartbeats 8000000 in
theorem refrqopen_any (key : Nat → Nat) (v : Value) (l : List Nat) (w : World) (hk : Aes.B8 key) (hv : Rs w v l) (hl : l.length ≤ 1000000) (hK : Consts w Sha.tab) :
    Calls Tryz.prog 24 #[.agg (arr .u8 16 key), v] w (RetOpn w (Req.opn key l)) := by
  have HK := Lib.hid hK; clear hK
  obtain ⟨a, cap, rfl⟩ := hv.form
  have HV := Lib.hid hv; clear hv
  have s1 := arr_size .u8 16 key
  obtain ⟨V, hV, a0, t0, z0, G0⟩ := open_boxes w key
  generalize hR : Req.opn key l = R
  have HR := Lib.hid hR; clear hR
  go_enter Tryz.func24, Tryz.ntmps24
  go_upto_region 1 with fail
  rw [tk0, au0, ← hV]
  clear hV
  obtain ⟨ba, hba0⟩ : ∃ n, n = w.heap.size + 1 + 1 := ⟨_, rfl⟩
  rw [← hba0] at z0 ⊢
  obtain ⟨bt, hbt0⟩ : ∃ n, n = w.heap.size + 1 := ⟨_, rfl⟩
  rw [← hbt0] at t0 ⊢
  have hbt : w.heap.size ≤ bt := by omega
  have hba : w.heap.size ≤ ba := by omega
  have hlt : bt < ba := by omega
  have hkb : w.heap.size < bt := by omega
  have hza := z0.lt
  clear hba0 hbt0
  go_wp2_with fail
  refine (refrqparse_any _ l V (HV.out.below (below_of_only G0)) (by omega)).mono ?_
  rw [← Req.parse_ref HV.out.1]
  rintro e w1 ⟨hb1, u1, v1, x, y, rfl, ox, oy, hxy⟩
  obtain ⟨ua, uc, rfl⟩ := ox.form
  obtain ⟨va, vc, rfl⟩ := oy.form
  have F1 := only_of_below hb1 none
  have a2 := isArr.only a0 F1
  have t2 := t0.only F1
  have z2 := z0.only F1
  have G2 := only_trans G0 F1
  clear a0 t0 z0 G0 F1 hb1
  cases hp : Req.parse l with
  | none =>
    have E1 := Lib.hid (show R = (tic0, aut0, 1) by rw [← HR.out]; unfold Req.opn; rw [hp])
    clear HR hxy hp a2 ox oy
    have zf := t2.row (tk ⟨#[]⟩ (.slice none 0 0) 0 0 (fun _ => 0))
    have y0 := z2.keep zf.2 (by simp; omega)
    have yf := y0.row (au ⟨#[]⟩ (.slice none 0 0) 0 0 0)
    go_wp2_with (first | refine wpList_buildTo rfl 41 _ rfl _ rfl (tk ⟨#[]⟩ (.slice none 0 0) 0 0 (fun _ => 0)) (by kernel_rfl) ?_ | refine wpList_buildTo rfl 32 _ rfl _ rfl (au ⟨#[]⟩ (.slice none 0 0) 0 0 0) (by kernel_rfl) ?_ | refine wpList_store_rowTo rfl _ _ _ rfl rfl bt _ rfl rfl _ _ t2 (info_tk _ _ _ _ _) (by simp only [tk_size]) (tk_one _ _ _ _ _ rfl) ?_ | refine wpList_store_rowTo rfl _ _ _ rfl rfl ba _ rfl rfl _ _ y0 (info_au _ _ _ _ _) (by simp only [au_size]) (au_one _ _ _ _ _ rfl) ?_)
    try simp only [Exit.inBlock, Exit.then, Exit.noGoto_ret]
    refine bodyPost_ret (results_rows_tmp rfl _ _ bt ba _ _ _ _ (0, 0) (0, 0) _ _ rfl (zf.1.keep yf.2 (by simp; omega)) rfl rfl (info_tk _ _ _ _ _) rfl yf.1 rfl rfl (info_au _ _ _ _ _)) rfl ?_
    rw [E1.out]
    exact retOpn_zero (below_of_only (grown_new (grown_new G2 zf.2 hbt) yf.2 hba)) rfl
  | some p =>
    have hps := Req.bytes_some (Req.parse_some HV.out.1 (show Req.parse l = some (p.1, p.2) by rw [hp]))
    rw [hp] at hxy
    obtain rfl : (x, y) = p := hxy
    dsimp only at hps
    have HL := Lib.hid (show x.length ≤ 1000000 ∧ y.length ≤ 1000000 by omega)
    have HR2 := Lib.hid (show (if (Tic.opn key x).2 ≠ 0 then (tic0, aut0, (Tic.opn key x).2) else if (Aut.opn (tkey (Tic.opn key x).1) y).2 ≠ 0 then (tic0, aut0, (Aut.opn (tkey (Tic.opn key x).1) y).2) else ((Tic.opn key x).1, (Aut.opn (tkey (Tic.opn key x).1) y).1, 0)) = R by
      rw [← HR.out]; unfold Req.opn; rw [hp])
    clear HR hp hps
    go_wp2_with (refine wpList_load_row rfl _ _ rfl w.heap.size rfl _ _ (0, 0) _ a2 rfl rfl (info16s _) ?_)
    refine (reftkopen_any key _ x w1 hk ox HL.out.1 (HK.out.below (below_of_only G2))).mono ?_
    rintro e w3 ⟨hb3, q, u, ss, s, xx, kt, rfl, o3, hq, hkt, htt⟩
    obtain ⟨u3, c3, rfl⟩ := o3.ss.form
    have g3 := only_of_below hb3 none
    have F := fresh_row w3 #[.string ⟨#[]⟩, .slice none 0 0, .int .i64 0, .int .i64 0, .int .u8 0, .int .u8 0, .int .u8 0, .int .u8 0, .int .u8 0, .int .u8 0, .int .u8 0, .int .u8 0, .int .u8 0, .int .u8 0, .int .u8 0, .int .u8 0, .int .u8 0, .int .u8 0, .int .u8 0, .int .u8 0] (tk q (.slice u3 ss.length c3) s xx kt) 41
    have g4 := only_trans g3 F.2
    have t4 := t2.only g4
    have z4 := z2.only g4
    have G4 := only_trans G2 g4
    have T4 := F.1
    have O4 := Lib.hid (o3.below (below_of_only F.2))
    have oy4 := oy.below (below_of_only g4)
    have hw1 := G2.size
    have hw3 := g3.size
    have hta := t2.lt
    have hza2 := z2.lt
    have hgs : (tk q (.slice u3 ss.length c3) s xx kt).size = 20 := tk_size _ _ _ _ _
    clear a2 t2 z2 G2 hb3 o3 g3 g4 ox oy
    generalize Tic.opn key x = C at *
    obtain ⟨tv, tc⟩ := C
    dsimp only at htt HR2 ⊢
    go_upto_region 5 with (refine wpList_store_rowTo rfl _ _ _ rfl rfl w3.heap.size _ rfl rfl _ _ (heap_alloc_new _ _) (info_tk _ _ _ _ _) (by rw [tk_size]; rfl) (tk_one _ _ _ _ _ rfl) ?_)
    generalize World.setRow _ w3.heap.size _ = W4 at *
    obtain ⟨b10, hb10⟩ : ∃ n, n = w3.heap.size := ⟨_, rfl⟩
    rw [← hb10] at T4 ⊢
    have hb10' : w1.heap.size ≤ b10 := by omega
    have hb10t := T4.lt
    clear F hb10
    by_cases hc : tc = 0
    rotate_left
    · have E1 := Lib.hid (show R = (tic0, aut0, tc) by rw [← HR2.out, if_pos hc])
      have hne : (tc != 0) = true := by rw [bne_iff_ne]; exact hc
      clear HR2 htt O4 oy4 T4
      have zf := t4.row (tk ⟨#[]⟩ (.slice none 0 0) 0 0 (fun _ => 0))
      have y0 := z4.keep zf.2 (by simp; omega)
      have yf := y0.row (au ⟨#[]⟩ (.slice none 0 0) 0 0 0)
      go_wp2_with (first | refine wpList_buildTo rfl 41 _ rfl _ rfl (tk ⟨#[]⟩ (.slice none 0 0) 0 0 (fun _ => 0)) (by kernel_rfl) ?_ | refine wpList_buildTo rfl 32 _ rfl _ rfl (au ⟨#[]⟩ (.slice none 0 0) 0 0 0) (by kernel_rfl) ?_ | refine wpList_store_rowTo rfl _ _ _ rfl rfl bt _ rfl rfl _ _ t4 (info_tk _ _ _ _ _) (by simp only [tk_size]) (tk_one _ _ _ _ _ rfl) ?_ | refine wpList_store_rowTo rfl _ _ _ rfl rfl ba _ rfl rfl _ _ y0 (info_au _ _ _ _ _) (by simp only [au_size]) (au_one _ _ _ _ _ rfl) ?_)
      try simp only [Exit.inBlock, Exit.then, Exit.noGoto_ret]
      refine bodyPost_ret (results_rows_tmp rfl _ _ bt ba _ _ _ _ (0, 0) (0, 0) _ _ rfl (zf.1.keep yf.2 (by simp; omega)) rfl rfl (info_tk _ _ _ _ _) rfl yf.1 rfl rfl (info_au _ _ _ _ _)) rfl ?_
      rw [E1.out]
      exact retOpn_zero (below_of_only (grown_new (grown_new G4 zf.2 hbt) yf.2 hba)) rfl
    subst hc
    have HR3 := Lib.hid (show (if (Aut.opn (tkey tv) y).2 ≠ 0 then (tic0, aut0, (Aut.opn (tkey tv) y).2) else (tv, (Aut.opn (tkey tv) y).1, 0)) = R by rw [← HR2.out]; exact (if_neg (fun h : (0 : Int) ≠ 0 => h rfl)).symm)
    have hkk : arr .u8 16 kt = arr .u8 16 (tkey tv) := by rw [← htt]; exact arr_tkey _ _ _ _ _
    have hk8 : Aes.B8 (tkey tv) := by rw [← htt]; exact tkey_b8 hkt
    have ck : ∀ j v, (arr .u8 16 (tkey tv))[j]? = some v → W4.cell? ((⟨b10, 4, none⟩ : Addr).add j) = some v := fun j v hj => by
      rw [← hkk] at hj
      rw [Addr.add_lit]
      exact T4.cell ((tk_key _ _ _ _ _ j).trans hj)
    have CK := Lib.hid ck
    have HTT := Lib.hid htt
    have s2 := arr_size .u8 16 (tkey tv)
    clear HR2 hkk ck htt
    generalize tkey tv = kk at *
    go_wp2_with (refine wpList_load_arrG (by kernel_rfl) _ _ rfl ⟨b10, 4, none⟩ rfl _ _ CK.out rfl rfl (info16s _) ?_)
    refine (refauopen_any kk _ y W4 hk8 oy4 HL.out.2 (HK.out.below (below_of_only G4))).mono ?_
    rintro e w5 ⟨hb5, r, v, tt, t, m, z, rfl, o5, hr, hm, hz, hat⟩
    obtain ⟨u5, c5, rfl⟩ := o5.ss.form
    have g5 := only_of_below hb5 none
    have F := fresh_row w5 #[.string ⟨#[]⟩, .slice none 0 0, .int .i64 0, .int .u32 0, .int .u32 0] (au r (.slice u5 tt.length c5) t m z) 32
    have g6 := only_trans g5 F.2
    have T6 := T4.only g6
    have t6 := t4.only g6
    have z6 := z4.only g6
    have G6 := only_trans G4 g6
    have A6 := F.1
    have O6 := O4.out.below (below_of_only g6)
    have P6 := o5.below (below_of_only F.2)
    have hw4 := G4.size
    have hw5 := g5.size
    have hz4 := z4.lt
    have hgs2 : (au r (.slice u5 tt.length c5) t m z).size = 5 := au_size _ _ _ _ _
    clear t4 z4 G4 O4 oy4 hb5 o5 g5 g6 CK T4
    generalize Aut.opn kk y = D at *
    obtain ⟨av, ac⟩ := D
    dsimp only at hat HR3 ⊢
    go_upto_region 8 with (refine wpList_store_rowTo rfl _ _ _ rfl rfl w5.heap.size _ rfl rfl _ _ (heap_alloc_new _ _) (info_au _ _ _ _ _) (by rw [au_size]; rfl) (au_one _ _ _ _ _ rfl) ?_)
    generalize World.setRow _ w5.heap.size _ = W6 at *
    obtain ⟨b12, hb12⟩ : ∃ n, n = w5.heap.size := ⟨_, rfl⟩
    rw [← hb12] at A6 ⊢
    have hb12' : W4.heap.size ≤ b12 := by omega
    have hb12t := A6.lt
    clear F hb12
    by_cases hc : ac = 0
    rotate_left
    · have E1 := Lib.hid (show R = (tic0, aut0, ac) by rw [← HR3.out, if_pos hc])
      have hne : (ac != 0) = true := by rw [bne_iff_ne]; exact hc
      clear HR3 hat O6 P6 A6 T6
      have zf := t6.row (tk ⟨#[]⟩ (.slice none 0 0) 0 0 (fun _ => 0))
      have y0 := z6.keep zf.2 (by simp; omega)
      have yf := y0.row (au ⟨#[]⟩ (.slice none 0 0) 0 0 0)
      go_wp2_with (first | refine wpList_buildTo rfl 41 _ rfl _ rfl (tk ⟨#[]⟩ (.slice none 0 0) 0 0 (fun _ => 0)) (by kernel_rfl) ?_ | refine wpList_buildTo rfl 32 _ rfl _ rfl (au ⟨#[]⟩ (.slice none 0 0) 0 0 0) (by kernel_rfl) ?_ | refine wpList_store_rowTo rfl _ _ _ rfl rfl bt _ rfl rfl _ _ t6 (info_tk _ _ _ _ _) (by simp only [tk_size]) (tk_one _ _ _ _ _ rfl) ?_ | refine wpList_store_rowTo rfl _ _ _ rfl rfl ba _ rfl rfl _ _ y0 (info_au _ _ _ _ _) (by simp only [au_size]) (au_one _ _ _ _ _ rfl) ?_)
      try simp only [Exit.inBlock, Exit.then, Exit.noGoto_ret]
      refine bodyPost_ret (results_rows_tmp rfl _ _ bt ba _ _ _ _ (0, 0) (0, 0) _ _ rfl (zf.1.keep yf.2 (by simp; omega)) rfl rfl (info_tk _ _ _ _ _) rfl yf.1 rfl rfl (info_au _ _ _ _ _)) rfl ?_
      rw [E1.out]
      exact retOpn_zero (below_of_only (grown_new (grown_new G6 zf.2 hbt) yf.2 hba)) rfl
    subst hc
    have E1 := Lib.hid (show R = (tv, av, 0) by rw [← HR3.out]; exact if_neg (fun h : (0 : Int) ≠ 0 => h rfl))
    clear HR3
    go_upto_region 10 with fail
    have T7 : Hb (W6.drewN 1) b10 (tk q (.slice u3 ss.length c3) s xx kt) 41 := T6
    have A7 : Hb (W6.drewN 1) b12 (au r (.slice u5 tt.length c5) t m z) 32 := A6
    have t7 : Hb (W6.drewN 1) bt _ 41 := t6
    have z7 : Hb (W6.drewN 1) ba _ 32 := z6
    have G7 : w.grownBy (W6.drewN 1) none := only_drewN G6 1
    have O7 : OwnS (W6.drewN 1) w1.heap.size (.slice u3 ss.length c3) ss := O6
    have P7 : OwnS (W6.drewN 1) W4.heap.size (.slice u5 tt.length c5) tt := P6
    clear T6 A6 t6 z6 G6 O6 P6
    refine wp_reg Tryz.f24 10 5 (fun w' => Hb w' b10 (tk q (.slice u3 ss.length c3) s xx kt) 41 ∧ Hb w' b12 (au r (.slice u5 tt.length c5) t m z) 32) (by kernel_rfl) (by kernel_rfl) (by kernel_rfl) ⟨T7, A7⟩ (fun K hK h0 => ?_)
    refine reg_cast (listed' := #[false, false, false, false, false]) (by kernel_rfl) rfl ?_
    have HF := Lib.hid hK; clear hK
    generalize W6.drewN 1 = V7 at *
    refine reg_load 0 47 (by kernel_rfl) 41 (.tmp 10) (by kernel_rfl) ⟨b10, 0, none⟩ (by kernel_rfl) (tk q (.slice u3 ss.length c3) s xx kt) _ (fun w' hw' j v hj => by rw [Addr.add_lit, Nat.zero_add]; exact hw'.1.cell hj) Tryz.underlying41 rfl (by kernel_rfl) h0 ?_
    simp only [Act.put, List.setIfInBounds_toArray, List.set_cons_zero, List.set_cons_succ]
    refine reg_load 1 48 (by kernel_rfl) 32 (.tmp 12) (by kernel_rfl) ⟨b12, 0, none⟩ (by kernel_rfl) (au r (.slice u5 tt.length c5) t m z) _ (fun w' hw' j v hj => by rw [Addr.add_lit, Nat.zero_add]; exact hw'.2.cell hj) Tryz.underlying32 rfl (by kernel_rfl) h0 ?_
    simp only [Act.put, List.setIfInBounds_toArray, List.set_cons_zero, List.set_cons_succ]
    have t8 := t7.row (tk q (.slice u3 ss.length c3) s xx kt)
    have z8 := z7.keep t8.2 (by simp; omega)
    have z9 := z8.row (au r (.slice u5 tt.length c5) t m z)
    have h1 := (show Hb (V7.setRow bt _) b10 _ _ ∧ Hb (V7.setRow bt _) b12 _ _ from ⟨T7.keep t8.2 (by simp; omega), A7.keep t8.2 (by simp; omega)⟩)
    have h2 := (show Hb ((V7.setRow bt _).setRow ba _) b10 _ _ ∧ Hb ((V7.setRow bt _).setRow ba _) b12 _ _ from ⟨h1.1.keep z9.2 (by simp; omega), h1.2.keep z9.2 (by simp; omega)⟩)
    refine reg_row 2 (by kernel_rfl) (by kernel_rfl) (by kernel_rfl) 41 (.tmp 4) (.tmp 47) (by kernel_rfl) (by kernel_rfl) bt _ _ (by kernel_rfl) (by kernel_rfl) _ t7 (info_tk _ _ _ _ _) (by simp only [tk_size]) (tk_one _ _ _ _ _ rfl) h1 ?_
    refine reg_row 3 (by kernel_rfl) (by kernel_rfl) (by kernel_rfl) 32 (.tmp 5) (.tmp 48) (by kernel_rfl) (by kernel_rfl) ba _ _ (by kernel_rfl) (by kernel_rfl) _ z8 (info_au _ _ _ _ _) (by simp only [au_size]) (au_one _ _ _ _ _ rfl) h2 ?_
    simp only [List.setIfInBounds_toArray, List.set_cons_zero, List.set_cons_succ]
    refine reg_take 4 6 (.int .i64 0) (by kernel_rfl) (fun _ _ => by kernel_rfl) h2 ?_
    simp only [Act.put, List.setIfInBounds_toArray, List.set_cons_zero, List.set_cons_succ]
    have t9 := t8.1.keep z9.2 (by simp; omega)
    have G9 := grown_new (grown_new G7 t8.2 hbt) z9.2 hba
    have O9 := (O7.only t8.2 (.inr (fun e => by have := (O7.lt bt e).1; omega))).only z9.2 (.inr (fun e => by have := (O7.lt ba e).1; omega))
    have P9 := (P7.only t8.2 (.inr (fun e => by have := (P7.lt bt e).1; omega))).only z9.2 (.inr (fun e => by have := (P7.lt ba e).1; omega))
    have A9 := z9.1
    clear t7 z7 t8 z8 z9 G7 O7 P7 T7 A7 h0 h1 h2
    refine reg_done (by kernel_rfl) (HF.out _ _ ?_)
    generalize World.setRow (World.setRow V7 bt _) ba _ = V9 at *
    go_wp2_with fail
    try simp only [Exit.inBlock, Exit.then, Exit.noGoto_ret]
    refine bodyPost_ret (results_rows_tmp rfl _ _ bt ba _ _ _ _ (0, 0) (0, 0) _ _ rfl t9 rfl rfl (info_tk _ _ _ _ _) rfl A9 rfl rfl (info_au _ _ _ _ _)) rfl ?_
    rw [E1.out]
    exact ⟨below_of_only G9, q, _, ss, s, xx, kt, r, _, tt, t, m, z, rfl, O9.mono hw1, P9.mono hw4, hq, hkt, hr, hm, hz, HTT.out, hat⟩
end Go.Proofs.YtnhchdkchohnbaaGreatDoor
