/- Layer 13: Open of an authenticator, in the reference. -/
import Derived.Test.YtnhchdkchohnbaaGreatDoorAutF
namespace Go.Proofs.YtnhchdkchohnbaaGreatDoor
open Go.RowKit Go.Deep

set_option maxRecDepth 100000 in
set_option maxHeartbeats 4000000 in
theorem refauopen_any (key : Nat → Nat) (v : Value) (l : List Nat) (w : World) (hk : Aes.B8 key) (hv : Rs w v l) (hl : l.length ≤ 1000000) (hK : Consts w Sha.tab) :
    Calls Tryz.prog 10 #[.agg (arr .u8 16 key), v] w (RetAutC w (Aut.opn key l)) := by
  have HK := Lib.hid hK; clear hK
  obtain ⟨a, cap, rfl⟩ := hv.form
  have HV := Lib.hid hv; clear hv
  have s1 := arr_size .u8 16 key
  have a0 := (isArr_new w 22 .u8 16 key).alloc (.cells (au ⟨#[]⟩ (.slice none 0 0) 0 0 0) 32)
  have z0 := Hb.new (w.alloc (.cells (arr .u8 16 key) 22)) (au ⟨#[]⟩ (.slice none 0 0) 0 0 0) 32
  simp only [World.size_alloc] at z0
  have G0 := only_alloc (only_alloc (only_refl w none) (.cells (arr .u8 16 key) 22)) (.cells (au ⟨#[]⟩ (.slice none 0 0) 0 0 0) 32)
  generalize hR : Aut.opn key l = R
  have HR := Lib.hid hR; clear hR
  go_enter Tryz.func10, Tryz.ntmps10
  go_upto_region 1 with fail
  rw [au0]
  generalize (w.alloc (.cells (arr .u8 16 key) 22)).alloc (.cells (au ⟨#[]⟩ (.slice none 0 0) 0 0 0) 32) = V at *
  obtain ⟨zb, hzb⟩ : ∃ z, z = w.heap.size + 1 := ⟨_, rfl⟩
  rw [← hzb] at z0 ⊢
  have hz := Nat.le_trans (Nat.le_succ w.heap.size) (Nat.le_of_eq hzb.symm)
  clear hzb
  go_wp2_with (refine wpList_load_row rfl _ _ rfl w.heap.size rfl _ _ (0, 0) _ a0 rfl rfl (info16s _) ?_)
  refine (refopen_lit key 11 11 rfl _ l V hk (by omega) (HV.out.below (below_of_only G0)) hl (HK.out.below (below_of_only G0))).mono ?_
  rintro e w1 ⟨hb1, ht⟩
  have z1 := z0.only (only_of_below hb1 none)
  have G1 := only_trans G0 (only_of_below hb1 none)
  clear a0 z0 G0 hb1
  unfold Aut.opn at HR
  cases hop : Sea.op key 11 l with
  | none =>
    rw [hop] at ht
    have E1 := Lib.hid (show R = (aut0, 2) by rw [← HR.out, hop])
    clear HR hop
    rcases ht with ⟨_, rfl⟩ | ⟨_, _, hno, _⟩
    rotate_left
    · cases hno
    go_wp2_with (first | refine wpList_buildTo rfl 32 _ rfl _ rfl (au ⟨#[]⟩ (.slice none 0 0) 0 0 0) (by kernel_rfl) ?_ | refine wpList_store_rowTo rfl _ _ _ rfl rfl zb _ rfl rfl _ _ z1 (info_au _ _ _ _ _) (by simp only [au_size]) (au_one _ _ _ _ _ rfl) ?_)
    try simp only [Exit.inBlock, Exit.then, Exit.noGoto_ret]
    refine bodyPost_ret (results_row_tmp rfl _ _ zb _ _ (0, 0) _ rfl (z1.row _).1 rfl rfl (info_au _ _ _ _ _)) rfl ?_
    rw [E1.out]
    exact retAutC_zero (row_own _ z1 G1 hz) rfl
  | some b =>
    rw [hop] at ht
    have hbl := Sea.op_len hop
    have HR2 := Lib.hid (show (match Aut.parse b with | none => (aut0, (1 : Int)) | some t => (t, 0)) = R by have := HR.out; rw [hop] at this; exact this)
    clear HR hop
    rcases ht with ⟨hno, _⟩ | ⟨b', vb, hb', rfl, o1⟩
    · cases hno
    cases hb'
    obtain ⟨ba, bc, rfl⟩ := o1.form
    have O1 := Lib.hid o1.bs.rs
    have hbb := o1.1
    clear o1
    go_wp2_with fail
    refine (refauparse_any _ b w1 O1.out (by omega)).mono ?_
    rintro e w2 ⟨hb2, q, u, ss, t, m, s, rfl, o2, hq, hm, hs, htt⟩
    obtain ⟨ua, uc, rfl⟩ := o2.ss.form
    have z2 := z1.only (only_of_below hb2 none)
    have G2 := only_trans G1 (only_of_below hb2 none)
    have F := fresh_row w2 #[.string ⟨#[]⟩, .slice none 0 0, .int .i64 0, .int .u32 0, .int .u32 0] (au q (.slice ua ss.length uc) t m s) 32
    have z3 := z2.only F.2
    have G3 := only_trans G2 F.2
    have o3 := (o2.mono G1.size).below (below_of_only F.2)
    have hsep : ∀ g, (Value.slice ua ss.length uc).ownBlock = some g → g ≠ zb := fun g e => by have := (o2.lt g e).1; have := z1.lt; omega
    have T3 := F.1
    go_upto_region 5 with (refine wpList_store_rowTo rfl _ _ _ rfl rfl w2.heap.size _ rfl rfl _ _ (heap_alloc_new _ _) (info_au _ _ _ _ _) (by rw [au_size]; rfl) (au_one _ _ _ _ _ rfl) ?_)
    generalize World.setRow _ w2.heap.size _ = V3 at *
    clear F hb2 o2 z1 z2 G1 G2 O1
    have HSEP := Lib.hid hsep
    clear hsep
    rw [← Aut.parse_ref hbb] at htt ⊢
    cases hpp : Aut.parse b with
    | none =>
      rw [hpp] at htt
      have E1 := Lib.hid (show R = (aut0, 1) by rw [← HR2.out, hpp])
      clear HR2 hpp
      go_wp2_with (first | refine wpList_buildTo rfl 32 _ rfl _ rfl (au ⟨#[]⟩ (.slice none 0 0) 0 0 0) (by kernel_rfl) ?_ | refine wpList_store_rowTo rfl _ _ _ rfl rfl zb _ rfl rfl _ _ z3 (info_au _ _ _ _ _) (by simp only [au_size]) (au_one _ _ _ _ _ rfl) ?_)
      try simp only [Exit.inBlock, Exit.then, Exit.noGoto_ret]
      refine bodyPost_ret (results_row_tmp rfl _ _ zb _ _ (0, 0) _ rfl (z3.row _).1 rfl rfl (info_au _ _ _ _ _)) rfl ?_
      rw [E1.out]
      exact retAutC_zero (row_own _ z3 G3 hz) rfl
    | some t' =>
      rw [hpp] at htt
      have htt : aut q ss t m s = t' := htt
      have E1 := Lib.hid (show R = (t', 0) by rw [← HR2.out, hpp])
      clear HR2 hpp
      go_wp2_with (first | refine wpList_load_row rfl _ _ rfl w2.heap.size rfl _ _ (0, 0) _ T3 rfl rfl (info_au _ _ _ _ _) ?_ | refine wpList_store_rowTo rfl _ _ _ rfl rfl zb _ rfl rfl _ _ z3 (info_au _ _ _ _ _) (by simp only [au_size]) (au_one _ _ _ _ _ rfl) ?_)
      try simp only [Exit.inBlock, Exit.then, Exit.noGoto_ret]
      refine bodyPost_ret (results_row_tmp rfl _ _ zb _ _ (0, 0) _ rfl (z3.row _).1 rfl rfl (info_au _ _ _ _ _)) rfl ?_
      rw [E1.out]
      refine ⟨row_own _ z3 G3 hz, q, _, ss, t, m, s, rfl, ?_, hq, hm, hs, htt⟩
      exact o3.only (z3.row _).2 (by
        cases he : (Value.slice ua ss.length uc).ownBlock with
        | none => exact .inl rfl
        | some g => exact .inr (fun e => HSEP.out g he (by cases e; rfl)))
end Go.Proofs.YtnhchdkchohnbaaGreatDoor
