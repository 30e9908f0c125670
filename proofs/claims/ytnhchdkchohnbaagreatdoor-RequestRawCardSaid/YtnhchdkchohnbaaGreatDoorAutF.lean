/- Layer 13: Digest, Seal and Open of an authenticator. -/
import Derived.Test.YtnhchdkchohnbaaGreatDoorAutE
namespace Go.Proofs.YtnhchdkchohnbaaGreatDoor
open Go.RowKit Go.Deep

def Aut.opn (key : Nat → Nat) (s : List Nat) : Aut.A × Int := match Sea.op key 11 s with
  | none => (aut0, 2)
  | some b => match Aut.parse b with
    | none => (aut0, 1)
    | some t => (t, 0)
theorem Aut.opn_no {key : Nat → Nat} {s : List Nat} (h : Sea.op key 11 s = none) : Aut.opn key s = (aut0, 2) := by unfold Aut.opn; rw [h]
theorem Aut.opn_yes {key : Nat → Nat} {s b : List Nat} {t : Aut.A} (h : Sea.op key 11 s = some b) (h2 : Aut.parse b = some t) : Aut.opn key s = (t, 0) := by unfold Aut.opn; rw [h]; dsimp only; rw [h2]
def RetAutC (w : World) (o : Aut.A × Int) (e : Ending) (w' : World) : Prop :=
  Below w.heap.size w w' ∧ ∃ r u ss t m s, e = .returned (.tuple #[.agg (au r u t m s), .int .i64 o.2]) ∧ OwnS w' w.heap.size u ss ∧ r.size ≤ maxLen ∧ m < 4294967296 ∧ s < 4294967296 ∧ aut r ss t m s = o.1
theorem retAutC_zero {w w' : World} {e : Ending} {c : Int} (h : Below w.heap.size w w') (he : e = .returned (.tuple #[.agg (au ⟨#[]⟩ (.slice none 0 0) 0 0 0), .int .i64 c])) : RetAutC w (aut0, c) e w' :=
  ⟨h, ⟨#[]⟩, .slice none 0 0, [], 0, 0, 0, he, OwnS.nil _ _, Nat.zero_le _, by omega, by omega, rfl⟩
set_option maxRecDepth 100000 in
set_option maxHeartbeats 4000000 in
theorem auseal_any (key nonce : Nat → Nat) (r : ByteArray) (u : Value) (ss : List ByteArray) (t : Int) (m s : Nat) (w : World) (hk : Aes.B8 key) (hn : Aes.B8 nonce) (hr : r.size ≤ maxLen) (hm : m < 4294967296) (hs : s < 4294967296) (h : Ss w u ss) (hK : Consts w Sha.tab) :
    Calls Tryz.prog 29 #[.agg (arr .u8 16 key), .agg (arr .u8 8 nonce), .agg (au r u t m s)] w (RetPut (if Aut.valid (aut r ss t m s) = true then some (Sea.sld key 11 nonce (Aut.bytes (aut r ss t m s))) else none) w) := by
  have HK := Lib.hid hK; clear hK
  obtain ⟨a0, n0, t0, G0⟩ := three_boxes w key nonce (au r u t m s) 32
  have s1 := arr_size .u8 16 key
  have s2 := arr_size .u8 8 nonce
  have s3 := au_size r u t m s
  obtain ⟨ua, uc, rfl⟩ := h.form
  have H := Lib.hid h; clear h
  generalize hR : (if Aut.valid (aut r ss t m s) = true then some (Sea.sld key 11 nonce (Aut.bytes (aut r ss t m s))) else none) = R
  have HR := Lib.hid hR; clear hR
  go_enter Tryz.func29, Tryz.ntmps29
  go_wp2_with (refine wpList_load_row rfl _ _ rfl (w.heap.size + 1 + 1) rfl _ _ (0, 0) _ t0 rfl rfl (info_au _ _ _ _ _) ?_)
  refine (aubytes_any r _ ss t m s _ hr hm hs (H.out.only G0)).mono ?_
  rintro x w1 ⟨hb1, hp⟩
  have G1 := only_trans G0 (only_of_below hb1 none)
  have a1 := a0.only (only_of_below hb1 none)
  have n1 := n0.only (only_of_below hb1 none)
  clear a0 n0 t0 G0 hb1
  cases hv : Aut.valid (aut r ss t m s)
  · rw [hv] at hp
    have E1 := Lib.hid (show R = none by rw [← HR.out, hv]; rfl)
    rcases hp with ⟨_, rfl⟩ | ⟨l, v, hno, _⟩
    rotate_left
    · cases hno
    clear HR
    go_wp2_with fail
    go_ret2
    exact ⟨below_of_only G1, .inl ⟨E1.out, rfl⟩⟩
  · rw [if_pos hv] at hp
    have E1 := Lib.hid (show R = some (Sea.sld key 11 nonce (Aut.bytes (aut r ss t m s))) by rw [← HR.out, if_pos hv])
    have hbl := Aut.bytes_len hv
    clear HR
    rcases hp with ⟨hno, _⟩ | ⟨l, v, hl, rfl, o1⟩
    · cases hno
    cases hl
    obtain ⟨va, vc, rfl⟩ := o1.form
    have O1 := Lib.hid o1.bs.rs
    have HBL := Lib.hid hbl
    clear o1 hbl hv
    generalize Aut.bytes (aut r ss t m s) = b at *
    go_wp2_with (first | refine wpList_load_row rfl _ _ rfl w.heap.size rfl _ _ (0, 0) _ a1 rfl rfl (info16s _) ?_ | refine wpList_load_row rfl _ _ rfl (w.heap.size + 1) rfl _ _ (0, 0) _ n1 rfl rfl (info8s _) ?_)
    refine (seal_lit key nonce 11 11 rfl _ b w1 hk hn (by omega) O1.out (by have := HBL.out; omega) (HK.out.below (below_of_only G1))).mono ?_
    rintro x w2 ⟨v2, rfl, o2, hb2⟩
    have G2 := only_trans G1 (only_of_below hb2 none)
    have O2 := Lib.hid (o2.mono G1.size)
    clear a1 n1 o2 hb2 G1
    go_wp2_with fail
    go_ret2
    exact ⟨below_of_only G2, .inr ⟨_, _, E1.out, rfl, O2.out⟩⟩
def Aut.digI (a : Aut.A) : Nat → Nat := if Aut.valid a = true then Sha.dig (Aut.bytes a) else fun _ => 0
set_option maxRecDepth 100000 in
theorem info32d (f : Nat → Nat) : ((Tryz.prog).info? 69).map (·.size) = some (arr .u8 32 f).size := by rw [arr_size]; kernel_rfl
set_option maxRecDepth 100000 in
set_option maxHeartbeats 4000000 in
theorem audigest_any (r : ByteArray) (u : Value) (ss : List ByteArray) (t : Int) (m s : Nat) (w : World) (hr : r.size ≤ maxLen) (hm : m < 4294967296) (hs : s < 4294967296) (h : Ss w u ss) (hK : Consts w Sha.tab) :
    Calls Tryz.prog 30 #[.agg (au r u t m s)] w fun e w' => e = .returned (.tuple #[.agg (arr .u8 32 (Aut.digI (aut r ss t m s))), .bool (Aut.valid (aut r ss t m s))]) ∧ Below w.heap.size w w' := by
  have HK := Lib.hid hK; clear hK
  have hsz := au_size r u t m s
  have hs32 := arr_size .u8 32 (fun _ => 0)
  have t0 := (Hb.new w (au r u t m s) 32).alloc (.cells (arr .u8 32 (fun _ => 0)) 69)
  have d0 := Hb.new (w.alloc (.cells (au r u t m s) 32)) (arr .u8 32 (fun _ => 0)) 69
  simp only [World.size_alloc] at d0
  have G0 := only_alloc (only_alloc (only_refl w none) (.cells (au r u t m s) 32)) (.cells (arr .u8 32 (fun _ => 0)) 69)
  have H := Lib.hid (h.only G0)
  obtain ⟨ua, uc, rfl⟩ := h.form
  clear h
  generalize hD : Aut.digI (aut r ss t m s) = D
  generalize hW : Aut.valid (aut r ss t m s) = vv
  have HD := Lib.hid hD
  have HW := Lib.hid hW
  clear hD hW
  go_enter Tryz.func30, Tryz.ntmps30
  go_upto_region 1 with fail
  rw [zeros32]
  generalize (w.alloc (.cells (au r (.slice ua ss.length uc) t m s) 32)).alloc (.cells (arr .u8 32 (fun _ => 0)) 69) = V at *
  obtain ⟨zb, hzb⟩ : ∃ z, z = w.heap.size + 1 := ⟨_, rfl⟩
  rw [← hzb] at d0 ⊢
  have hz : w.heap.size ≤ zb := by omega
  clear hzb
  go_wp2_with (refine wpList_load_row rfl _ _ rfl w.heap.size rfl _ _ (0, 0) _ t0 rfl rfl (info_au _ _ _ _ _) ?_)
  refine (aubytes_any r _ ss t m s V hr hm hs H.out).mono ?_
  rintro x w1 ⟨hb1, hp⟩
  have G1 := only_trans G0 (only_of_below hb1 none)
  have d1 := d0.only (only_of_below hb1 none)
  clear t0 d0 G0 hb1 H
  cases hv : Aut.valid (aut r ss t m s)
  · have hD : D = fun _ => 0 := by rw [← HD.out]; unfold Aut.digI; rw [hv]; rfl
    have hW : vv = false := by rw [← HW.out, hv]
    subst hD hW
    rw [hv] at hp
    rcases hp with ⟨_, rfl⟩ | ⟨l, v, hno, _⟩
    rotate_left
    · cases hno
    go_wp2_with (first | refine wpList_buildTo rfl 69 _ rfl _ rfl (arr .u8 32 (fun _ => 0)) (by kernel_rfl) ?_ | refine wpList_store_rowTo rfl _ _ _ rfl rfl zb _ rfl rfl _ _ d1 (info32d _) (by simp only [arr_size]) (arr_one _ _ _) ?_)
    try simp only [Exit.inBlock, Exit.then, Exit.noGoto_ret]
    refine bodyPost_ret (results_row_tmp rfl _ _ zb _ _ (0, 0) _ rfl (d1.row _).1 rfl rfl (info32d _)) rfl ?_
    exact ⟨rfl, row_own _ d1 G1 hz⟩
  · have hD : D = Sha.dig (Aut.bytes (aut r ss t m s)) := by rw [← HD.out]; unfold Aut.digI; rw [if_pos hv]
    have hW : vv = true := by rw [← HW.out, hv]
    subst hW
    have HD := Lib.hid hD
    clear hD
    rw [if_pos hv] at hp
    have hbl := Aut.bytes_len hv
    rcases hp with ⟨hno, _⟩ | ⟨l, v, hl, rfl, o1⟩
    · cases hno
    cases hl
    obtain ⟨va, vc, rfl⟩ := o1.form
    have O1 := Lib.hid o1.bs.rs
    clear o1
    generalize Aut.bytes (aut r ss t m s) = b at *
    have hjb : Wir.join [b] = b := by unfold Wir.join; simp
    have HJB := Lib.hid hjb
    have HBS := Lib.hid (show Bss (w1.alloc (.cells #[.slice va b.length vc] 24)) (.slice (some ⟨w1.heap.size, 0, none⟩) 1 1) [b] from bss_built w1 [_] [b] rfl (by simp) fun i y hy => by
      match i with
      | 0 => simp at hy; subst hy; exact O1.out
      | _ + 1 => simp at hy)
    have HLN := Lib.hid (show (Wir.join [b]).length ≤ 140737488355000 by rw [hjb]; omega)
    have F2 := only_alloc (only_refl w1 none) (.cells #[.slice va b.length vc] 24)
    have d2 := d1.only F2
    have G2 := only_trans G1 F2
    clear d1 G1 F2 O1 hjb
    go_wp2_with fail
    refine (sum_dig _ [b] _ HBS.out HLN.out (HK.out.below (below_of_only G2))).mono ?_
    rintro x w3 ⟨rfl, hb3⟩
    rw [HJB.out]
    have d3 := d2.only (only_of_below hb3 none)
    have G3 := only_trans G2 (only_of_below hb3 none)
    clear d2 G2 hb3 HBS HLN HJB
    rw [← HD.out]
    go_wp2_with (refine wpList_store_rowTo rfl _ _ _ rfl rfl zb _ rfl rfl _ _ d3 (info32d _) (by simp only [arr_size]) (arr_one _ _ _) ?_)
    try simp only [Exit.inBlock, Exit.then, Exit.noGoto_ret]
    refine bodyPost_ret (results_row_tmp rfl _ _ zb _ _ (0, 0) _ rfl (d3.row _).1 rfl rfl (info32d _)) rfl ?_
    exact ⟨rfl, row_own _ d3 G3 hz⟩
set_option maxRecDepth 100000 in
set_option maxHeartbeats 4000000 in
theorem auopen_any (key : Nat → Nat) (v : Value) (l : List Nat) (w : World) (hk : Aes.B8 key) (hv : Rs w v l) (hl : l.length ≤ 1000000) (hK : Consts w Sha.tab) :
    Calls Tryz.prog 9 #[.agg (arr .u8 16 key), v] w (RetAutC w (Aut.opn key l)) := by
  have HK := Lib.hid hK; clear hK
  obtain ⟨a, cap, rfl⟩ := hv.form
  have HV := Lib.hid hv; clear hv
  have s1 := arr_size .u8 16 key
  have a0 := (isArr_new w 22 .u8 16 key).alloc (.cells (au ⟨#[]⟩ (.slice none 0 0) 0 0 0) 32)
  have z0 := Hb.new (w.alloc (.cells (arr .u8 16 key) 22)) (au ⟨#[]⟩ (.slice none 0 0) 0 0 0) 32
  simp only [World.size_alloc] at z0
  have G0 := only_alloc (only_alloc (only_refl w none) (.cells (arr .u8 16 key) 22)) (.cells (au ⟨#[]⟩ (.slice none 0 0) 0 0 0) 32)
  generalize hR : Aut.opn key l = R
  have HR := Lib.hid hR; clear hR
  go_enter Tryz.func9, Tryz.ntmps9
  go_upto_region 1 with fail
  rw [au0]
  generalize (w.alloc (.cells (arr .u8 16 key) 22)).alloc (.cells (au ⟨#[]⟩ (.slice none 0 0) 0 0 0) 32) = V at *
  obtain ⟨zb, hzb⟩ : ∃ z, z = w.heap.size + 1 := ⟨_, rfl⟩
  rw [← hzb] at z0 ⊢
  have hz := Nat.le_trans (Nat.le_succ w.heap.size) (Nat.le_of_eq hzb.symm)
  clear hzb
  go_wp2_with (refine wpList_load_row rfl _ _ rfl w.heap.size rfl _ _ (0, 0) _ a0 rfl rfl (info16s _) ?_)
  refine (open_lit key 11 11 rfl _ l V hk (by omega) (HV.out.below (below_of_only G0)) hl (HK.out.below (below_of_only G0))).mono ?_
  rintro e w1 ⟨hb1, ht⟩
  have z1 := z0.only (only_of_below hb1 none)
  have G1 := only_trans G0 (only_of_below hb1 none)
  clear a0 z0 G0 hb1
  unfold Aut.opn at HR
  cases hop : Sea.op key 11 l with
  | none =>
    rw [hop] at ht
    have E1 := Lib.hid (show R = (aut0, 2) by rw [← HR.out, hop])
    clear HR hop
    rcases ht with ⟨_, rfl⟩ | ⟨_, _, hno, _⟩
    rotate_left
    · cases hno
    go_wp2_with (first | refine wpList_buildTo rfl 32 _ rfl _ rfl (au ⟨#[]⟩ (.slice none 0 0) 0 0 0) (by kernel_rfl) ?_ | refine wpList_store_rowTo rfl _ _ _ rfl rfl zb _ rfl rfl _ _ z1 (info_au _ _ _ _ _) (by simp only [au_size]) (au_one _ _ _ _ _ rfl) ?_)
    try simp only [Exit.inBlock, Exit.then, Exit.noGoto_ret]
    refine bodyPost_ret (results_row_tmp rfl _ _ zb _ _ (0, 0) _ rfl (z1.row _).1 rfl rfl (info_au _ _ _ _ _)) rfl ?_
    rw [E1.out]
    exact retAutC_zero (row_own _ z1 G1 hz) rfl
  | some b =>
    rw [hop] at ht
    have hbl := Sea.op_len hop
    have HR2 := Lib.hid (show (match Aut.parse b with | none => (aut0, (1 : Int)) | some t => (t, 0)) = R by have := HR.out; rw [hop] at this; exact this)
    clear HR hop
    rcases ht with ⟨hno, _⟩ | ⟨b', vb, hb', rfl, o1⟩
    · cases hno
    cases hb'
    obtain ⟨ba, bc, rfl⟩ := o1.form
    have O1 := Lib.hid o1.bs.rs
    clear o1
    go_wp2_with fail
    refine (auparse_any _ b w1 O1.out (by omega)).mono ?_
    rintro e w2 ⟨hb2, q, u, ss, t, m, s, rfl, o2, hq, hm, hs, htt⟩
    obtain ⟨ua, uc, rfl⟩ := o2.ss.form
    have z2 := z1.only (only_of_below hb2 none)
    have G2 := only_trans G1 (only_of_below hb2 none)
    have F := fresh_row w2 #[.string ⟨#[]⟩, .slice none 0 0, .int .i64 0, .int .u32 0, .int .u32 0] (au q (.slice ua ss.length uc) t m s) 32
    have z3 := z2.only F.2
    have G3 := only_trans G2 F.2
    have o3 := (o2.mono G1.size).below (below_of_only F.2)
    have hsep : ∀ g, (Value.slice ua ss.length uc).ownBlock = some g → g ≠ zb := fun g e => by have := (o2.lt g e).1; have := z1.lt; omega
    have T3 := F.1
    go_upto_region 5 with (refine wpList_store_rowTo rfl _ _ _ rfl rfl w2.heap.size _ rfl rfl _ _ (heap_alloc_new _ _) (info_au _ _ _ _ _) (by rw [au_size]; rfl) (au_one _ _ _ _ _ rfl) ?_)
    generalize World.setRow _ w2.heap.size _ = V3 at *
    clear F hb2 o2 z1 z2 G1 G2 O1
    have HSEP := Lib.hid hsep
    clear hsep
    cases hpp : Aut.parse b with
    | none =>
      rw [hpp] at htt
      have E1 := Lib.hid (show R = (aut0, 1) by rw [← HR2.out, hpp])
      clear HR2 hpp
      go_wp2_with (first | refine wpList_buildTo rfl 32 _ rfl _ rfl (au ⟨#[]⟩ (.slice none 0 0) 0 0 0) (by kernel_rfl) ?_ | refine wpList_store_rowTo rfl _ _ _ rfl rfl zb _ rfl rfl _ _ z3 (info_au _ _ _ _ _) (by simp only [au_size]) (au_one _ _ _ _ _ rfl) ?_)
      try simp only [Exit.inBlock, Exit.then, Exit.noGoto_ret]
      refine bodyPost_ret (results_row_tmp rfl _ _ zb _ _ (0, 0) _ rfl (z3.row _).1 rfl rfl (info_au _ _ _ _ _)) rfl ?_
      rw [E1.out]
      exact retAutC_zero (row_own _ z3 G3 hz) rfl
    | some t' =>
      rw [hpp] at htt
      have htt : aut q ss t m s = t' := htt
      have E1 := Lib.hid (show R = (t', 0) by rw [← HR2.out, hpp])
      clear HR2 hpp
      go_wp2_with (first | refine wpList_load_row rfl _ _ rfl w2.heap.size rfl _ _ (0, 0) _ T3 rfl rfl (info_au _ _ _ _ _) ?_ | refine wpList_store_rowTo rfl _ _ _ rfl rfl zb _ rfl rfl _ _ z3 (info_au _ _ _ _ _) (by simp only [au_size]) (au_one _ _ _ _ _ rfl) ?_)
      try simp only [Exit.inBlock, Exit.then, Exit.noGoto_ret]
      refine bodyPost_ret (results_row_tmp rfl _ _ zb _ _ (0, 0) _ rfl (z3.row _).1 rfl rfl (info_au _ _ _ _ _)) rfl ?_
      rw [E1.out]
      refine ⟨row_own _ z3 G3 hz, q, _, ss, t, m, s, rfl, ?_, hq, hm, hs, htt⟩
      exact o3.only (z3.row _).2 (by
        cases he : (Value.slice ua ss.length uc).ownBlock with
        | none => exact .inl rfl
        | some g => exact .inr (fun e => HSEP.out g he (by cases e; rfl)))
end Go.Proofs.YtnhchdkchohnbaaGreatDoor
