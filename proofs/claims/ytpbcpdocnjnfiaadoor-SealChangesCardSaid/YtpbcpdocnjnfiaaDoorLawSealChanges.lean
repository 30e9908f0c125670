/- A sealed string with a changed byte, one byte more or less, another key, or another usage is opened exactly if the reference implementation opens it; with a changed byte of the code it is not opened. The variable sha.constants reads as the program's text lays it. -/
import Derived.Test.YtpbcpdocnjnfiaaDoorSealKit
namespace Go.Proofs.YtpbcpdocnjnfiaaDoor
open Go.ChangeShapes Go.WideShapes Go.ChangeAt Go.RowKit Go.Deep

set_option maxRecDepth 100000 in
set_option maxHeartbeats 4000000 in
theorem sealChanges_out (key nonce : Nat → Nat) (u at' kd : Nat) (v : Value) (l : List Nat) (w : World) (hv : Rs w v l) (hl : 500 < l.length) (hK : Consts w Sha.tab) :
    Calls Tryd.prog 5 #[.agg (arr .u8 16 key), .int .u8 (u : Int), .agg (arr .u8 8 nonce), v, .int .u16 (at' : Int), .int .u8 (kd : Int)] w (RetBool true w) := by
  have HK := Lib.hid hK; clear hK
  have hsz := arr_size .u8 16 key
  have hsz2 := arr_size .u8 8 nonce
  obtain ⟨xa, xc, rfl⟩ := hv.form
  clear hv
  have B0 := (kn_boxes w key nonce).2.2
  go_enter Tryd.func5, Tryd.ntmps5
  go_wp2_with fail
  refine (awake_seal _ (HK.out.below B0)).mono ?_
  rintro e w1 ⟨rfl, hb1⟩
  have B1 := Lib.hid (B0.trans (hb1.mono B0.size))
  clear hb1 B0
  go_wp2_with fail
  refine (awake_seal _ (HK.out.below B1.out)).mono ?_
  rintro e w2 ⟨rfl, hb2⟩
  have B2 := Lib.hid (B1.out.trans (hb2.mono B1.out.size)); clear hb2 B1
  go_wp2_with fail
  go_ret
  exact ⟨rfl, B2.out⟩

set_option maxRecDepth 100000 in
set_option maxHeartbeats 4000000 in
theorem sealChanges_c0 (key nonce : Nat → Nat) (u at' kd : Nat) (hk : Aes.B8 key) (hn : Aes.B8 nonce) (hu : u < 256) (hat : at' < 65536) (hkd : kd < 256) (hm : kd % 5 = 0) (v : Value) (l : List Nat) (w : World) (hv : Rs w v l) (hl : l.length ≤ 500) (hK : Consts w Sha.tab) :
    Calls Tryd.prog 5 #[.agg (arr .u8 16 key), .int .u8 (u : Int), .agg (arr .u8 8 nonce), v, .int .u16 (at' : Int), .int .u8 (kd : Int)] w (RetBool true w) := by
  have HK := Lib.hid hK; clear hK
  have HV := Lib.hid hv
  obtain ⟨xa, xc, rfl⟩ := hv.form
  clear hv
  have hsz := arr_size .u8 16 key
  have hsz2 := arr_size .u8 8 nonce
  obtain ⟨a1, a2, B0⟩ := kn_boxes w key nonce
  have hsl := Sea.seal_length key u nonce l
  have HCHG := Lib.hid (fun i x hi hc hx => Sea.op_changed key u nonce l i x hi hc hx)
  obtain ⟨S, hS⟩ : ∃ S, S = Sea.sld key u nonce l := ⟨_, rfl⟩
  rw [← hS] at hsl HCHG
  have HS := Lib.hid hS.symm; clear hS
  have tm5 : (kd : Int).tmod 5 = 0 := by rw [Int.tmod_eq_emod_of_nonneg (by omega)]; omega
  obtain ⟨N, hN⟩ : ∃ N, N = S.length := ⟨_, rfl⟩
  obtain ⟨i, hi⟩ : ∃ i, i = at' % N := ⟨_, rfl⟩
  have hN24 : 24 ≤ N := by omega
  have hN600 : N ≤ 524 := by omega
  have hiN : i < N := by rw [hi]; exact Nat.mod_lt _ (by omega)
  have tmN : (at' : Int).tmod (N : Int) = (i : Int) := by rw [Int.tmod_eq_emod_of_nonneg (by omega), hi]; simp
  have hiS : i < S.length := by omega
  have HSN := Lib.hid hN
  have HIS := Lib.hid hiS
  have HSL := Lib.hid hsl
  clear hi hiS hsl hN
  go_enter Tryd.func5, Tryd.ntmps5
  go_wp2_with fail
  refine (awake_seal _ (HK.out.below B0)).mono ?_
  rintro e w1 ⟨rfl, hb1⟩
  have k1 := a1.below hb1 a1.lt
  have k2 := a2.below hb1 a2.lt
  have hw1lt : w.heap.size < w1.heap.size := Nat.lt_of_lt_of_le a1.lt hb1.size
  have B1 := B0.trans (hb1.mono B0.size)
  clear a1 a2 B0 hb1 hm
  obtain ⟨n0, hn0⟩ : ∃ n, n = w.heap.size := ⟨_, rfl⟩
  obtain ⟨n1, hn1⟩ : ∃ n, n = w.heap.size + 1 := ⟨_, rfl⟩
  rw [← hn0] at k1
  rw [← hn1] at k2
  have RV := Lib.hid (HV.out.below B1)
  have HN0 := Lib.hid hn0; have HN1 := Lib.hid hn1; clear hn0 hn1
  go_upto_region 3 with fail
  all_goals first | omega | skip
  rw [← HN1.out, ← HN0.out]
  go_wp2_with (first | refine wpList_load_row rfl _ _ rfl n0 rfl _ _ (0, 0) _ k1 rfl rfl (info16s _) ?_ | refine wpList_load_row rfl _ _ rfl n1 rfl _ _ (0, 0) _ k2 rfl rfl (info8s _) ?_)
  refine (refseal_any key nonce u _ l w1 hk hn hu RV.out (by omega)).mono ?_
  rintro e w2 ⟨v2, rfl, o2, hb2⟩
  rw [HS.out] at o2
  have k1 := k1.below hb2 k1.lt
  have hw1 := B1.size
  have B := B1.trans (hb2.mono B1.size)
  clear hb2 B1 k2 RV
  rcases o2.cases with ⟨_, hnil⟩ | ⟨g, c, rfl, hg0, hg1, hgc, hc63, _, _⟩
  · exfalso; have hsl := HSL.out; rw [hnil] at hsl; simp at hsl
  have hgw : w.heap.size ≤ g := by omega
  have hn0g : n0 ≠ g := by have := HN0.out; omega
  rw [← HSN.out] at o2 hgc ⊢
  obtain ⟨r, hr⟩ : ∃ r, r = at' % 255 := ⟨_, rfl⟩
  have hr1 : r < 255 := by omega
  have htr : (at' : Int).tmod 255 = (r : Int) := by rw [Int.tmod_eq_emod_of_nonneg (by omega)]; omega
  obtain ⟨x, hx⟩ : ∃ x, x = 1 + r := ⟨_, rfl⟩
  have hwx : (1 + (r : Int)) % 256 = (x : Int) := by omega
  have hwx2 : IntKind.u8.wrap (1 + (r : Int)) = (x : Int) := by simp only [IntKind.wrap_u8]; omega
  have hx256 : x < 256 := by omega
  have ci := o2.cellAt (i := i) HIS.out
  have fi := o2.frozenAt i
  have hp : S.getD i 0 < 256 := o2.1.get i
  obtain ⟨y, hy⟩ : ∃ y, y = S.getD i 0 ^^^ x := ⟨_, rfl⟩
  have hy256 : y < 256 := by rw [hy]; exact Fld.xor_lt _ _ hp hx256
  have hyp : y ≠ S.getD i 0 := fun e => by
    have : x = 0 := Aes.xor_cancel (a := S.getD i 0) (by rw [← hy, e, Nat.xor_zero])
    omega
  have hxr : bits BinOp.xor IntKind.u8 ((S.getD i 0 : Nat) : Int) (x : Int) = (y : Int) := by rw [u8_xor_nat _ _ hp hx256, hy]
  have HCH := Lib.hid (fun hc => HCHG.out i y HIS.out hc hyp)
  clear hyp
  obtain ⟨o3, hg3⟩ := o2.set i y hy256
  have B := below_only B (Nat.le_refl _) hg3 (fun q hq => by cases hq; exact hgw)
  have k1 : isArr (w2.setCell ⟨g, i, none⟩ (bv y)) n0 22 .u8 16 key := k1.setOther hn0g i (bv y)
  have RT := Lib.hid o3.bs.rs
  have HTL := Lib.hid (show (S.set i y).length ≤ 1000000 by rw [List.length_set]; have := HSN.out; omega)
  clear hy hx hr o2 o3 hg3
  generalize S.getD i 0 = p at *
  have HKS := Lib.hid (HK.out.below B)
  go_upto_region 15 with fail
  by_cases hc : N ≤ i + 16
  · have HCI := Lib.hid (HCH.out (by have := HSN.out; omega))
    have hcd : ((N : Int) - 16 ≤ (i : Int)) := by omega
    have HRF := Lib.hid (Sea.op_ref (key) (u) (S.set i y))
    go_wp2_with (refine wpList_load_row rfl _ _ rfl n0 rfl _ _ (0, 0) _ k1 rfl rfl (info16s _) ?_)
    refine (open_any (key) (u) _ (S.set i y) _ hk hu RT.out (by first | omega | (have := HTL.out; omega)) HKS.out).mono ?_
    rintro e x3 ht
    have hop := HCI.out
    rw [hop] at ht
    obtain ⟨rfl, hb3⟩ := retPut_none ht
    have hrf := HRF.out
    rw [hop] at hrf
    have HRF2 := Lib.hid hrf
    have k1 := k1.below hb3 k1.lt
    have RT := Lib.hid (RT.out.below hb3)
    have B := B.trans (hb3.mono B.size)
    clear ht hop hrf HRF hb3
    go_wp2_with (refine wpList_load_row rfl _ _ rfl n0 rfl _ _ (0, 0) _ k1 rfl rfl (info16s _) ?_)
    refine (refopen_any (key) (u) _ (S.set i y) _ hk hu RT.out (by first | omega | (have := HTL.out; omega))).mono ?_
    rintro e x4 ht
    rw [← HRF2.out] at ht
    obtain ⟨rfl, hb4⟩ := retPut_none ht
    have B := B.trans (hb4.mono B.size)
    have RT := Lib.hid (RT.out.below hb4)
    clear ht hb4 k1
    have hnil : Rs x4 (.slice none 0 0) [] := ⟨AllB.nil, by simp, .inl ⟨rfl, rfl⟩⟩
    have HNIL := Lib.hid hnil; clear hnil
    go_wp2_with fail
    refine (same_yes _ _ [] x4 HNIL.out HNIL.out).mono ?_
    rintro e x5 ⟨rfl, hb5⟩
    have B := B.trans (hb5.mono B.size)
    clear hb5 HNIL
    go_wp2_with fail
    go_ret
    exact ⟨rfl, B⟩
  · have hcd : ¬ ((N : Int) - 16 ≤ (i : Int)) := by omega
    have HRF := Lib.hid (Sea.op_ref (key) (u) (S.set i y))
    go_wp2_with (refine wpList_load_row rfl _ _ rfl n0 rfl _ _ (0, 0) _ k1 rfl rfl (info16s _) ?_)
    refine (open_any (key) (u) _ (S.set i y) _ hk hu RT.out (by first | omega | (have := HTL.out; omega)) HKS.out).mono ?_
    rintro e x3 ht
    cases hop : Sea.op (key) (u) (S.set i y) with
    | none =>
      rw [hop] at ht
      obtain ⟨rfl, hb3⟩ := retPut_none ht
      have hrf := HRF.out
      rw [hop] at hrf
      have HRF2 := Lib.hid hrf
      have k1 := k1.below hb3 k1.lt
      have RT := Lib.hid (RT.out.below hb3)
      have B := B.trans (hb3.mono B.size)
      clear ht hop hrf HRF hb3
      go_wp2_with (refine wpList_load_row rfl _ _ rfl n0 rfl _ _ (0, 0) _ k1 rfl rfl (info16s _) ?_)
      refine (refopen_any (key) (u) _ (S.set i y) _ hk hu RT.out (by first | omega | (have := HTL.out; omega))).mono ?_
      rintro e x4 ht
      rw [← HRF2.out] at ht
      obtain ⟨rfl, hb4⟩ := retPut_none ht
      have B := B.trans (hb4.mono B.size)
      have RT := Lib.hid (RT.out.below hb4)
      clear ht hb4 k1
      have hnil : Rs x4 (.slice none 0 0) [] := ⟨AllB.nil, by simp, .inl ⟨rfl, rfl⟩⟩
      have HNIL := Lib.hid hnil; clear hnil
      go_wp2_with fail
      refine (same_yes _ _ [] x4 HNIL.out HNIL.out).mono ?_
      rintro e x5 ⟨rfl, hb5⟩
      have B := B.trans (hb5.mono B.size)
      clear hb5 HNIL
      go_wp2_with fail
      go_ret
      exact ⟨rfl, B⟩
    | some m =>
      rw [hop] at ht
      obtain ⟨v3, rfl, o3, hb3⟩ := retPut_some ht
      have hrf := HRF.out
      rw [hop] at hrf
      have HRF2 := Lib.hid hrf
      have k1 := k1.below hb3 k1.lt
      have RT := Lib.hid (RT.out.below hb3)
      have O3 := Lib.hid o3.bs.rs
      have B := B.trans (hb3.mono B.size)
      clear ht hop hrf HRF hb3 o3
      obtain ⟨ya, yc, hv3⟩ := O3.out.form
      subst hv3
      go_wp2_with (refine wpList_load_row rfl _ _ rfl n0 rfl _ _ (0, 0) _ k1 rfl rfl (info16s _) ?_)
      refine (refopen_any (key) (u) _ (S.set i y) _ hk hu RT.out (by first | omega | (have := HTL.out; omega))).mono ?_
      rintro e x4 ht
      rw [← HRF2.out] at ht
      obtain ⟨v4, rfl, o4, hb4⟩ := retPut_some ht
      have O3 := Lib.hid (O3.out.below hb4)
      have O4 := Lib.hid o4.bs.rs
      have B := B.trans (hb4.mono B.size)
      clear ht hb4 k1 o4 RT
      go_wp2_with fail
      refine (same_yes _ _ m x4 O3.out O4.out).mono ?_
      rintro e x5 ⟨rfl, hb5⟩
      have B := B.trans (hb5.mono B.size)
      clear hb5 O3 O4
      go_wp2_with fail
      go_ret
      exact ⟨rfl, B⟩

set_option maxRecDepth 100000 in
set_option maxHeartbeats 4000000 in
theorem sealChanges_c1 (key nonce : Nat → Nat) (u at' kd : Nat) (hk : Aes.B8 key) (hn : Aes.B8 nonce) (hu : u < 256) (hat : at' < 65536) (hkd : kd < 256) (hm : kd % 5 = 1) (v : Value) (l : List Nat) (w : World) (hv : Rs w v l) (hl : l.length ≤ 500) (hK : Consts w Sha.tab) :
    Calls Tryd.prog 5 #[.agg (arr .u8 16 key), .int .u8 (u : Int), .agg (arr .u8 8 nonce), v, .int .u16 (at' : Int), .int .u8 (kd : Int)] w (RetBool true w) := by
  have HK := Lib.hid hK; clear hK
  have HV := Lib.hid hv
  obtain ⟨xa, xc, rfl⟩ := hv.form
  clear hv
  have hsz := arr_size .u8 16 key
  have hsz2 := arr_size .u8 8 nonce
  obtain ⟨a1, a2, B0⟩ := kn_boxes w key nonce
  have hsl := Sea.seal_length key u nonce l
  have HCHG := Lib.hid (fun i x hi hc hx => Sea.op_changed key u nonce l i x hi hc hx)
  obtain ⟨S, hS⟩ : ∃ S, S = Sea.sld key u nonce l := ⟨_, rfl⟩
  rw [← hS] at hsl HCHG
  have HS := Lib.hid hS.symm; clear hS
  have tm5 : (kd : Int).tmod 5 = 1 := by rw [Int.tmod_eq_emod_of_nonneg (by omega)]; omega
  obtain ⟨N, hN⟩ : ∃ N, N = S.length := ⟨_, rfl⟩
  obtain ⟨i, hi⟩ : ∃ i, i = at' % N := ⟨_, rfl⟩
  have hN24 : 24 ≤ N := by omega
  have hN600 : N ≤ 524 := by omega
  have hiN : i < N := by rw [hi]; exact Nat.mod_lt _ (by omega)
  have tmN : (at' : Int).tmod (N : Int) = (i : Int) := by rw [Int.tmod_eq_emod_of_nonneg (by omega), hi]; simp
  have hiS : i < S.length := by omega
  have HSN := Lib.hid hN
  have HIS := Lib.hid hiS
  have HSL := Lib.hid hsl
  clear hi hiS hsl hN
  go_enter Tryd.func5, Tryd.ntmps5
  go_wp2_with fail
  refine (awake_seal _ (HK.out.below B0)).mono ?_
  rintro e w1 ⟨rfl, hb1⟩
  have k1 := a1.below hb1 a1.lt
  have k2 := a2.below hb1 a2.lt
  have hw1lt : w.heap.size < w1.heap.size := Nat.lt_of_lt_of_le a1.lt hb1.size
  have B1 := B0.trans (hb1.mono B0.size)
  clear a1 a2 B0 hb1 hm
  obtain ⟨n0, hn0⟩ : ∃ n, n = w.heap.size := ⟨_, rfl⟩
  obtain ⟨n1, hn1⟩ : ∃ n, n = w.heap.size + 1 := ⟨_, rfl⟩
  rw [← hn0] at k1
  rw [← hn1] at k2
  have RV := Lib.hid (HV.out.below B1)
  have HN0 := Lib.hid hn0; have HN1 := Lib.hid hn1; clear hn0 hn1
  go_upto_region 3 with fail
  all_goals first | omega | skip
  rw [← HN1.out, ← HN0.out]
  go_wp2_with (first | refine wpList_load_row rfl _ _ rfl n0 rfl _ _ (0, 0) _ k1 rfl rfl (info16s _) ?_ | refine wpList_load_row rfl _ _ rfl n1 rfl _ _ (0, 0) _ k2 rfl rfl (info8s _) ?_)
  refine (refseal_any key nonce u _ l w1 hk hn hu RV.out (by omega)).mono ?_
  rintro e w2 ⟨v2, rfl, o2, hb2⟩
  rw [HS.out] at o2
  have k1 := k1.below hb2 k1.lt
  have hw1 := B1.size
  have B := B1.trans (hb2.mono B1.size)
  clear hb2 B1 k2 RV
  rcases o2.cases with ⟨_, hnil⟩ | ⟨g, c, rfl, hg0, hg1, hgc, hc63, _, _⟩
  · exfalso; have hsl := HSL.out; rw [hnil] at hsl; simp at hsl
  have hgw : w.heap.size ≤ g := by omega
  have hn0g : n0 ≠ g := by have := HN0.out; omega
  rw [← HSN.out] at o2 hgc ⊢
  obtain ⟨M, hM⟩ : ∃ M, N = M + 1 := ⟨N - 1, by omega⟩
  have hMi : (N : Int) - 1 = (M : Int) := by omega
  have RT := Lib.hid (Rs.pre o2.bs.rs (m := M) (by have := HSN.out; omega))
  have HTL := Lib.hid (show (S.take M).length ≤ 1000000 by rw [List.length_take]; have := HSN.out; omega)
  have HM := Lib.hid hM
  clear o2 hM
  go_upto_region 15 with fail
  have HRF := Lib.hid (Sea.op_ref (key) (u) (S.take M))
  go_wp2_with (refine wpList_load_row rfl _ _ rfl n0 rfl _ _ (0, 0) _ k1 rfl rfl (info16s _) ?_)
  refine (open_any (key) (u) _ (S.take M) _ hk hu RT.out (by first | omega | (have := HTL.out; omega)) (HK.out.below B)).mono ?_
  rintro e x3 ht
  cases hop : Sea.op (key) (u) (S.take M) with
  | none =>
    rw [hop] at ht
    obtain ⟨rfl, hb3⟩ := retPut_none ht
    have hrf := HRF.out
    rw [hop] at hrf
    have HRF2 := Lib.hid hrf
    have k1 := k1.below hb3 k1.lt
    have RT := Lib.hid (RT.out.below hb3)
    have B := B.trans (hb3.mono B.size)
    clear ht hop hrf HRF hb3
    go_wp2_with (refine wpList_load_row rfl _ _ rfl n0 rfl _ _ (0, 0) _ k1 rfl rfl (info16s _) ?_)
    refine (refopen_any (key) (u) _ (S.take M) _ hk hu RT.out (by first | omega | (have := HTL.out; omega))).mono ?_
    rintro e x4 ht
    rw [← HRF2.out] at ht
    obtain ⟨rfl, hb4⟩ := retPut_none ht
    have B := B.trans (hb4.mono B.size)
    have RT := Lib.hid (RT.out.below hb4)
    clear ht hb4 k1
    have hnil : Rs x4 (.slice none 0 0) [] := ⟨AllB.nil, by simp, .inl ⟨rfl, rfl⟩⟩
    have HNIL := Lib.hid hnil; clear hnil
    go_wp2_with fail
    refine (same_yes _ _ [] x4 HNIL.out HNIL.out).mono ?_
    rintro e x5 ⟨rfl, hb5⟩
    have B := B.trans (hb5.mono B.size)
    clear hb5 HNIL
    go_wp2_with fail
    go_ret
    exact ⟨rfl, B⟩
  | some m =>
    rw [hop] at ht
    obtain ⟨v3, rfl, o3, hb3⟩ := retPut_some ht
    have hrf := HRF.out
    rw [hop] at hrf
    have HRF2 := Lib.hid hrf
    have k1 := k1.below hb3 k1.lt
    have RT := Lib.hid (RT.out.below hb3)
    have O3 := Lib.hid o3.bs.rs
    have B := B.trans (hb3.mono B.size)
    clear ht hop hrf HRF hb3 o3
    obtain ⟨ya, yc, hv3⟩ := O3.out.form
    subst hv3
    go_wp2_with (refine wpList_load_row rfl _ _ rfl n0 rfl _ _ (0, 0) _ k1 rfl rfl (info16s _) ?_)
    refine (refopen_any (key) (u) _ (S.take M) _ hk hu RT.out (by first | omega | (have := HTL.out; omega))).mono ?_
    rintro e x4 ht
    rw [← HRF2.out] at ht
    obtain ⟨v4, rfl, o4, hb4⟩ := retPut_some ht
    have O3 := Lib.hid (O3.out.below hb4)
    have O4 := Lib.hid o4.bs.rs
    have B := B.trans (hb4.mono B.size)
    clear ht hb4 k1 o4 RT
    go_wp2_with fail
    refine (same_yes _ _ m x4 O3.out O4.out).mono ?_
    rintro e x5 ⟨rfl, hb5⟩
    have B := B.trans (hb5.mono B.size)
    clear hb5 O3 O4
    go_wp2_with fail
    go_ret
    exact ⟨rfl, B⟩

set_option maxRecDepth 100000 in
set_option maxHeartbeats 4000000 in
theorem sealChanges_c2 (key nonce : Nat → Nat) (u at' kd : Nat) (hk : Aes.B8 key) (hn : Aes.B8 nonce) (hu : u < 256) (hat : at' < 65536) (hkd : kd < 256) (hm : kd % 5 = 2) (v : Value) (l : List Nat) (w : World) (hv : Rs w v l) (hl : l.length ≤ 500) (hK : Consts w Sha.tab) :
    Calls Tryd.prog 5 #[.agg (arr .u8 16 key), .int .u8 (u : Int), .agg (arr .u8 8 nonce), v, .int .u16 (at' : Int), .int .u8 (kd : Int)] w (RetBool true w) := by
  have HK := Lib.hid hK; clear hK
  have HV := Lib.hid hv
  obtain ⟨xa, xc, rfl⟩ := hv.form
  clear hv
  have hsz := arr_size .u8 16 key
  have hsz2 := arr_size .u8 8 nonce
  obtain ⟨a1, a2, B0⟩ := kn_boxes w key nonce
  have hsl := Sea.seal_length key u nonce l
  have HCHG := Lib.hid (fun i x hi hc hx => Sea.op_changed key u nonce l i x hi hc hx)
  obtain ⟨S, hS⟩ : ∃ S, S = Sea.sld key u nonce l := ⟨_, rfl⟩
  rw [← hS] at hsl HCHG
  have HS := Lib.hid hS.symm; clear hS
  have tm5 : (kd : Int).tmod 5 = 2 := by rw [Int.tmod_eq_emod_of_nonneg (by omega)]; omega
  obtain ⟨N, hN⟩ : ∃ N, N = S.length := ⟨_, rfl⟩
  obtain ⟨i, hi⟩ : ∃ i, i = at' % N := ⟨_, rfl⟩
  have hN24 : 24 ≤ N := by omega
  have hN600 : N ≤ 524 := by omega
  have hiN : i < N := by rw [hi]; exact Nat.mod_lt _ (by omega)
  have tmN : (at' : Int).tmod (N : Int) = (i : Int) := by rw [Int.tmod_eq_emod_of_nonneg (by omega), hi]; simp
  have hiS : i < S.length := by omega
  have HSN := Lib.hid hN
  have HIS := Lib.hid hiS
  have HSL := Lib.hid hsl
  clear hi hiS hsl hN
  go_enter Tryd.func5, Tryd.ntmps5
  go_wp2_with fail
  refine (awake_seal _ (HK.out.below B0)).mono ?_
  rintro e w1 ⟨rfl, hb1⟩
  have k1 := a1.below hb1 a1.lt
  have k2 := a2.below hb1 a2.lt
  have hw1lt : w.heap.size < w1.heap.size := Nat.lt_of_lt_of_le a1.lt hb1.size
  have B1 := B0.trans (hb1.mono B0.size)
  clear a1 a2 B0 hb1 hm
  obtain ⟨n0, hn0⟩ : ∃ n, n = w.heap.size := ⟨_, rfl⟩
  obtain ⟨n1, hn1⟩ : ∃ n, n = w.heap.size + 1 := ⟨_, rfl⟩
  rw [← hn0] at k1
  rw [← hn1] at k2
  have RV := Lib.hid (HV.out.below B1)
  have HN0 := Lib.hid hn0; have HN1 := Lib.hid hn1; clear hn0 hn1
  go_upto_region 3 with fail
  all_goals first | omega | skip
  rw [← HN1.out, ← HN0.out]
  go_wp2_with (first | refine wpList_load_row rfl _ _ rfl n0 rfl _ _ (0, 0) _ k1 rfl rfl (info16s _) ?_ | refine wpList_load_row rfl _ _ rfl n1 rfl _ _ (0, 0) _ k2 rfl rfl (info8s _) ?_)
  refine (refseal_any key nonce u _ l w1 hk hn hu RV.out (by omega)).mono ?_
  rintro e w2 ⟨v2, rfl, o2, hb2⟩
  rw [HS.out] at o2
  have k1 := k1.below hb2 k1.lt
  have hw1 := B1.size
  have B := B1.trans (hb2.mono B1.size)
  clear hb2 B1 k2 RV
  rcases o2.cases with ⟨_, hnil⟩ | ⟨g, c, rfl, hg0, hg1, hgc, hc63, _, _⟩
  · exfalso; have hsl := HSL.out; rw [hnil] at hsl; simp at hsl
  have hgw : w.heap.size ≤ g := by omega
  have hn0g : n0 ≠ g := by have := HN0.out; omega
  rw [← HSN.out] at o2 hgc ⊢
  obtain ⟨y, hy⟩ : ∃ y, y = at' % 256 := ⟨_, rfl⟩
  have hy256 : y < 256 := by omega
  have hyi : (at' : Int) % 256 = (y : Int) := by omega
  have hyi2 : IntKind.u8.wrap (at' : Int) = (y : Int) := by simp only [IntKind.wrap_u8]; omega
  clear hy
  go_upto_region 15 with (at_builtin; go_must (refine wpList_append_rs rfl (.tmp 65) (.tmp 68) rfl w1.heap.size _ _ rfl (o2.alloc _) _ [y] rfl (rs_built_at w2 _ rfl [y] (AllB.one hy256) (by simp)) (by rw [List.length_singleton]; have := HSN.out; omega) (by simp; omega) ?_; intro v3 w3 o3 hg3))
  have hb3 := below_only (B.alloc B.size (.cells ([y].map bv).toArray 5)) (Nat.le_refl _) hg3 (fun q hq => by cases hq; exact hgw)
  have k1 := (k1.alloc (.cells ([y].map bv).toArray 5)).of_block (hg3.block n0 (by simp; have := k1.lt; omega) (fun e => by cases e; exact hn0g rfl))
  have B := hb3
  have htl : (S ++ [y]).length ≤ 1000000 := by rw [List.length_append, List.length_singleton]; have := HSN.out; omega
  obtain ⟨T2, hT2⟩ : ∃ T2, T2 = S ++ [y] := ⟨_, rfl⟩
  rw [← hT2] at o3 htl
  have RT := Lib.hid o3.bs.rs
  have HTL := Lib.hid htl
  clear o2 o3 hg3 hb3 hT2 htl hyi hyi2
  obtain ⟨ta, tc, hv3⟩ := RT.out.form
  subst hv3
  have HRF := Lib.hid (Sea.op_ref (key) (u) (T2))
  go_wp2_with (refine wpList_load_row rfl _ _ rfl n0 rfl _ _ (0, 0) _ k1 rfl rfl (info16s _) ?_)
  refine (open_any (key) (u) _ (T2) _ hk hu RT.out (by first | omega | (have := HTL.out; omega)) (HK.out.below B)).mono ?_
  rintro e x3 ht
  cases hop : Sea.op (key) (u) (T2) with
  | none =>
    rw [hop] at ht
    obtain ⟨rfl, hb3⟩ := retPut_none ht
    have hrf := HRF.out
    rw [hop] at hrf
    have HRF2 := Lib.hid hrf
    have k1 := k1.below hb3 k1.lt
    have RT := Lib.hid (RT.out.below hb3)
    have B := B.trans (hb3.mono B.size)
    clear ht hop hrf HRF hb3
    go_wp2_with (refine wpList_load_row rfl _ _ rfl n0 rfl _ _ (0, 0) _ k1 rfl rfl (info16s _) ?_)
    refine (refopen_any (key) (u) _ (T2) _ hk hu RT.out (by first | omega | (have := HTL.out; omega))).mono ?_
    rintro e x4 ht
    rw [← HRF2.out] at ht
    obtain ⟨rfl, hb4⟩ := retPut_none ht
    have B := B.trans (hb4.mono B.size)
    have RT := Lib.hid (RT.out.below hb4)
    clear ht hb4 k1
    have hnil : Rs x4 (.slice none 0 0) [] := ⟨AllB.nil, by simp, .inl ⟨rfl, rfl⟩⟩
    have HNIL := Lib.hid hnil; clear hnil
    go_wp2_with fail
    refine (same_yes _ _ [] x4 HNIL.out HNIL.out).mono ?_
    rintro e x5 ⟨rfl, hb5⟩
    have B := B.trans (hb5.mono B.size)
    clear hb5 HNIL
    go_wp2_with fail
    go_ret
    exact ⟨rfl, B⟩
  | some m =>
    rw [hop] at ht
    obtain ⟨v3, rfl, o3, hb3⟩ := retPut_some ht
    have hrf := HRF.out
    rw [hop] at hrf
    have HRF2 := Lib.hid hrf
    have k1 := k1.below hb3 k1.lt
    have RT := Lib.hid (RT.out.below hb3)
    have O3 := Lib.hid o3.bs.rs
    have B := B.trans (hb3.mono B.size)
    clear ht hop hrf HRF hb3 o3
    obtain ⟨ya, yc, hv3⟩ := O3.out.form
    subst hv3
    go_wp2_with (refine wpList_load_row rfl _ _ rfl n0 rfl _ _ (0, 0) _ k1 rfl rfl (info16s _) ?_)
    refine (refopen_any (key) (u) _ (T2) _ hk hu RT.out (by first | omega | (have := HTL.out; omega))).mono ?_
    rintro e x4 ht
    rw [← HRF2.out] at ht
    obtain ⟨v4, rfl, o4, hb4⟩ := retPut_some ht
    have O3 := Lib.hid (O3.out.below hb4)
    have O4 := Lib.hid o4.bs.rs
    have B := B.trans (hb4.mono B.size)
    clear ht hb4 k1 o4 RT
    go_wp2_with fail
    refine (same_yes _ _ m x4 O3.out O4.out).mono ?_
    rintro e x5 ⟨rfl, hb5⟩
    have B := B.trans (hb5.mono B.size)
    clear hb5 O3 O4
    go_wp2_with fail
    go_ret
    exact ⟨rfl, B⟩

set_option maxRecDepth 100000 in
set_option maxHeartbeats 4000000 in
theorem sealChanges_c3 (key nonce : Nat → Nat) (u at' kd : Nat) (hk : Aes.B8 key) (hn : Aes.B8 nonce) (hu : u < 256) (hat : at' < 65536) (hkd : kd < 256) (hm : kd % 5 = 3) (v : Value) (l : List Nat) (w : World) (hv : Rs w v l) (hl : l.length ≤ 500) (hK : Consts w Sha.tab) :
    Calls Tryd.prog 5 #[.agg (arr .u8 16 key), .int .u8 (u : Int), .agg (arr .u8 8 nonce), v, .int .u16 (at' : Int), .int .u8 (kd : Int)] w (RetBool true w) := by
  have HK := Lib.hid hK; clear hK
  have HV := Lib.hid hv
  obtain ⟨xa, xc, rfl⟩ := hv.form
  clear hv
  have hsz := arr_size .u8 16 key
  have hsz2 := arr_size .u8 8 nonce
  obtain ⟨a1, a2, B0⟩ := kn_boxes w key nonce
  have hsl := Sea.seal_length key u nonce l
  have HCHG := Lib.hid (fun i x hi hc hx => Sea.op_changed key u nonce l i x hi hc hx)
  obtain ⟨S, hS⟩ : ∃ S, S = Sea.sld key u nonce l := ⟨_, rfl⟩
  rw [← hS] at hsl HCHG
  have HS := Lib.hid hS.symm; clear hS
  have tm5 : (kd : Int).tmod 5 = 3 := by rw [Int.tmod_eq_emod_of_nonneg (by omega)]; omega
  obtain ⟨N, hN⟩ : ∃ N, N = S.length := ⟨_, rfl⟩
  obtain ⟨i, hi⟩ : ∃ i, i = at' % N := ⟨_, rfl⟩
  have hN24 : 24 ≤ N := by omega
  have hN600 : N ≤ 524 := by omega
  have hiN : i < N := by rw [hi]; exact Nat.mod_lt _ (by omega)
  have tmN : (at' : Int).tmod (N : Int) = (i : Int) := by rw [Int.tmod_eq_emod_of_nonneg (by omega), hi]; simp
  have hiS : i < S.length := by omega
  have HSN := Lib.hid hN
  have HIS := Lib.hid hiS
  have HSL := Lib.hid hsl
  clear hi hiS hsl hN
  go_enter Tryd.func5, Tryd.ntmps5
  go_wp2_with fail
  refine (awake_seal _ (HK.out.below B0)).mono ?_
  rintro e w1 ⟨rfl, hb1⟩
  have k1 := a1.below hb1 a1.lt
  have k2 := a2.below hb1 a2.lt
  have hw1lt : w.heap.size < w1.heap.size := Nat.lt_of_lt_of_le a1.lt hb1.size
  have B1 := B0.trans (hb1.mono B0.size)
  clear a1 a2 B0 hb1 hm
  obtain ⟨n0, hn0⟩ : ∃ n, n = w.heap.size := ⟨_, rfl⟩
  obtain ⟨n1, hn1⟩ : ∃ n, n = w.heap.size + 1 := ⟨_, rfl⟩
  rw [← hn0] at k1
  rw [← hn1] at k2
  have RV := Lib.hid (HV.out.below B1)
  have HN0 := Lib.hid hn0; have HN1 := Lib.hid hn1; clear hn0 hn1
  go_upto_region 3 with fail
  all_goals first | omega | skip
  rw [← HN1.out, ← HN0.out]
  go_wp2_with (first | refine wpList_load_row rfl _ _ rfl n0 rfl _ _ (0, 0) _ k1 rfl rfl (info16s _) ?_ | refine wpList_load_row rfl _ _ rfl n1 rfl _ _ (0, 0) _ k2 rfl rfl (info8s _) ?_)
  refine (refseal_any key nonce u _ l w1 hk hn hu RV.out (by omega)).mono ?_
  rintro e w2 ⟨v2, rfl, o2, hb2⟩
  rw [HS.out] at o2
  have k1 := k1.below hb2 k1.lt
  have hw1 := B1.size
  have B := B1.trans (hb2.mono B1.size)
  clear hb2 B1 k2 RV
  rcases o2.cases with ⟨_, hnil⟩ | ⟨g, c, rfl, hg0, hg1, hgc, hc63, _, _⟩
  · exfalso; have hsl := HSL.out; rw [hnil] at hsl; simp at hsl
  have hgw : w.heap.size ≤ g := by omega
  have hn0g : n0 ≠ g := by have := HN0.out; omega
  rw [← HSN.out] at o2 hgc ⊢
  obtain ⟨j, hj⟩ : ∃ j, j = i % 16 := ⟨_, rfl⟩
  have hj16 : j < 16 := by omega
  have htj : (i : Int).tmod 16 = (j : Int) := by rw [Int.tmod_eq_emod_of_nonneg (by omega)]; omega
  have cj := k1.cell (i := j) hj16
  have fj := k1.frozen j
  have hp := hk j
  obtain ⟨y, hy⟩ : ∃ y, y = (key j + 1) % 256 := ⟨_, rfl⟩
  have hy256 : y < 256 := by omega
  have hyi : ((key j : Nat) + 1 : Int) % 256 = (y : Int) := by omega
  have hyi2 : IntKind.u8.wrap ((key j : Nat) + 1 : Int) = (y : Int) := by simp only [IntKind.wrap_u8]; omega
  have B := below_only B (Nat.le_refl _) (only_setCell (only_refl w2 (some n0)) (p := ⟨n0, j, none⟩) (.inl rfl) (bv y)) (fun q hq => by cases hq; exact Nat.le_of_eq HN0.out.symm)
  have k1 := k1.set j y
  have RT := Lib.hid ((o2.only (only_setCell (only_refl w2 (some n0)) (p := ⟨n0, j, none⟩) (.inl rfl) (bv y)) (.inr (fun e => by cases e; exact hn0g rfl))).bs.rs)
  have HTL := Lib.hid (show S.length ≤ 1000000 by have := HSN.out; omega)
  obtain ⟨kk, hkk⟩ : ∃ kk : Nat → Nat, kk = fun t => if t = j then y else key t := ⟨_, rfl⟩
  have hk2 : Aes.B8 kk := fun t => by rw [hkk]; dsimp only; split <;> first | exact hy256 | exact hk t
  rw [← hkk] at k1
  have HKS := Lib.hid (HK.out.below B)
  clear hkk hy hj o2
  generalize key j = p at *
  go_upto_region 15 with fail
  have HRF := Lib.hid (Sea.op_ref (kk) (u) (S))
  go_wp2_with (refine wpList_load_row rfl _ _ rfl n0 rfl _ _ (0, 0) _ k1 rfl rfl (info16s _) ?_)
  refine (open_any (kk) (u) _ (S) _ hk2 hu RT.out (by first | omega | (have := HTL.out; omega)) HKS.out).mono ?_
  rintro e x3 ht
  cases hop : Sea.op (kk) (u) (S) with
  | none =>
    rw [hop] at ht
    obtain ⟨rfl, hb3⟩ := retPut_none ht
    have hrf := HRF.out
    rw [hop] at hrf
    have HRF2 := Lib.hid hrf
    have k1 := k1.below hb3 k1.lt
    have RT := Lib.hid (RT.out.below hb3)
    have B := B.trans (hb3.mono B.size)
    clear ht hop hrf HRF hb3
    go_wp2_with (refine wpList_load_row rfl _ _ rfl n0 rfl _ _ (0, 0) _ k1 rfl rfl (info16s _) ?_)
    refine (refopen_any (kk) (u) _ (S) _ hk2 hu RT.out (by first | omega | (have := HTL.out; omega))).mono ?_
    rintro e x4 ht
    rw [← HRF2.out] at ht
    obtain ⟨rfl, hb4⟩ := retPut_none ht
    have B := B.trans (hb4.mono B.size)
    have RT := Lib.hid (RT.out.below hb4)
    clear ht hb4 k1
    have hnil : Rs x4 (.slice none 0 0) [] := ⟨AllB.nil, by simp, .inl ⟨rfl, rfl⟩⟩
    have HNIL := Lib.hid hnil; clear hnil
    go_wp2_with fail
    refine (same_yes _ _ [] x4 HNIL.out HNIL.out).mono ?_
    rintro e x5 ⟨rfl, hb5⟩
    have B := B.trans (hb5.mono B.size)
    clear hb5 HNIL
    go_wp2_with fail
    go_ret
    exact ⟨rfl, B⟩
  | some m =>
    rw [hop] at ht
    obtain ⟨v3, rfl, o3, hb3⟩ := retPut_some ht
    have hrf := HRF.out
    rw [hop] at hrf
    have HRF2 := Lib.hid hrf
    have k1 := k1.below hb3 k1.lt
    have RT := Lib.hid (RT.out.below hb3)
    have O3 := Lib.hid o3.bs.rs
    have B := B.trans (hb3.mono B.size)
    clear ht hop hrf HRF hb3 o3
    obtain ⟨ya, yc, hv3⟩ := O3.out.form
    subst hv3
    go_wp2_with (refine wpList_load_row rfl _ _ rfl n0 rfl _ _ (0, 0) _ k1 rfl rfl (info16s _) ?_)
    refine (refopen_any (kk) (u) _ (S) _ hk2 hu RT.out (by first | omega | (have := HTL.out; omega))).mono ?_
    rintro e x4 ht
    rw [← HRF2.out] at ht
    obtain ⟨v4, rfl, o4, hb4⟩ := retPut_some ht
    have O3 := Lib.hid (O3.out.below hb4)
    have O4 := Lib.hid o4.bs.rs
    have B := B.trans (hb4.mono B.size)
    clear ht hb4 k1 o4 RT
    go_wp2_with fail
    refine (same_yes _ _ m x4 O3.out O4.out).mono ?_
    rintro e x5 ⟨rfl, hb5⟩
    have B := B.trans (hb5.mono B.size)
    clear hb5 O3 O4
    go_wp2_with fail
    go_ret
    exact ⟨rfl, B⟩

set_option maxRecDepth 100000 in
set_option maxHeartbeats 4000000 in
theorem sealChanges_c4 (key nonce : Nat → Nat) (u at' kd : Nat) (hk : Aes.B8 key) (hn : Aes.B8 nonce) (hu : u < 256) (hat : at' < 65536) (hkd : kd < 256) (hm : kd % 5 = 4) (v : Value) (l : List Nat) (w : World) (hv : Rs w v l) (hl : l.length ≤ 500) (hK : Consts w Sha.tab) :
    Calls Tryd.prog 5 #[.agg (arr .u8 16 key), .int .u8 (u : Int), .agg (arr .u8 8 nonce), v, .int .u16 (at' : Int), .int .u8 (kd : Int)] w (RetBool true w) := by
  have HK := Lib.hid hK; clear hK
  have HV := Lib.hid hv
  obtain ⟨xa, xc, rfl⟩ := hv.form
  clear hv
  have hsz := arr_size .u8 16 key
  have hsz2 := arr_size .u8 8 nonce
  obtain ⟨a1, a2, B0⟩ := kn_boxes w key nonce
  have hsl := Sea.seal_length key u nonce l
  have HCHG := Lib.hid (fun i x hi hc hx => Sea.op_changed key u nonce l i x hi hc hx)
  obtain ⟨S, hS⟩ : ∃ S, S = Sea.sld key u nonce l := ⟨_, rfl⟩
  rw [← hS] at hsl HCHG
  have HS := Lib.hid hS.symm; clear hS
  have tm5 : (kd : Int).tmod 5 = 4 := by rw [Int.tmod_eq_emod_of_nonneg (by omega)]; omega
  obtain ⟨N, hN⟩ : ∃ N, N = S.length := ⟨_, rfl⟩
  obtain ⟨i, hi⟩ : ∃ i, i = at' % N := ⟨_, rfl⟩
  have hN24 : 24 ≤ N := by omega
  have hN600 : N ≤ 524 := by omega
  have hiN : i < N := by rw [hi]; exact Nat.mod_lt _ (by omega)
  have tmN : (at' : Int).tmod (N : Int) = (i : Int) := by rw [Int.tmod_eq_emod_of_nonneg (by omega), hi]; simp
  have hiS : i < S.length := by omega
  have HSN := Lib.hid hN
  have HIS := Lib.hid hiS
  have HSL := Lib.hid hsl
  clear hi hiS hsl hN
  go_enter Tryd.func5, Tryd.ntmps5
  go_wp2_with fail
  refine (awake_seal _ (HK.out.below B0)).mono ?_
  rintro e w1 ⟨rfl, hb1⟩
  have k1 := a1.below hb1 a1.lt
  have k2 := a2.below hb1 a2.lt
  have hw1lt : w.heap.size < w1.heap.size := Nat.lt_of_lt_of_le a1.lt hb1.size
  have B1 := B0.trans (hb1.mono B0.size)
  clear a1 a2 B0 hb1 hm
  obtain ⟨n0, hn0⟩ : ∃ n, n = w.heap.size := ⟨_, rfl⟩
  obtain ⟨n1, hn1⟩ : ∃ n, n = w.heap.size + 1 := ⟨_, rfl⟩
  rw [← hn0] at k1
  rw [← hn1] at k2
  have RV := Lib.hid (HV.out.below B1)
  have HN0 := Lib.hid hn0; have HN1 := Lib.hid hn1; clear hn0 hn1
  go_upto_region 3 with fail
  all_goals first | omega | skip
  rw [← HN1.out, ← HN0.out]
  go_wp2_with (first | refine wpList_load_row rfl _ _ rfl n0 rfl _ _ (0, 0) _ k1 rfl rfl (info16s _) ?_ | refine wpList_load_row rfl _ _ rfl n1 rfl _ _ (0, 0) _ k2 rfl rfl (info8s _) ?_)
  refine (refseal_any key nonce u _ l w1 hk hn hu RV.out (by omega)).mono ?_
  rintro e w2 ⟨v2, rfl, o2, hb2⟩
  rw [HS.out] at o2
  have k1 := k1.below hb2 k1.lt
  have hw1 := B1.size
  have B := B1.trans (hb2.mono B1.size)
  clear hb2 B1 k2 RV
  rcases o2.cases with ⟨_, hnil⟩ | ⟨g, c, rfl, hg0, hg1, hgc, hc63, _, _⟩
  · exfalso; have hsl := HSL.out; rw [hnil] at hsl; simp at hsl
  have hgw : w.heap.size ≤ g := by omega
  have hn0g : n0 ≠ g := by have := HN0.out; omega
  rw [← HSN.out] at o2 hgc ⊢
  obtain ⟨u2, hu2⟩ : ∃ u2, u2 = (u + 1) % 256 := ⟨_, rfl⟩
  have hu256 : u2 < 256 := by omega
  have hui : ((u : Int) + 1) % 256 = (u2 : Int) := by omega
  have hui2 : IntKind.u8.wrap ((u : Int) + 1) = (u2 : Int) := by simp only [IntKind.wrap_u8]; omega
  have RT := Lib.hid o2.bs.rs
  have HTL := Lib.hid (show S.length ≤ 1000000 by have := HSN.out; omega)
  clear o2 hu2
  go_upto_region 15 with fail
  have HRF := Lib.hid (Sea.op_ref (key) (u2) (S))
  go_wp2_with (refine wpList_load_row rfl _ _ rfl n0 rfl _ _ (0, 0) _ k1 rfl rfl (info16s _) ?_)
  refine (open_any (key) (u2) _ (S) _ hk hu256 RT.out (by first | omega | (have := HTL.out; omega)) (HK.out.below B)).mono ?_
  rintro e x3 ht
  cases hop : Sea.op (key) (u2) (S) with
  | none =>
    rw [hop] at ht
    obtain ⟨rfl, hb3⟩ := retPut_none ht
    have hrf := HRF.out
    rw [hop] at hrf
    have HRF2 := Lib.hid hrf
    have k1 := k1.below hb3 k1.lt
    have RT := Lib.hid (RT.out.below hb3)
    have B := B.trans (hb3.mono B.size)
    clear ht hop hrf HRF hb3
    go_wp2_with (refine wpList_load_row rfl _ _ rfl n0 rfl _ _ (0, 0) _ k1 rfl rfl (info16s _) ?_)
    refine (refopen_any (key) (u2) _ (S) _ hk hu256 RT.out (by first | omega | (have := HTL.out; omega))).mono ?_
    rintro e x4 ht
    rw [← HRF2.out] at ht
    obtain ⟨rfl, hb4⟩ := retPut_none ht
    have B := B.trans (hb4.mono B.size)
    have RT := Lib.hid (RT.out.below hb4)
    clear ht hb4 k1
    have hnil : Rs x4 (.slice none 0 0) [] := ⟨AllB.nil, by simp, .inl ⟨rfl, rfl⟩⟩
    have HNIL := Lib.hid hnil; clear hnil
    go_wp2_with fail
    refine (same_yes _ _ [] x4 HNIL.out HNIL.out).mono ?_
    rintro e x5 ⟨rfl, hb5⟩
    have B := B.trans (hb5.mono B.size)
    clear hb5 HNIL
    go_wp2_with fail
    go_ret
    exact ⟨rfl, B⟩
  | some m =>
    rw [hop] at ht
    obtain ⟨v3, rfl, o3, hb3⟩ := retPut_some ht
    have hrf := HRF.out
    rw [hop] at hrf
    have HRF2 := Lib.hid hrf
    have k1 := k1.below hb3 k1.lt
    have RT := Lib.hid (RT.out.below hb3)
    have O3 := Lib.hid o3.bs.rs
    have B := B.trans (hb3.mono B.size)
    clear ht hop hrf HRF hb3 o3
    obtain ⟨ya, yc, hv3⟩ := O3.out.form
    subst hv3
    go_wp2_with (refine wpList_load_row rfl _ _ rfl n0 rfl _ _ (0, 0) _ k1 rfl rfl (info16s _) ?_)
    refine (refopen_any (key) (u2) _ (S) _ hk hu256 RT.out (by first | omega | (have := HTL.out; omega))).mono ?_
    rintro e x4 ht
    rw [← HRF2.out] at ht
    obtain ⟨v4, rfl, o4, hb4⟩ := retPut_some ht
    have O3 := Lib.hid (O3.out.below hb4)
    have O4 := Lib.hid o4.bs.rs
    have B := B.trans (hb4.mono B.size)
    clear ht hb4 k1 o4 RT
    go_wp2_with fail
    refine (same_yes _ _ m x4 O3.out O4.out).mono ?_
    rintro e x5 ⟨rfl, hb5⟩
    have B := B.trans (hb5.mono B.size)
    clear hb5 O3 O4
    go_wp2_with fail
    go_ret
    exact ⟨rfl, B⟩

theorem sealChanges_walk (w : World) (f : Nat → Int) (wf : ∀ j, j < 16 → (Lit.int .u8 (f j)).wf = true) (x : Int) (wx : (Lit.int .u8 x).wf = true) (g : Nat → Int) (wg : ∀ j, j < 8 → (Lit.int .u8 (g j)).wf = true) (v : Value) (l : List Nat) (hv : Rs w v l) (at' : Int) (wat : (Lit.int .u16 at').wf = true) (kd : Int) (wkd : (Lit.int .u8 kd).wf = true) (hK : Consts w Sha.tab) :
    Calls Tryd.prog 5 #[.agg ((List.range 16).map fun i => Value.int .u8 (f i)).toArray, .int .u8 x, .agg ((List.range 8).map fun i => Value.int .u8 (g i)).toArray, v, .int .u16 at', .int .u8 kd] w (RetBool true w) := by
  obtain ⟨key, hk, e1⟩ := bytes_arg f wf
  obtain ⟨nonce, hn, e2⟩ := bytes_arg g wg
  have hx := u8_range wx
  have hd := u8_range wkd
  have ha := bounds_u16 wat
  obtain ⟨u, rfl⟩ := Int.eq_ofNat_of_zero_le hx.1
  obtain ⟨kd, rfl⟩ := Int.eq_ofNat_of_zero_le hd.1
  obtain ⟨a, rfl⟩ := Int.eq_ofNat_of_zero_le (by omega : 0 ≤ at')
  rw [e1, e2]
  by_cases hl : 500 < l.length
  · exact sealChanges_out key nonce u a kd v l w hv hl hK
  · obtain h | h | h | h | h : kd % 5 = 0 ∨ kd % 5 = 1 ∨ kd % 5 = 2 ∨ kd % 5 = 3 ∨ kd % 5 = 4 := by omega
    · exact sealChanges_c0 key nonce u a kd hk hn (by omega) (by omega) (by omega) h v l w hv (by omega) hK
    · exact sealChanges_c1 key nonce u a kd hk hn (by omega) (by omega) (by omega) h v l w hv (by omega) hK
    · exact sealChanges_c2 key nonce u a kd hk hn (by omega) (by omega) (by omega) h v l w hv (by omega) hK
    · exact sealChanges_c3 key nonce u a kd hk hn (by omega) (by omega) (by omega) h v l w hv (by omega) hK
    · exact sealChanges_c4 key nonce u a kd hk hn (by omega) (by omega) (by omega) h v l w hv (by omega) hK

/-! ### THE ROW's STEP -/
namespace sealChangesF
theorem own : ownKnob Tryd.prog.godebug = none := by kernel_rfl
theorem laidOut : laidOutB Tryd.prog = true := by kernel_rfl
theorem gT : Tryd.prog.globalNamed "toll/sha.constants" = some 0 := by kernel_rfl
theorem gTType : (Tryd.prog.globals[0]?).map (·.type) = some 70 := by kernel_rfl
theorem door_met (os : Os) (args : Array Value) : laidMetH Tryd.prog Rows.sealChangesRow.laid ((World.doorLaid Tryd.prog 400 os).forCall (fun _ _ => 0) ⟨#[], args, []⟩).memory :=
  laidMetH_of_parts3 (fuel := 8) (laidMet_of_run' 8 (by kernel_rfl) (by kernel_rfl)) (by kernel_rfl) (by kernel_rfl)
theorem of_laid {W : World} (h : laidMetH Tryd.prog Rows.sealChangesRow.laid W) : Consts W Sha.tab := fun i hi => by
  rw [MakeChecks.laidMetH_plain _ _ _ (by kernel_rfl)] at h
  have hT := Lib.tabIs_of_head (k := .u32) (zs := Sha.tableL.map fun n : Nat => (n : Int)) gT gTType Tryd.underlying70 Tryd.underlying60 (by kernel_rfl) (by kernel_rfl) h
  have hl : i < Sha.tableL.length := hi
  rw [hT.cell gT i (by simpa using hl)]
  simp [Sha.tab, List.getD, hl]
set_option maxRecDepth 100000 in
theorem lifted (os : Os) (started : os.Started) (H : Type) (enc : TypeId × Value → H) :
    ReturnsInHanded {} Tryd.checked os 5 .any (fun w args => (Rows.sealChangesSpec.pre enc Tryd.prog Tryd.f5 [] false w args ∧ laidMetH Tryd.prog Rows.sealChangesRow.laid w) ∧ sizedMet enc Tryd.prog Tryd.f5 (OpenSpec.ofChange Rows.sealChangesSpec) false w args)
      (Rows.sealChangesSpec.post enc Tryd.prog Tryd.f5 false true false false) := by
  refine returnsInHanded_of_change_and (C := Tryd.checked) (X := fun w _ => laidMetH Tryd.prog Rows.sealChangesRow.laid w) (fun _ _ _ hh h => h.of_heap hh) own started (by kernel_rfl) Tryd.func5
    (ChangeSpec.witness_shaped (enc := enc) (C := Tryd.checked) (os := os) (X := fun w _ => laidMetH Tryd.prog Rows.sealChangesRow.laid w) false (World.doorLaid Tryd.prog 400 os) #[.agg #[.int .u8 0, .int .u8 0, .int .u8 0, .int .u8 0, .int .u8 0, .int .u8 0, .int .u8 0, .int .u8 0, .int .u8 0, .int .u8 0, .int .u8 0, .int .u8 0, .int .u8 0, .int .u8 0, .int .u8 0, .int .u8 0], .int .u8 0, .agg #[.int .u8 0, .int .u8 0, .int .u8 0, .int .u8 0, .int .u8 0, .int .u8 0, .int .u8 0, .int .u8 0], .slice none 0 0, .int .u16 0, .int .u8 0] 8 rfl (World.shaped_of_RefB (by kernel_rfl) (by kernel_rfl)) (by kernel_rfl) (by kernel_rfl) (by kernel_rfl) (door_met os _)) ?_
  intro W base args ds gs before hval0 hW _ _ hL _
  have hK := of_laid hL
  have hval : ∀ (j : Nat) t v, Tryd.f5.params[j]? = some t → args[j]? = some v → Value.okWide Tryd.prog W .any base t v := hval0
  have hW' := hW
  obtain ⟨p, q, hA0, hV, rfl, _, _⟩ := hW
  have hA : DataW.TrodAll enc Tryd.prog W 0 (fun _ => true) true Tryd.f5.params.toList args.toList ds p := hA0
  rw [Tryd.params5] at hA hval
  obtain ⟨v0, vs0, d0, ds0, p0, q0, hargs, rfl, rfl, h0, r0⟩ := trodAll_cons hA
  obtain ⟨v1, vs1, d1, ds1, p1, q1, rfl, rfl, rfl, h1, r1⟩ := trodAll_cons r0
  obtain ⟨v2, vs2, d2, ds2, p2, q2, rfl, rfl, rfl, h2, r2⟩ := trodAll_cons r1
  obtain ⟨v3, vs3, d3, ds3, p3, q3, rfl, rfl, rfl, h3, r3⟩ := trodAll_cons r2
  obtain ⟨v4, vs4, d4, ds4, p4, q4, rfl, rfl, rfl, h4, r4⟩ := trodAll_cons r3
  obtain ⟨v5, vs5, d5, ds5, p5, q5, rfl, rfl, rfl, h5, r5⟩ := trodAll_cons r4
  obtain ⟨rfl, rfl, rfl⟩ := trodAll_nil r5
  obtain rfl : args = #[v0, v1, v2, v3, v4, v5] := by cases args; simp_all
  obtain ⟨rfl, rfl⟩ := trodVars_none hV
  have k0 := h0
  have lt0 : ∀ x ∈ p0, x.block < W.heap.size := by obtain ⟨m, hm⟩ := k0; exact DataW.trod_lt m _ _ _ hm
  obtain ⟨a0, rfl, w0⟩ := open_int_array Tryd.underlying22 Tryd.underlying5 (by kernel_rfl) (by kernel_rfl) (hval 0 22 v0 rfl rfl) h0
  have k1 := h1
  have lt1 : ∀ x ∈ p1, x.block < W.heap.size := by obtain ⟨m, hm⟩ := k1; exact DataW.trod_lt m _ _ _ hm
  obtain ⟨a1, rfl, _, _, w1⟩ := open_int Tryd.underlying5 (hval 1 5 v1 rfl rfl) h1
  have k2 := h2
  have lt2 : ∀ x ∈ p2, x.block < W.heap.size := by obtain ⟨m, hm⟩ := k2; exact DataW.trod_lt m _ _ _ hm
  obtain ⟨a2, rfl, w2⟩ := open_int_array Tryd.underlying23 Tryd.underlying5 (by kernel_rfl) (by kernel_rfl) (hval 2 23 v2 rfl rfl) h2
  have k3 := h3
  have lt3 : ∀ x ∈ p3, x.block < W.heap.size := by obtain ⟨m, hm⟩ := k3; exact DataW.trod_lt m _ _ _ hm
  obtain ⟨a3, len3, cap3, rfl⟩ := okWide_slice Tryd.underlying24 (hval 3 24 v3 rfl rfl)
  obtain ⟨z3, w3⟩ := open_bytes Tryd.underlying24 Tryd.underlying5 (by kernel_rfl) h3
  have k4 := h4
  have lt4 : ∀ x ∈ p4, x.block < W.heap.size := by obtain ⟨m, hm⟩ := k4; exact DataW.trod_lt m _ _ _ hm
  obtain ⟨a4, rfl, _, _, w4⟩ := open_int Tryd.underlying34 (hval 4 34 v4 rfl rfl) h4
  have k5 := h5
  have lt5 : ∀ x ∈ p5, x.block < W.heap.size := by obtain ⟨m, hm⟩ := k5; exact DataW.trod_lt m _ _ _ hm
  obtain ⟨a5, rfl, _, _, w5⟩ := open_int Tryd.underlying5 (hval 5 5 v5 rfl rfl) h5
  refine (sealChanges_walk W a0 w0 a1 w1 a2 w2 _ z3 w3 a4 w4 a5 w5 hK).mono fun e W' ⟨he, bel⟩ => ?_
  subst he
  exact ⟨_, rfl, _, _, _, [], _, [], hW', trodAll_mk1 (shut_bool Tryd.underlying4 _), (trodAll_cons_mk (Below.trod laidOut (by kernel_rfl) (of_decide_eq_true (by kernel_rfl)) k0 bel lt0) (trodAll_cons_mk (Below.trod laidOut (by kernel_rfl) (of_decide_eq_true (by kernel_rfl)) k1 bel lt1) (trodAll_cons_mk (Below.trod laidOut (by kernel_rfl) (of_decide_eq_true (by kernel_rfl)) k2 bel lt2) (trodAll_cons_mk (Below.trod laidOut (by kernel_rfl) (of_decide_eq_true (by kernel_rfl)) k3 bel lt3) (trodAll_cons_mk (Below.trod laidOut (by kernel_rfl) (of_decide_eq_true (by kernel_rfl)) k4 bel lt4) (trodAll_cons_mk (Below.trod laidOut (by kernel_rfl) (of_decide_eq_true (by kernel_rfl)) k5 bel lt5) trodAll_mk0)))))), rfl, bel.frame _, fun h => by cases h⟩
theorem over : Rows.sealChangesRow.holds Tryd.pinned (OpenSpec.ofChange Rows.sealChangesSpec) :=
  OpenClaim.holds_of_wide 5 Tryd.f5 rfl rfl rfl rfl rfl rfl rfl ⟨rfl, rfl, rfl, rfl, rfl⟩ rfl rfl rfl rfl rfl (by kernel_rfl) Tryd.func5 (by kernel_rfl)
    (of_decide_eq_true (by kernel_rfl)) (by unfold Func.isWrapper; first | (rw [if_pos (by decide +kernel)]; kernel_rfl) | (rw [if_neg (by decide +kernel)]; exact ⟨rfl, rfl⟩))
    (fun os started H enc _ => lifted os started H enc)
end sealChangesF
/-- The row. -/
theorem sealChanges_row : Rows.SealChangesSaid := sealChangesF.over
/-- The statement: the card. -/
theorem sealChanges_holds : Rows.SealChangesCardSaid :=
  Claim7.holds_tied_plain_at .later [] [.data] true Rows.sealChangesCard.stood.harness false
    sealChanges_row (fun _ h => by cases h) (by kernel_rfl) (fun _ h => by cases h) sealChanges_row_tie rfl ⟨rfl, rfl⟩ (by kernel_rfl) rfl
    (fun f fn hf hfn => by
      obtain rfl : f = 5 := Option.some.inj ((show Tryd.prog.funcNamed "toll/tolllaw09.SealChanges" = some 5 by kernel_rfl).symm.trans hf) |>.symm
      obtain rfl : fn = Tryd.f5 := (Option.some.inj (Tryd.func5.symm.trans hfn)).symm
      exact ⟨by kernel_rfl, fun j t ht => by
        rw [Tryd.params5] at ht
        have hm : t ∈ [22, 5, 23, 24, 34, 5] := by simpa using Array.mem_of_getElem? ht
        have hall : ([22, 5, 23, 24, 34, 5].all fun u => !Tryd.prog.wantsStandIn u) = true := by kernel_rfl
        exact (show Tryd.prog.wantsStandIn t = false by simpa using List.all_eq_true.1 hall t hm)⟩)
    (by kernel_rfl)
#print axioms sealChanges_holds
end Go.Proofs.YtpbcpdocnjnfiaaDoor
