/- Layer 14: Make, in the reference. -/
import Derived.Test.YtnhchdkchohnbaaGreatDoorReqJ
import Derived.Test.YtnhchdkchohnbaaGreatDoorTicC
import Derived.Test.YtnhchdkchohnbaaGreatDoorAutC
namespace Go.Proofs.YtnhchdkchohnbaaGreatDoor
open Go.RowKit Go.Deep

theorem Req.mk_valid {key nonce kt : Nat → Nat} {t : Tic.T} {a : Aut.A} (ht : Tic.valid t = true) (ha : Aut.valid a = true) : Req.mk key nonce kt t a = Req.bytes (Sea.sld key 2 nonce (Tic.bytes t)) (Sea.sld kt 11 nonce (Aut.bytes a)) := if_pos ⟨ht, ha⟩
set_option maxRecDepth 100000 in
set_option maxHeartbeats 8000000 in
theorem refrqmake_any (key nonce : Nat → Nat) (q : ByteArray) (u : Value) (ss : List ByteArray) (s e : Int) (kt : Nat → Nat) (r : ByteArray) (v : Value) (tt : List ByteArray) (t : Int) (m z : Nat) (w : World) (hk : Aes.B8 key) (hn : Aes.B8 nonce) (hq : q.size ≤ maxLen) (ht : Aes.B8 kt) (hu : Ss w u ss) (hr : r.size ≤ maxLen) (hm : m < 4294967296) (hz : z < 4294967296) (hv : Ss w v tt)
    (htv : Tic.valid (tic q ss s e kt) = true) (hav : Aut.valid (aut r tt t m z) = true) :
    Calls Tryz.prog 20 #[.agg (arr .u8 16 key), .agg (arr .u8 8 nonce), .agg (tk q u s e kt), .agg (au r v t m z)] w (RetOwn ((Req.mk key nonce kt (tic q ss s e kt) (aut r tt t m z)).getD []) w) := by
  obtain ⟨W0, hW0, a0, n0, t0, z0, G0⟩ := four_boxes w key nonce (tk q u s e kt) (au r v t m z) 41 32
  have T0 : Tb W0 (w.heap.size + 1 + 1) q u ss s e kt := ⟨t0, hu.only G0, hq, ht⟩
  have Z0 : Ab W0 (w.heap.size + 1 + 1 + 1) r v tt t m z := ⟨z0, hv.only G0, hr, hm, hz⟩
  have s1 := arr_size .u8 16 key
  have s2 := arr_size .u8 8 nonce
  have s3 := tk_size q u s e kt
  have s4 := au_size r v t m z
  have s5 := arr_size .u8 16 kt
  obtain ⟨ua, uc, rfl⟩ := hu.form
  obtain ⟨va, vc, rfl⟩ := hv.form
  clear hu hv t0 z0
  rw [Req.mk_valid htv hav]
  have htl := Tic.bytes_len htv (Sea.nl_length _ _)
  have hal := Aut.bytes_len hav
  have hsl := Sea.seal_length key 2 nonce (Tic.bytes (tic q ss s e kt))
  have hsl2 := Sea.seal_length kt 11 nonce (Aut.bytes (aut r tt t m z))
  have HTV := Lib.hid htv
  have HAV := Lib.hid hav
  clear htv hav
  go_enter Tryz.func20, Tryz.ntmps20
  go_upto_region 1 with fail
  rw [← hW0]
  clear hW0
  obtain ⟨n3, hn3⟩ : ∃ n, n = w.heap.size + 1 + 1 + 1 := ⟨_, rfl⟩
  rw [← hn3] at Z0 ⊢
  obtain ⟨n2, hn2⟩ : ∃ n, n = w.heap.size + 1 + 1 := ⟨_, rfl⟩
  rw [← hn2] at T0 ⊢
  obtain ⟨n1, hn1⟩ : ∃ n, n = w.heap.size + 1 := ⟨_, rfl⟩
  rw [← hn1] at n0 ⊢
  obtain ⟨b0, hb0⟩ : ∃ n, n = w.heap.size := ⟨_, rfl⟩
  rw [← hb0] at a0 ⊢
  clear hn3 hn2 hn1 hb0
  have CK := Lib.hid T0.ck
  have hb0 := a0.lt
  have hn1 := n0.lt
  have hn2 := T0.1.lt
  have hn3 := Z0.1.lt
  have a1 : isArr (W0.drewN 1) b0 22 .u8 16 key := a0
  have n1' : isArr (W0.drewN 1) n1 23 .u8 8 nonce := n0
  have T1 : Tb (W0.drewN 1) n2 q (.slice ua ss.length uc) ss s e kt := T0.only (only_drewN (only_refl W0 none) 1)
  have Z1 : Ab (W0.drewN 1) n3 r (.slice va tt.length vc) tt t m z := Z0.only (only_drewN (only_refl W0 none) 1)
  have CK1 := Lib.hid (show ∀ j v, (arr .u8 16 kt)[j]? = some v → (W0.drewN 1).cell? ((⟨n2, 4, none⟩ : Addr).add j) = some v from CK.out)
  have G1 := only_drewN G0 1
  refine wp_reg Tryz.f20 1 6 (fun w' => Below (W0.drewN 1).heap.size (W0.drewN 1) w') (by kernel_rfl) (by kernel_rfl) (by kernel_rfl) (Below.refl _ _) (fun K hK h0 => ?_)
  refine reg_cast (listed' := #[false, false, false, false, false, false]) (by kernel_rfl) rfl ?_
  have HF := Lib.hid hK; clear hK
  clear a0 n0 T0 Z0 G0 CK
  generalize W0.drewN 1 = V at *
  refine reg_load 0 13 (by kernel_rfl) 22 (.tmp 4) (by kernel_rfl) ⟨b0, 0, none⟩ (by kernel_rfl) (arr .u8 16 key) _ (fun w' hw' j v hj => by rw [Addr.add_lit, Nat.zero_add]; exact Hb.cell (a1.below hw' a1.lt) hj) Tryz.underlying22 rfl (by kernel_rfl) h0 ?_
  simp only [Act.put, List.setIfInBounds_toArray, List.set_cons_zero, List.set_cons_succ]
  refine reg_load 1 14 (by kernel_rfl) 23 (.tmp 5) (by kernel_rfl) ⟨n1, 0, none⟩ (by kernel_rfl) (arr .u8 8 nonce) _ (fun w' hw' j v hj => by rw [Addr.add_lit, Nat.zero_add]; exact Hb.cell (n1'.below hw' n1'.lt) hj) Tryz.underlying23 rfl (by kernel_rfl) h0 ?_
  simp only [Act.put, List.setIfInBounds_toArray, List.set_cons_zero, List.set_cons_succ]
  refine reg_load 2 15 (by kernel_rfl) 41 (.tmp 6) (by kernel_rfl) ⟨n2, 0, none⟩ (by kernel_rfl) (tk q (.slice ua ss.length uc) s e kt) _ (fun w' hw' j v hj => by rw [Addr.add_lit, Nat.zero_add]; exact (T1.1.below hw' T1.1.lt).cell hj) Tryz.underlying41 rfl (by kernel_rfl) h0 ?_
  simp only [Act.put, List.setIfInBounds_toArray, List.set_cons_zero, List.set_cons_succ]
  refine reg_call 3 16 47 #[.agg (tk q (.slice ua ss.length uc) s e kt)] (by kernel_rfl) (by kernel_rfl) ?_
  refine (reftkbytes_any q _ ss s e kt V hq ht T1.2.1 HTV.out).mono ?_
  rintro x w1 ⟨v1, rfl, o1, hb1⟩
  refine ⟨v1, rfl, hb1, ?_⟩
  obtain ⟨x1, y1, rfl⟩ := o1.form
  simp only [Act.put, List.setIfInBounds_toArray, List.set_cons_zero, List.set_cons_succ]
  refine reg_call 4 17 8 #[.agg (arr .u8 16 key), .int .u8 2, .agg (arr .u8 8 nonce), .slice x1 (Tic.bytes (tic q ss s e kt)).length y1] (by kernel_rfl) (by kernel_rfl) ?_
  refine (refseal_lit key nonce 2 2 rfl _ _ w1 hk hn (by omega) o1.bs.rs (by omega)).mono ?_
  rintro x w2 ⟨v2, rfl, o2, hb2⟩
  have hb12 := below_then hb1 hb2
  refine ⟨v2, rfl, hb12, ?_⟩
  obtain ⟨x2, y2, rfl⟩ := o2.form
  simp only [Act.put, List.setIfInBounds_toArray, List.set_cons_zero, List.set_cons_succ]
  refine reg_take 5 9 (.slice x2 (Sea.sld key 2 nonce (Tic.bytes (tic q ss s e kt))).length y2) (by kernel_rfl) (fun _ _ => by kernel_rfl) hb12 ?_
  simp only [Act.put, List.setIfInBounds_toArray, List.set_cons_zero, List.set_cons_succ]
  refine reg_done (by kernel_rfl) (HF.out _ _ ?_)
  have N2 := isArr.only n1' (only_of_below hb12 none)
  have T2 := T1.only (only_of_below hb12 none)
  have Z2 := Z1.only (only_of_below hb12 none)
  have CK2 := Lib.hid T2.ck
  have O2 := Lib.hid o2.bs.rs
  have G2 := only_trans G1 (only_of_below hb12 none)
  have hgs := hb12.size
  clear HF h0 hb1 hb2 hb12 o1 o2 a1 n1' T1 Z1 CK1 G1
  generalize Sea.sld key 2 nonce (Tic.bytes (tic q ss s e kt)) = S1 at *
  have HL1 := Lib.hid (show S1.length ≤ 1000 by omega)
  clear htl hsl
  go_upto_region 2 with fail
  have hn1 := N2.lt
  have hn2 := T2.1.lt
  have hn3 := Z2.1.lt
  have N3 : isArr (w2.drewN 1) n1 23 .u8 8 nonce := N2
  have T3 : Tb (w2.drewN 1) n2 q (.slice ua ss.length uc) ss s e kt := T2.only (only_drewN (only_refl w2 none) 1)
  have Z3 : Ab (w2.drewN 1) n3 r (.slice va tt.length vc) tt t m z := Z2.only (only_drewN (only_refl w2 none) 1)
  have O3 := Lib.hid (O2.out.below (below_of_only (only_drewN (only_refl w2 none) 1)))
  have G3 := only_drewN G2 1
  refine wp_reg Tryz.f20 2 7 (fun w' => Below (w2.drewN 1).heap.size (w2.drewN 1) w') (by kernel_rfl) (by kernel_rfl) (by kernel_rfl) (Below.refl _ _) (fun K hK h0 => ?_)
  refine reg_cast (listed' := #[false, false, false, false, false, false, false]) (by kernel_rfl) rfl ?_
  have HF := Lib.hid hK; clear hK
  clear N2 T2 Z2 G2 CK2 O2
  generalize w2.drewN 1 = V2 at *
  refine reg_take 0 18 (.pointer (some ⟨n2, 4, none⟩)) (by kernel_rfl) (fun _ _ => by kernel_rfl) h0 ?_
  simp only [Act.put, List.setIfInBounds_toArray, List.set_cons_zero, List.set_cons_succ]
  refine reg_load 1 19 (by kernel_rfl) 22 (.tmp 18) (by kernel_rfl) ⟨n2, 4, none⟩ (by kernel_rfl) (arr .u8 16 kt) _ (fun w' hw' j v hj => (T3.below hw').ck j v hj) Tryz.underlying22 rfl (by kernel_rfl) h0 ?_
  simp only [Act.put, List.setIfInBounds_toArray, List.set_cons_zero, List.set_cons_succ]
  refine reg_load 2 20 (by kernel_rfl) 23 (.tmp 5) (by kernel_rfl) ⟨n1, 0, none⟩ (by kernel_rfl) (arr .u8 8 nonce) _ (fun w' hw' j v hj => by rw [Addr.add_lit, Nat.zero_add]; exact Hb.cell (N3.below hw' N3.lt) hj) Tryz.underlying23 rfl (by kernel_rfl) h0 ?_
  simp only [Act.put, List.setIfInBounds_toArray, List.set_cons_zero, List.set_cons_succ]
  refine reg_load 3 21 (by kernel_rfl) 32 (.tmp 7) (by kernel_rfl) ⟨n3, 0, none⟩ (by kernel_rfl) (au r (.slice va tt.length vc) t m z) _ (fun w' hw' j v hj => by rw [Addr.add_lit, Nat.zero_add]; exact (Z3.1.below hw' Z3.1.lt).cell hj) Tryz.underlying32 rfl (by kernel_rfl) h0 ?_
  simp only [Act.put, List.setIfInBounds_toArray, List.set_cons_zero, List.set_cons_succ]
  refine reg_call 4 22 48 #[.agg (au r (.slice va tt.length vc) t m z)] (by kernel_rfl) (by kernel_rfl) ?_
  refine (refaubytes_any r _ tt t m z V2 hr hm hz Z3.2.1 HAV.out).mono ?_
  rintro x w3 ⟨v3, rfl, o3, hb3⟩
  refine ⟨v3, rfl, hb3, ?_⟩
  obtain ⟨x3, y3, rfl⟩ := o3.form
  simp only [Act.put, List.setIfInBounds_toArray, List.set_cons_zero, List.set_cons_succ]
  refine reg_call 5 23 8 #[.agg (arr .u8 16 kt), .int .u8 11, .agg (arr .u8 8 nonce), .slice x3 (Aut.bytes (aut r tt t m z)).length y3] (by kernel_rfl) (by kernel_rfl) ?_
  refine (refseal_lit kt nonce 11 11 rfl _ _ w3 ht hn (by omega) o3.bs.rs (by omega)).mono ?_
  rintro x w4 ⟨v4, rfl, o4, hb4⟩
  have hb34 := below_then hb3 hb4
  refine ⟨v4, rfl, hb34, ?_⟩
  obtain ⟨x4, y4, rfl⟩ := o4.form
  simp only [Act.put, List.setIfInBounds_toArray, List.set_cons_zero, List.set_cons_succ]
  refine reg_take 6 10 (.slice x4 (Sea.sld kt 11 nonce (Aut.bytes (aut r tt t m z))).length y4) (by kernel_rfl) (fun _ _ => by kernel_rfl) hb34 ?_
  simp only [Act.put, List.setIfInBounds_toArray, List.set_cons_zero, List.set_cons_succ]
  refine reg_done (by kernel_rfl) (HF.out _ _ ?_)
  have O5 := Lib.hid (O3.out.below hb34)
  have O6 := Lib.hid o4.bs.rs
  have G4 := only_trans G3 (only_of_below hb34 none)
  clear HF h0 hb3 hb4 hb34 o3 o4 N3 T3 Z3 O3 G3
  generalize Sea.sld kt 11 nonce (Aut.bytes (aut r tt t m z)) = S2 at *
  have HL2 := Lib.hid (show S2.length ≤ 1000 by omega)
  clear hal hsl2
  go_wp2_with fail
  refine (refrqbytes_any _ _ S1 S2 w4 O5.out O6.out (Nat.le_trans HL1.out (by omega)) (Nat.le_trans HL2.out (by omega))).mono ?_
  rintro x w5 ⟨hb5, hp⟩
  have G5 := only_trans G4 (only_of_below hb5 none)
  have hg4 := G4.size
  rcases hp with ⟨hno, rfl⟩ | ⟨l, v5, hl, rfl, o5⟩
  · go_wp2_with fail
    go_ret
    exact ⟨_, rfl, by rw [hno]; exact Own.nil _ _, below_of_only G5⟩
  · obtain ⟨x5, y5, rfl⟩ := o5.form
    go_wp2_with fail
    go_ret
    exact ⟨_, rfl, by rw [hl]; exact o5.mono hg4, below_of_only G5⟩
end Go.Proofs.YtnhchdkchohnbaaGreatDoor
