/- Layer 14: Make, in the program. -/
import Derived.Test.YtnhchdkchohnbaaGreatDoorReqD
namespace Go.Proofs.YtnhchdkchohnbaaGreatDoor
open Go.RowKit Go.Deep

def Req.mk (key nonce kt : Nat → Nat) (t : Tic.T) (a : Aut.A) : Option (List Nat) :=
  if Tic.valid t = true ∧ Aut.valid a = true then Req.bytes (Sea.sld key 2 nonce (Tic.bytes t)) (Sea.sld kt 11 nonce (Aut.bytes a)) else none
theorem four_boxes (w : World) (f g : Nat → Nat) (C D : Array Value) (t u : TypeId) : ∃ W : World, W = (((w.alloc (.cells (arr .u8 16 f) 22)).alloc (.cells (arr .u8 8 g) 23)).alloc (.cells C t)).alloc (.cells D u) ∧
    isArr W w.heap.size 22 .u8 16 f ∧ isArr W (w.heap.size + 1) 23 .u8 8 g ∧ Hb W (w.heap.size + 1 + 1) C t ∧ Hb W (w.heap.size + 1 + 1 + 1) D u ∧ w.grownBy W none := by
  obtain ⟨a, b, c, d⟩ := three_boxes w f g C t
  have h := Hb.new (((w.alloc (.cells (arr .u8 16 f) 22)).alloc (.cells (arr .u8 8 g) 23)).alloc (.cells C t)) D u
  simp only [World.size_alloc] at h
  have k := only_alloc (only_refl (((w.alloc (.cells (arr .u8 16 f) 22)).alloc (.cells (arr .u8 8 g) 23)).alloc (.cells C t)) none) (.cells D u)
  exact ⟨_, rfl, a.only k, b.only k, c.only k, h, only_trans d k⟩
set_option maxRecDepth 100000 in
set_option maxHeartbeats 4000000 in
theorem rqmake_any (key nonce : Nat → Nat) (q : ByteArray) (u : Value) (ss : List ByteArray) (s e : Int) (kt : Nat → Nat) (r : ByteArray) (v : Value) (tt : List ByteArray) (t : Int) (m z : Nat) (w : World) (hk : Aes.B8 key) (hn : Aes.B8 nonce) (hq : q.size ≤ maxLen) (ht : Aes.B8 kt) (hu : Ss w u ss) (hr : r.size ≤ maxLen) (hm : m < 4294967296) (hz : z < 4294967296) (hv : Ss w v tt) (hK : Consts w Sha.tab) :
    Calls Tryz.prog 15 #[.agg (arr .u8 16 key), .agg (arr .u8 8 nonce), .agg (tk q u s e kt), .agg (au r v t m z)] w (RetPut (Req.mk key nonce kt (tic q ss s e kt) (aut r tt t m z)) w) := by
  have HK := Lib.hid hK; clear hK
  obtain ⟨W0, hW0, a0, n0, t0, z0, G0⟩ := four_boxes w key nonce (tk q u s e kt) (au r v t m z) 41 32
  have T0 : Tb W0 (w.heap.size + 1 + 1) q u ss s e kt := ⟨t0, hu.only G0, hq, ht⟩
  have Z0 : Ab W0 (w.heap.size + 1 + 1 + 1) r v tt t m z := ⟨z0, hv.only G0, hr, hm, hz⟩
  have s1 := arr_size .u8 16 key
  have s2 := arr_size .u8 8 nonce
  have s3 := tk_size q u s e kt
  have s4 := au_size r v t m z
  have s5 := arr_size .u8 16 kt
  obtain ⟨ua, uc, rfl⟩ := hu.form
  obtain ⟨va, vc, rfl⟩ := hv.form
  clear hu hv t0 z0
  generalize hR : Req.mk key nonce kt (tic q ss s e kt) (aut r tt t m z) = R
  have HR := Lib.hid hR; clear hR
  go_enter Tryz.func15, Tryz.ntmps15
  go_upto_region 1 with fail
  rw [← hW0]
  clear hW0
  obtain ⟨n3, hn3⟩ : ∃ n, n = w.heap.size + 1 + 1 + 1 := ⟨_, rfl⟩
  rw [← hn3] at Z0 ⊢
  obtain ⟨n2, hn2⟩ : ∃ n, n = w.heap.size + 1 + 1 := ⟨_, rfl⟩
  rw [← hn2] at T0 ⊢
  obtain ⟨n1, hn1⟩ : ∃ n, n = w.heap.size + 1 := ⟨_, rfl⟩
  rw [← hn1] at n0 ⊢
  obtain ⟨b0, hb0⟩ : ∃ n, n = w.heap.size := ⟨_, rfl⟩
  rw [← hb0] at a0 ⊢
  clear hn3 hn2 hn1 hb0
  go_wp2_with (first | refine wpList_load_row rfl _ _ rfl b0 rfl _ _ (0, 0) _ a0 rfl rfl (info16s _) ?_ | refine wpList_load_row rfl _ _ rfl n1 rfl _ _ (0, 0) _ n0 rfl rfl (info8s _) ?_ | refine wpList_load_row rfl _ _ rfl n2 rfl _ _ (0, 0) _ T0.1 rfl rfl (info_tk _ _ _ _ _) ?_)
  refine (tkseal_any key nonce q _ ss s e kt W0 hk hn hq ht T0.2.1 (HK.out.below (below_of_only G0))).mono ?_
  rintro x w1 ⟨hb1, hp⟩
  have G1 := only_trans G0 (only_of_below hb1 none)
  have N1 := isArr.only n0 (only_of_below hb1 none)
  have T1 := T0.only (only_of_below hb1 none)
  have Z1 := Z0.only (only_of_below hb1 none)
  clear a0 n0 T0 Z0 G0 hb1
  cases htv : Tic.valid (tic q ss s e kt)
  · rw [htv] at hp
    have E1 := Lib.hid (show R = none by rw [← HR.out]; unfold Req.mk; rw [if_neg (by rw [htv]; intro h; cases h.1)])
    rcases hp with ⟨_, rfl⟩ | ⟨l, v, hno, _⟩
    rotate_left
    · cases hno
    clear HR
    go_wp2_with fail
    go_ret2
    exact ⟨below_of_only G1, .inl ⟨E1.out, rfl⟩⟩
  rw [if_pos htv] at hp
  have htl := Tic.bytes_len htv (Sea.nl_length _ _)
  have hsl := Sea.seal_length key 2 nonce (Tic.bytes (tic q ss s e kt))
  rcases hp with ⟨hno, _⟩ | ⟨l1, v1, hl, rfl, o1⟩
  · cases hno
  cases hl
  obtain ⟨x1, y1, rfl⟩ := o1.form
  have O1 := Lib.hid o1.bs.rs
  have HTV := Lib.hid htv
  have CK := Lib.hid T1.ck
  have HR2 := Lib.hid (show (if Aut.valid (aut r tt t m z) = true then Req.bytes (Sea.sld key 2 nonce (Tic.bytes (tic q ss s e kt))) (Sea.sld kt 11 nonce (Aut.bytes (aut r tt t m z))) else none) = R by
    rw [← HR.out]; unfold Req.mk
    cases Aut.valid (aut r tt t m z)
    · rw [if_neg (by simp), if_neg (by simp)]
    · rw [if_pos rfl, if_pos ⟨htv, rfl⟩])
  clear HR o1 htv
  generalize Sea.sld key 2 nonce (Tic.bytes (tic q ss s e kt)) = S1 at *
  have HL1 := Lib.hid (show S1.length ≤ 1000 by omega)
  clear htl hsl
  go_wp2_with (first | refine wpList_load_arrG (by kernel_rfl) _ _ rfl ⟨n2, 4, none⟩ rfl _ _ CK.out rfl rfl (info16s _) ?_ | refine wpList_load_row rfl _ _ rfl n1 rfl _ _ (0, 0) _ N1 rfl rfl (info8s _) ?_ | refine wpList_load_row rfl _ _ rfl n3 rfl _ _ (0, 0) _ Z1.1 rfl rfl (info_au _ _ _ _ _) ?_)
  refine (auseal_any kt nonce r _ tt t m z w1 ht hn hr hm hz Z1.2.1 (HK.out.below (below_of_only G1))).mono ?_
  rintro x w2 ⟨hb2, hp⟩
  have G2 := only_trans G1 (only_of_below hb2 none)
  have O1 := Lib.hid (O1.out.below hb2)
  clear N1 T1 Z1 G1 hb2
  cases hav : Aut.valid (aut r tt t m z)
  · rw [hav] at hp
    have E1 := Lib.hid (show R = none by rw [← HR2.out, hav]; rfl)
    rcases hp with ⟨_, rfl⟩ | ⟨l, v, hno, _⟩
    rotate_left
    · cases hno
    clear HR2
    go_wp2_with fail
    go_ret2
    exact ⟨below_of_only G2, .inl ⟨E1.out, rfl⟩⟩
  rw [if_pos hav] at hp
  have E1 := Lib.hid (show Req.bytes S1 (Sea.sld kt 11 nonce (Aut.bytes (aut r tt t m z))) = R by rw [← HR2.out, if_pos hav])
  have hal := Aut.bytes_len hav
  have hsl := Sea.seal_length kt 11 nonce (Aut.bytes (aut r tt t m z))
  rcases hp with ⟨hno, _⟩ | ⟨l2, v2, hl, rfl, o2⟩
  · cases hno
  cases hl
  obtain ⟨x2, y2, rfl⟩ := o2.form
  have O2 := Lib.hid o2.bs.rs
  clear HR2 o2 hav
  generalize Sea.sld kt 11 nonce (Aut.bytes (aut r tt t m z)) = S2 at *
  have HL2 := Lib.hid (show S2.length ≤ 1000 by omega)
  clear hal hsl
  go_wp2_with (refine wpList_buildTo rfl 59 _ rfl _ rfl #[.slice x1 S1.length y1, .slice x2 S2.length y2] (by kernel_rfl) ?_)
  refine (rqbytes_any _ _ S1 S2 w2 O1.out O2.out (by have := HL1.out; omega) (by have := HL2.out; omega)).mono ?_
  rintro x w3 ⟨hb3, hp⟩
  have G3 := only_trans G2 (only_of_below hb3 none)
  rw [E1.out] at hp
  rcases hp with ⟨hno, rfl⟩ | ⟨l3, v3, hl3, rfl, o3⟩
  · go_wp2_with fail
    go_ret2
    exact ⟨below_of_only G3, .inl ⟨hno, rfl⟩⟩
  · obtain ⟨x3, y3, rfl⟩ := o3.form
    have O3 := Lib.hid (o3.mono G2.size)
    clear o3
    go_wp2_with fail
    go_ret2
    exact ⟨below_of_only G3, .inr ⟨_, _, hl3, rfl, O3.out⟩⟩
end Go.Proofs.YtnhchdkchohnbaaGreatDoor
