/- Layer 14: what the laws' awake answers. -/
import Derived.Test.YtnhchdkchohnbaaGreatDoorReqF
namespace Go.Proofs.YtnhchdkchohnbaaGreatDoor
open Go.RowKit Go.Deep Go.ChangeShapes Go.WideShapes

/-- Two new rows that are written at once. -/
theorem fresh_two (w : World) (o1 o2 cs ds : Array Value) (t1 t2 : TypeId) :
    Hb ((w.alloc (.cells o1 t1)).alloc (.cells o2 t2)) w.heap.size o1 t1 ∧ Hb (((w.alloc (.cells o1 t1)).alloc (.cells o2 t2)).setRow w.heap.size cs) (w.heap.size + 1) o2 t2 ∧
    Hb ((((w.alloc (.cells o1 t1)).alloc (.cells o2 t2)).setRow w.heap.size cs).setRow (w.heap.size + 1) ds) w.heap.size cs t1 ∧ Hb ((((w.alloc (.cells o1 t1)).alloc (.cells o2 t2)).setRow w.heap.size cs).setRow (w.heap.size + 1) ds) (w.heap.size + 1) ds t2 ∧
    w.grownBy ((((w.alloc (.cells o1 t1)).alloc (.cells o2 t2)).setRow w.heap.size cs).setRow (w.heap.size + 1) ds) none := by
  have a := (Hb.new w o1 t1).alloc (.cells o2 t2)
  have b := Hb.new (w.alloc (.cells o1 t1)) o2 t2
  rw [World.size_alloc] at b
  have b2 := b.keep (a.row cs).2 (by simp)
  have g := only_alloc (only_alloc (only_refl w none) (.cells o1 t1)) (.cells o2 t2)
  exact ⟨a, b2, (a.row cs).1.keep (b2.row ds).2 (by simp), (b2.row ds).1, grown_new (grown_new g (a.row cs).2 (Nat.le_refl _)) (b2.row ds).2 (Nat.le_succ _)⟩
theorem tkey_zero (q : ByteArray) (ss : List ByteArray) (s e : Int) : tkey (tic q ss s e (fun _ => 0)) = fun _ => 0 := funext fun i => by
  unfold tkey tic
  by_cases hi : i < 16
  · dsimp only
    rw [Sea.nl_get 16 _ i hi]
  · dsimp only
    rw [List.getD, List.getElem?_eq_none (by rw [Sea.nl_length]; omega)]; rfl
theorem rq_empty : Req.bytes [] [] = some [65, 80, 1, 0, 0, 0, 0] := by decide
theorem rq_opn0 : Req.opn (Sea.hd 1) [65, 80, 1, 0, 0, 0, 0] = (tic0, aut0, 2) := by
  unfold Req.opn
  rw [Req.parse_bytes rq_empty]
  dsimp only
  rw [Tic.opn_no (show Sea.op (Sea.hd 1) 2 [] = none by unfold Sea.op; rw [if_pos (by decide)])]
  exact if_pos (by decide)
theorem t14_valid : Tic.valid (tic aliceS [hostS] 0 9 (fun _ => 0)) = true := (Tic.valid_iff _).2 ⟨made4_valid, by decide, by decide, by decide⟩
theorem a14_valid : Aut.valid (aut aliceS [hostS] 5 0 0) = true := (Aut.valid_iff _).2 ⟨made4_valid, by decide, by decide, by decide⟩
theorem rq14_facts : ∃ M : List Nat, Req.mk (Sea.hd 1) (Sea.hd 2) (fun _ => 0) (tic aliceS [hostS] 0 9 (fun _ => 0)) (aut aliceS [hostS] 5 0 0) = some M ∧ M.length ≤ 3000 ∧ Req.opn (Sea.hd 1) M = (tic aliceS [hostS] 0 9 (fun _ => 0), aut aliceS [hostS] 5 0 0, 0) := by
  have ht := t14_valid
  have ha := a14_valid
  have hk := tkey_zero aliceS [hostS] 0 9
  have h1 := Tic.bytes_len ht (Sea.nl_length _ _)
  have h2 := Tic.parse_bytes ht (Sea.nl_length _ _)
  have h3 := Aut.bytes_len ha
  have h4 := Aut.parse_bytes ha (by decide)
  have hmk : Req.mk (Sea.hd 1) (Sea.hd 2) (fun _ => 0) (tic aliceS [hostS] 0 9 (fun _ => 0)) (aut aliceS [hostS] 5 0 0) = Req.bytes (Sea.sld (Sea.hd 1) 2 (Sea.hd 2) (Tic.bytes (tic aliceS [hostS] 0 9 (fun _ => 0)))) (Sea.sld (fun _ => 0) 11 (Sea.hd 2) (Aut.bytes (aut aliceS [hostS] 5 0 0))) := by
    unfold Req.mk; rw [if_pos ⟨ht, ha⟩]
  rw [hmk]
  clear hmk ht ha
  generalize tic aliceS [hostS] 0 9 (fun _ => 0) = T at *
  generalize aut aliceS [hostS] 5 0 0 = A at *
  generalize Tic.bytes T = TB at *
  generalize Aut.bytes A = AB at *
  have h5 := Sea.seal_length (Sea.hd 1) 2 (Sea.hd 2) TB
  have h6 := Sea.seal_length (fun _ => 0) 11 (Sea.hd 2) AB
  have h7 := Tic.opn_yes (Sea.op_seal (Sea.hd 1) 2 (Sea.hd 2) TB) h2
  have h8 := Aut.opn_yes (Sea.op_seal (fun _ => 0) 11 (Sea.hd 2) AB) h4
  generalize Sea.sld (Sea.hd 1) 2 (Sea.hd 2) TB = S1 at *
  generalize Sea.sld (fun _ => 0) 11 (Sea.hd 2) AB = S2 at *
  obtain ⟨M, hM⟩ : ∃ M, Req.bytes S1 S2 = some M := by unfold Req.bytes; rw [if_neg (by omega)]; exact ⟨_, rfl⟩
  have hl := (Req.bytes_some hM).2.2
  refine ⟨M, hM, by omega, ?_⟩
  unfold Req.opn
  rw [Req.parse_bytes hM]
  dsimp only
  rw [h7]
  dsimp only
  rw [hk, h8]
  exact (if_neg (fun h : (0 : Int) ≠ 0 => h rfl)).trans (if_neg (fun h : (0 : Int) ≠ 0 => h rfl))
set_option maxRecDepth 100000 in
set_option maxHeartbeats 8000000 in
theorem awake_rq (w : World) (hK : Consts w Sha.tab) : Calls Tryz.prog 12 #[] w (RetBool true w) := by
  have HK := Lib.hid hK; clear hK
  obtain ⟨M, hM, hml, hop⟩ := rq14_facts
  have HM := Lib.hid hM
  have HML := Lib.hid hml
  have HOP := Lib.hid hop
  clear hM hml hop
  go_enter Tryz.func12, Tryz.ntmps12
  go_wp2_with (refine wpList_buildTo rfl 59 _ rfl _ rfl #[.slice none 0 0, .slice none 0 0] (by kernel_rfl) ?_)
  refine (rqbytes_any _ _ [] [] w (Rs.nil _) (Rs.nil _) (by simp) (by simp)).mono ?_
  rintro e w1 ⟨hb1, ht⟩
  rw [rq_empty] at ht
  rcases ht with ⟨hno, _⟩ | ⟨l1, v1, hl1, rfl, o1⟩
  · cases hno
  cases hl1
  have hlen : [65, 80, 1, 0, 0, 0, 0].length = 7 := rfl
  generalize hE : [65, 80, 1, 0, 0, 0, 0] = E at *
  have HE := Lib.hid hE
  clear hE
  obtain ⟨x1, y1, rfl⟩ := o1.form
  have O1 := Lib.hid o1.bs.rs
  have G1 := only_of_below hb1 none
  have HLN := Lib.hid hlen
  clear o1 hb1 hlen
  go_wp2_with fail
  refine (rqparse_any _ E w1 O1.out (by rw [HLN.out]; decide)).mono ?_
  rintro e w2 ⟨hb2, u2, v2, x, y, rfl, ox, oy, _⟩
  rw [show Req.parse E = some ([], []) by rw [← HE.out]; exact Req.parse_bytes rq_empty]
  obtain ⟨ua2, uc2, rfl⟩ := ox.form
  obtain ⟨va2, vc2, rfl⟩ := oy.form
  have F := fresh_row w2 #[.slice none 0 0, .slice none 0 0] #[.slice ua2 x.length uc2, .slice va2 y.length vc2] 59
  have F3 := only_trans (only_of_below hb2 none) F.2
  have G3 := only_trans G1 F3
  have O3 := Lib.hid (O1.out.below (below_of_only F3))
  clear G1 O1 hb2 ox oy F3
  go_upto_region 3 with (refine wpList_store_rowTo rfl _ _ _ rfl rfl w2.heap.size _ rfl rfl _ _ (heap_alloc_new _ _) (info_rq _ _) (by rfl) (rq_one _ _ rfl rfl) ?_)
  generalize World.setRow _ w2.heap.size _ = W3 at *
  clear F
  have hal : aliceS.size ≤ maxLen := by decide
  go_wp2_with fail
  refine (make4_any W3).mono ?_
  rintro e w4 ⟨v4, rfl, o4, g4⟩
  obtain ⟨u4, c4, rfl⟩ := o4.ss.form
  have F := fresh_row w4 #[.string ⟨#[]⟩, .slice none 0 0, .int .i64 0, .int .i64 0, .int .u8 0, .int .u8 0, .int .u8 0, .int .u8 0, .int .u8 0, .int .u8 0, .int .u8 0, .int .u8 0, .int .u8 0, .int .u8 0, .int .u8 0, .int .u8 0, .int .u8 0, .int .u8 0, .int .u8 0, .int .u8 0] (tk aliceS (.slice u4 [hostS].length c4) 0 9 (fun _ => 0)) 41
  have T5 : Tb _ w4.heap.size aliceS _ [hostS] 0 9 (fun _ => 0) := ⟨F.1, o4.ss.only F.2, hal, fun _ => (by decide : 0 < 256)⟩
  have F5 := only_trans g4 F.2
  have G5 := only_trans G3 F5
  have O5 := Lib.hid (O3.out.below (below_of_only F5))
  clear G3 O3 g4 o4 F5
  go_upto_region 4 with (first | refine wpList_buildTo rfl 41 _ rfl _ rfl (tk aliceS (.slice u4 [hostS].length c4) 0 9 (fun _ => 0)) (by kernel_rfl) ?_ | refine wpList_store_rowTo rfl _ _ _ rfl rfl w4.heap.size _ rfl rfl _ _ (heap_alloc_new _ _) (info_tk _ _ _ _ _) (by rw [tk_size]; rfl) (tk_one _ _ _ _ _ rfl) ?_)
  generalize World.setRow _ w4.heap.size _ = W5 at *
  generalize w4.heap.size = b5 at *
  clear F
  go_wp2_with fail
  refine (make4_any W5).mono ?_
  rintro e w6 ⟨v6, rfl, o6, g6⟩
  obtain ⟨u6, c6, rfl⟩ := o6.ss.form
  have F := fresh_row w6 #[.string ⟨#[]⟩, .slice none 0 0, .int .i64 0, .int .u32 0, .int .u32 0] (au aliceS (.slice u6 [hostS].length c6) 5 0 0) 32
  have A7 : Ab _ w6.heap.size aliceS _ [hostS] 5 0 0 := ⟨F.1, o6.ss.only F.2, hal, by omega, by omega⟩
  have F7 := only_trans g6 F.2
  have T7 := T5.only F7
  have G7 := only_trans G5 F7
  have O7 := Lib.hid (O5.out.below (below_of_only F7))
  clear G5 O5 g6 o6 F7 T5
  go_upto_region 5 with (first | refine wpList_buildTo rfl 32 _ rfl _ rfl (au aliceS (.slice u6 [hostS].length c6) 5 0 0) (by kernel_rfl) ?_ | refine wpList_store_rowTo rfl _ _ _ rfl rfl w6.heap.size _ rfl rfl _ _ (heap_alloc_new _ _) (info_au _ _ _ _ _) (by rw [au_size]; rfl) (au_one _ _ _ _ _ rfl) ?_)
  generalize World.setRow _ w6.heap.size _ = W7 at *
  generalize w6.heap.size = b7 at *
  clear F
  go_wp2_with (first | refine wpList_buildTo rfl 22 _ rfl _ rfl (arr .u8 16 (Sea.hd 1)) (by kernel_rfl) ?_ | refine wpList_buildTo rfl 23 _ rfl _ rfl (arr .u8 8 (Sea.hd 2)) (by kernel_rfl) ?_ | refine wpList_load_row rfl _ _ rfl b5 rfl _ _ (0, 0) _ T7.1 rfl rfl (info_tk _ _ _ _ _) ?_ | refine wpList_load_row rfl _ _ rfl b7 rfl _ _ (0, 0) _ A7.1 rfl rfl (info_au _ _ _ _ _) ?_)
  refine (rqmake_any (Sea.hd 1) (Sea.hd 2) aliceS _ [hostS] 0 9 (fun _ => 0) aliceS _ [hostS] 5 0 0 W7 (Sea.hd_b8 (by omega)) (Sea.hd_b8 (by omega)) hal T7.2.2.2 T7.2.1 hal (by omega) (by omega) A7.2.1 (HK.out.below (below_of_only G7))).mono ?_
  rintro e w8 ⟨hb8, ht⟩
  rw [HM.out] at ht
  rcases ht with ⟨hno, _⟩ | ⟨l8, v8, hl8, rfl, o8⟩
  · cases hno
  cases hl8
  obtain ⟨x8, y8, rfl⟩ := o8.form
  have O8 := Lib.hid o8.bs.rs
  have G8 := only_trans G7 (only_of_below hb8 none)
  have E8 := Lib.hid (O7.out.below hb8)
  clear o8 hb8 G7 O7 T7 A7 HM
  go_wp2_with (refine wpList_buildTo rfl 22 _ rfl _ rfl (arr .u8 16 (Sea.hd 1)) (by kernel_rfl) ?_)
  refine (rqopen_any (Sea.hd 1) _ M w8 (Sea.hd_b8 (by omega)) O8.out (by have := HML.out; omega) (HK.out.below (below_of_only G8))).mono ?_
  rintro e w9 ⟨hb9, q, u, ss, s, xx, kt, r, v, tt, t, m, z, rfl, ou, ov, hq, hkt, hr, hm, hz, htt, hat⟩
  rw [HOP.out] at htt hat ⊢
  have htt : tic q ss s xx kt = tic aliceS [hostS] 0 9 (fun _ => 0) := htt
  have hat : aut r tt t m z = aut aliceS [hostS] 5 0 0 := hat
  obtain ⟨u9, c9, rfl⟩ := ou.ss.form
  obtain ⟨v9, d9, rfl⟩ := ov.ss.form
  obtain rfl : xx = 9 := congrArg Tic.T.stop htt
  obtain rfl : t = 5 := congrArg Aut.A.time hat
  have F := fresh_two w9 #[.string ⟨#[]⟩, .slice none 0 0, .int .i64 0, .int .i64 0, .int .u8 0, .int .u8 0, .int .u8 0, .int .u8 0, .int .u8 0, .int .u8 0, .int .u8 0, .int .u8 0, .int .u8 0, .int .u8 0, .int .u8 0, .int .u8 0, .int .u8 0, .int .u8 0, .int .u8 0, .int .u8 0] #[.string ⟨#[]⟩, .slice none 0 0, .int .i64 0, .int .u32 0, .int .u32 0] (tk q (.slice u9 ss.length c9) s 9 kt) (au r (.slice v9 tt.length d9) 5 m z) 41 32
  have F10 := only_trans (only_of_below hb9 none) F.2.2.2.2
  have G10 := only_trans G8 F10
  have E10 := Lib.hid (E8.out.below (below_of_only F10))
  have c10 := F.2.2.1
  have d10 := F.2.2.2.1
  clear G8 E8 hb9 ou ov O8 htt hat F10 HOP HML
  go_upto_region 7 with (first | refine wpList_store_rowTo rfl _ _ _ rfl rfl w9.heap.size _ rfl rfl _ _ F.1 (info_tk _ _ _ _ _) (by rw [tk_size]; rfl) (tk_one _ _ _ _ _ rfl) ?_ | refine wpList_store_rowTo rfl _ _ _ rfl rfl (w9.heap.size + 1) _ rfl rfl _ _ F.2.1 (info_au _ _ _ _ _) (by rw [au_size]; rfl) (au_one _ _ _ _ _ rfl) ?_)
  generalize World.setRow _ (w9.heap.size + 1) _ = W10 at *
  clear F
  generalize w9.heap.size = b10 at *
  go_wp2_with (refine wpList_buildTo rfl 22 _ rfl _ rfl (arr .u8 16 (Sea.hd 1)) (by kernel_rfl) ?_)
  refine (rqopen_any (Sea.hd 1) _ E W10 (Sea.hd_b8 (by omega)) E10.out (by rw [HLN.out]; decide) (HK.out.below (below_of_only G10))).mono ?_
  rintro e w11 ⟨hb11, q', u', ss', s', x', k', r', v', tt', t', m', z', rfl, ou, ov, _, _, _, _, _, _, _⟩
  rw [show Req.opn (Sea.hd 1) E = (tic0, aut0, 2) by rw [← HE.out]; exact rq_opn0]
  obtain ⟨u9', c9', rfl⟩ := ou.ss.form
  obtain ⟨v9', d9', rfl⟩ := ov.ss.form
  have F := fresh_two w11 #[.string ⟨#[]⟩, .slice none 0 0, .int .i64 0, .int .i64 0, .int .u8 0, .int .u8 0, .int .u8 0, .int .u8 0, .int .u8 0, .int .u8 0, .int .u8 0, .int .u8 0, .int .u8 0, .int .u8 0, .int .u8 0, .int .u8 0, .int .u8 0, .int .u8 0, .int .u8 0, .int .u8 0] #[.string ⟨#[]⟩, .slice none 0 0, .int .i64 0, .int .u32 0, .int .u32 0] (tk q' (.slice u9' ss'.length c9') s' x' k') (au r' (.slice v9' tt'.length d9') t' m' z') 41 32
  have F12 := only_trans (only_of_below hb11 none) F.2.2.2.2
  have G12 := only_trans G10 F12
  have E12 := Lib.hid (E10.out.below (below_of_only F12))
  have c12 := c10.only F12
  have d12 := d10.only F12
  clear G10 E10 hb11 ou ov F12 c10 d10
  go_upto_region 8 with (first | refine wpList_store_rowTo rfl _ _ _ rfl rfl w11.heap.size _ rfl rfl _ _ F.1 (info_tk _ _ _ _ _) (by rw [tk_size]; rfl) (tk_one _ _ _ _ _ rfl) ?_ | refine wpList_store_rowTo rfl _ _ _ rfl rfl (w11.heap.size + 1) _ rfl rfl _ _ F.2.1 (info_au _ _ _ _ _) (by rw [au_size]; rfl) (au_one _ _ _ _ _ rfl) ?_)
  generalize World.setRow _ (w11.heap.size + 1) _ = W12 at *
  clear F
  go_wp2_with fail
  have AL : Below W12.heap.size W12 (W12.alloc (.cells #[.int .u8 65, .int .u8 80, .int .u8 1, .int .u8 0, .int .u8 0, .int .u8 0, .int .u8 0] 5)) := (Below.refl _ _).alloc (Nat.le_refl _) _
  have RL : Rs (W12.alloc (.cells #[.int .u8 65, .int .u8 80, .int .u8 1, .int .u8 0, .int .u8 0, .int .u8 0, .int .u8 0] 5)) (.slice (some ⟨W12.heap.size, 0, none⟩) 7 7) E := by
    rw [← HE.out]; exact (own_built W12 0 [65, 80, 1, 0, 0, 0, 0] (fun i hi => by simp at hi; omega) (Nat.zero_le _) (by decide)).bs.rs
  refine (same_yes _ _ E _ (E12.out.below AL) RL).mono ?_
  rintro e w13 ⟨rfl, hb13⟩
  have g13 := only_trans (only_of_below AL none) (only_of_below hb13 none)
  have G13 := only_trans G12 g13
  have x3 := (c12.only g13).cell (tk_3 _ _ _ _ _)
  have y2 := (d12.only g13).cell (au_2 _ _ _ _ _)
  clear G12 c12 d12 AL RL hb13 g13 E12
  go_wp2_with (refine wpList_buildG (by kernel_rfl) 59 _ rfl _ rfl #[.slice none 0 0, .slice none 0 0] (by kernel_rfl) ?_)
  refine (rqsize_any _ _ [] [] w13 (Rs.nil _) (Rs.nil _) (by simp) (by simp)).mono ?_
  rintro e w14 ⟨rfl, g14⟩
  have G14 := only_trans G13 g14
  go_wp2_with fail
  go_ret
  exact ⟨rfl, below_of_only G14⟩
end Go.Proofs.YtnhchdkchohnbaaGreatDoor
