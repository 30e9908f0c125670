/- Layer 13: what the laws' awake answers; an argument of type api.Auth. -/
import Derived.Test.YtnhchdkchohnbaaGreatDoorAutF
import Derived.Test.YtnhchdkchohnbaaGreatDoorTicKit
namespace Go.Proofs.YtnhchdkchohnbaaGreatDoor
open Go.RowKit Go.Deep Go.ChangeShapes Go.WideShapes

theorem autA_eq : autA = aut aliceS [hostS] 5 999999 9 := rfl
theorem autA_valid : Aut.valid autA = true := (Aut.valid_iff _).2 ⟨made4_valid, by decide, by decide, by decide⟩
theorem autA_facts : ∃ B S : List Nat, Aut.bytes autA = B ∧ Sea.sld (Sea.hd 1) 11 (Sea.hd 2) B = S ∧ B.length ≤ 943 ∧ S.length ≤ 1000 ∧ Aut.parse B = some autA ∧ Aut.opn (Sea.hd 1) S = (autA, 0) ∧ Aut.opn (Sea.hd 2) S = (aut0, 2) ∧ Sha.dig B 0 = 223 := by
  have h1 := Aut.bytes_len autA_valid
  have h2 := Aut.parse_bytes autA_valid (by decide)
  have h3 := aut_other
  have h6 := autD
  generalize hB : Aut.bytes autA = B at *
  have h4 := Sea.seal_length (Sea.hd 1) 11 (Sea.hd 2) B
  have h5 := Sea.op_seal (Sea.hd 1) 11 (Sea.hd 2) B
  generalize hS : Sea.sld (Sea.hd 1) 11 (Sea.hd 2) B = S at *
  exact ⟨B, S, rfl, hS, by omega, by omega, h2, Aut.opn_yes h5 h2, Aut.opn_no h3, h6⟩
set_option maxRecDepth 100000 in
set_option maxHeartbeats 8000000 in
theorem awake_aut (w : World) (hK : Consts w Sha.tab) : Calls Tryz.prog 7 #[] w (RetBool true w) := by
  have HK := Lib.hid hK; clear hK
  obtain ⟨B, S, hB, hS, hbl, hsl, hpa, ho, hn, hd⟩ := autA_facts
  have HVA := Lib.hid autA_valid
  have hdi : Aut.digI autA = Sha.dig B := by unfold Aut.digI; rw [if_pos HVA.out, hB]
  generalize Sha.dig B = f at *
  have HDI := Lib.hid hdi
  have HF0 := Lib.hid (sameArr_no (n := 32) (f := f) (g := fun _ => 0) 0 (by omega) (by rw [hd]; omega))
  have HB := Lib.hid hB
  have HS := Lib.hid hS
  have HPA := Lib.hid hpa
  have HO := Lib.hid ho
  have HN := Lib.hid hn
  have HBL := Lib.hid hbl
  have HSL := Lib.hid hsl
  clear hB hS hbl hsl hpa ho hn hd hdi
  go_enter Tryz.func7, Tryz.ntmps7
  go_wp2_with fail
  refine (make4_any w).mono ?_
  rintro e w1 ⟨v1, rfl, o1, G1⟩
  obtain ⟨ua, uc, rfl⟩ := o1.ss.form
  have F := fresh_row w1 #[.string ⟨#[]⟩, .slice none 0 0, .int .i64 0, .int .u32 0, .int .u32 0] (au aliceS (.slice ua [hostS].length uc) 5 999999 9) 32
  have hal : aliceS.size ≤ maxLen := by decide
  have T2 : Ab _ w1.heap.size aliceS _ [hostS] 5 999999 9 := ⟨F.1, o1.ss.only F.2, hal, by omega, by omega⟩
  have G2 := only_trans G1 F.2
  have HU1 := Lib.hid (show ∀ g, (Value.slice ua [hostS].length uc).ownBlock = some g → g ≠ w1.heap.size from fun g e => Nat.ne_of_lt (o1.lt g e).2)
  go_upto_region 2 with (first | refine wpList_buildTo rfl 32 _ rfl _ rfl (au aliceS (.slice ua [hostS].length uc) 5 999999 9) (by kernel_rfl) ?_ | refine wpList_store_rowTo rfl _ _ _ rfl rfl w1.heap.size _ rfl rfl _ _ (heap_alloc_new _ _) (info_au _ _ _ _ _) (by rw [au_size]; rfl) (au_one _ _ _ _ _ rfl) ?_)
  generalize World.setRow _ w1.heap.size _ = W2 at *
  clear F o1
  have HW1 := Lib.hid G1.size
  clear G1
  generalize w1.heap.size = b1 at *
  go_wp2_with (refine wpList_load_row rfl _ _ rfl b1 rfl _ _ (0, 0) _ T2.1 rfl rfl (info_au _ _ _ _ _) ?_)
  refine (aubytes_any aliceS _ [hostS] 5 999999 9 W2 hal (by omega) (by omega) T2.2.1).mono ?_
  rintro e w3 ⟨hb3, ht⟩
  rw [← autA_eq, if_pos HVA.out, HB.out] at ht
  rcases ht with ⟨hno, _⟩ | ⟨l3, v3, hl3, rfl, o3⟩
  · cases hno
  cases hl3
  obtain ⟨va3, vc3, rfl⟩ := o3.form
  have T3 := T2.only (only_of_below hb3 none)
  have G3 := only_trans G2 (only_of_below hb3 none)
  have O3 := Lib.hid o3.bs.rs
  clear T2 G2 hb3 o3
  go_wp2_with fail
  refine (auparse_any _ B w3 O3.out (by have := HBL.out; omega)).mono ?_
  rintro e w4 ⟨hb4, q4, u4, ss4, t4, m4, s4, rfl, o4, hq4, hm4, hs4, ht4⟩
  rw [HPA.out] at ht4 ⊢
  have ht4 : aut q4 ss4 t4 m4 s4 = autA := ht4
  obtain ⟨ua4, uc4, rfl⟩ := o4.ss.form
  have ht5 : t4 = 5 := congrArg Aut.A.time ht4
  subst ht5
  have F := fresh_row w4 #[.string ⟨#[]⟩, .slice none 0 0, .int .i64 0, .int .u32 0, .int .u32 0] (au q4 (.slice ua4 ss4.length uc4) 5 m4 s4) 32
  have P5 : Ab _ w4.heap.size q4 _ ss4 5 m4 s4 := ⟨F.1, o4.ss.only F.2, hq4, hm4, hs4⟩
  have T5 := (T3.only (only_of_below hb4 none)).only F.2
  have HU4 := Lib.hid (show ∀ g, (Value.slice ua4 ss4.length uc4).ownBlock = some g → g ≠ b1 from fun g e => by have := (o4.lt g e).1; have := T3.1.lt; omega)
  have h14 : b1 ≠ w4.heap.size := Nat.ne_of_lt (T3.only (only_of_below hb4 none)).1.lt
  have G5 := only_trans (only_trans G3 (only_of_below hb4 none)) F.2
  clear T3 G3 O3 o4
  go_upto_region 4 with (refine wpList_store_rowTo rfl _ _ _ rfl rfl w4.heap.size _ rfl rfl _ _ (heap_alloc_new _ _) (info_au _ _ _ _ _) (by rw [au_size]; rfl) (au_one _ _ _ _ _ rfl) ?_)
  generalize World.setRow _ w4.heap.size _ = W5 at *
  generalize w4.heap.size = b4 at *
  clear F hb4
  go_wp2_with (first | refine wpList_buildTo rfl 22 _ rfl _ rfl (arr .u8 16 (Sea.hd 1)) (by kernel_rfl) ?_ | refine wpList_buildTo rfl 23 _ rfl _ rfl (arr .u8 8 (Sea.hd 2)) (by kernel_rfl) ?_ | refine wpList_load_row rfl _ _ rfl b1 rfl _ _ (0, 0) _ T5.1 rfl rfl (info_au _ _ _ _ _) ?_)
  refine (auseal_any (Sea.hd 1) (Sea.hd 2) aliceS _ [hostS] 5 999999 9 W5 (Sea.hd_b8 (by omega)) (Sea.hd_b8 (by omega)) hal (by omega) (by omega) T5.2.1 (HK.out.below (below_of_only G5))).mono ?_
  rintro e w6 ⟨hb6, ht⟩
  rw [← autA_eq, if_pos HVA.out, HB.out, HS.out] at ht
  rcases ht with ⟨hno, _⟩ | ⟨l6, v6, hl6, rfl, o6⟩
  · cases hno
  cases hl6
  obtain ⟨va6, vc6, rfl⟩ := o6.form
  have T6 := T5.only (only_of_below hb6 none)
  have P6 := P5.only (only_of_below hb6 none)
  have G6 := only_trans G5 (only_of_below hb6 none)
  have O6 := Lib.hid o6.bs.rs
  clear T5 P5 G5 hb6 o6
  go_wp2_with (refine wpList_buildTo rfl 22 _ rfl _ rfl (arr .u8 16 (Sea.hd 1)) (by kernel_rfl) ?_)
  refine (auopen_any (Sea.hd 1) _ S w6 (Sea.hd_b8 (by omega)) O6.out (by have := HSL.out; omega) (HK.out.below (below_of_only G6))).mono ?_
  rintro e w7 ⟨hb7, q7, u7, ss7, t7, m7, s7, rfl, o7, hq7, hm7, hs7, ht7⟩
  rw [HO.out] at ht7 ⊢
  have ht7 : aut q7 ss7 t7 m7 s7 = autA := ht7
  obtain ⟨ua7, uc7, rfl⟩ := o7.ss.form
  have F := fresh_row w7 #[.string ⟨#[]⟩, .slice none 0 0, .int .i64 0, .int .u32 0, .int .u32 0] (au q7 (.slice ua7 ss7.length uc7) t7 m7 s7) 32
  have Q8 : Ab _ w7.heap.size q7 _ ss7 t7 m7 s7 := ⟨F.1, o7.ss.only F.2, hq7, hm7, hs7⟩
  have T8 := (T6.only (only_of_below hb7 none)).only F.2
  have HU7 := Lib.hid (show ∀ g, (Value.slice ua7 ss7.length uc7).ownBlock = some g → g ≠ b1 from fun g e => by have := (o7.lt g e).1; have := T6.1.lt; omega)
  have h17 : b1 ≠ w7.heap.size := Nat.ne_of_lt (T6.only (only_of_below hb7 none)).1.lt
  have P8 := (P6.only (only_of_below hb7 none)).only F.2
  have G8 := only_trans (only_trans G6 (only_of_below hb7 none)) F.2
  have O8 := Lib.hid ((O6.out.below hb7).below (below_of_only F.2))
  clear T6 P6 G6 O6 o7
  go_upto_region 6 with (refine wpList_store_rowTo rfl _ _ _ rfl rfl w7.heap.size _ rfl rfl _ _ (heap_alloc_new _ _) (info_au _ _ _ _ _) (by rw [au_size]; rfl) (au_one _ _ _ _ _ rfl) ?_)
  generalize World.setRow _ w7.heap.size _ = W8 at *
  generalize w7.heap.size = b7 at *
  clear F hb7
  go_wp2_with (refine wpList_buildTo rfl 22 _ rfl _ rfl (arr .u8 16 (Sea.hd 2)) (by kernel_rfl) ?_)
  refine (auopen_any (Sea.hd 2) _ S W8 (Sea.hd_b8 (by omega)) O8.out (by have := HSL.out; omega) (HK.out.below (below_of_only G8))).mono ?_
  rintro e w9 ⟨hb9, q9, u9, ss9, t9, m9, s9, rfl, o9, hq9, hm9, hs9, ht9⟩
  rw [HN.out]
  obtain ⟨ua9, uc9, rfl⟩ := o9.ss.form
  have F := fresh_row w9 #[.string ⟨#[]⟩, .slice none 0 0, .int .i64 0, .int .u32 0, .int .u32 0] (au q9 (.slice ua9 ss9.length uc9) t9 m9 s9) 32
  have T10 := (T8.only (only_of_below hb9 none)).only F.2
  have P10 := (P8.only (only_of_below hb9 none)).only F.2
  have Q10 := (Q8.only (only_of_below hb9 none)).only F.2
  have G10 := only_trans (only_trans G8 (only_of_below hb9 none)) F.2
  clear T8 P8 Q8 G8 O8 o9 ht9
  go_upto_region 7 with (refine wpList_store_rowTo rfl _ _ _ rfl rfl w9.heap.size _ rfl rfl _ _ (heap_alloc_new _ _) (info_au _ _ _ _ _) (by rw [au_size]; rfl) (au_one _ _ _ _ _ rfl) ?_)
  generalize World.setRow _ w9.heap.size _ = W10 at *
  clear F hb9
  go_wp2_with (refine wpList_load_row rfl _ _ rfl b1 rfl _ _ (0, 0) _ T10.1 rfl rfl (info_au _ _ _ _ _) ?_)
  refine (audigest_any aliceS _ [hostS] 5 999999 9 W10 hal (by omega) (by omega) T10.2.1 (HK.out.below (below_of_only G10))).mono ?_
  rintro e w11 ⟨rfl, hb11⟩
  rw [← autA_eq, HDI.out, HVA.out]
  have F := fresh_row w11 #[.int .u8 0, .int .u8 0, .int .u8 0, .int .u8 0, .int .u8 0, .int .u8 0, .int .u8 0, .int .u8 0, .int .u8 0, .int .u8 0, .int .u8 0, .int .u8 0, .int .u8 0, .int .u8 0, .int .u8 0, .int .u8 0, .int .u8 0, .int .u8 0, .int .u8 0, .int .u8 0, .int .u8 0, .int .u8 0, .int .u8 0, .int .u8 0, .int .u8 0, .int .u8 0, .int .u8 0, .int .u8 0, .int .u8 0, .int .u8 0, .int .u8 0, .int .u8 0] (arr .u8 32 f) 69
  have F11 := only_trans (only_of_below hb11 none) F.2
  have T12 := T10.only F11
  have P12 := P10.only F11
  have Q12 := Q10.only F11
  have G12 := only_trans G10 F11
  have D12 : isArr _ w11.heap.size 69 .u8 32 f := F.1
  have h111 : w11.heap.size ≠ b1 := Nat.ne_of_gt (T10.only (only_of_below hb11 none)).1.lt
  have hs32 := arr_size .u8 32 f
  clear T10 P10 Q10 G10 F11
  go_upto_region 8 with (refine wpList_store_rowTo rfl _ _ _ rfl rfl w11.heap.size _ rfl rfl _ _ (heap_alloc_new _ _) (info32d _) (by rw [arr_size]; rfl) (arr_one _ _ _) ?_)
  generalize World.setRow _ w11.heap.size _ = W12 at *
  generalize w11.heap.size = b11 at *
  clear F hb11
  have c3 := T12.c3
  have f3 := T12.1.frozen 3
  have hwr : IntKind.u32.wrap (999999 + 1) = 1000000 := by decide
  have T13 := T12.micro HU1.out 1000000 (by omega)
  have P13 := P12.far (p := ⟨b1, 3, none⟩) (fun e => h14 e.symm) HU4.out (.int .u32 1000000)
  have Q13 := Q12.far (p := ⟨b1, 3, none⟩) (fun e => h17 e.symm) HU7.out (.int .u32 1000000)
  have D13 : isArr (W12.setCell ⟨b1, 3, none⟩ (.int .u32 1000000)) b11 69 .u8 32 f := Hb.far (p := ⟨b1, 3, none⟩) D12 h111 _
  have hgb : w.heap.size ≤ b1 := HW1.out
  have G13 : w.grownBy (W12.setCell ⟨b1, 3, none⟩ (.int .u32 1000000)) none := fresh_set G12 hgb _
  have HSM := Lib.hid (asame_of (ht7.trans ht4.symm))
  have p2 := P13.c2
  have heq : ∀ W : World, (Op.equalIn 10000 69 (.agg (arr .u8 32 f)) (.agg (arr .u8 32 (fun _ => 0)))).run Tryz.prog W = .ok false W := fun W => by
    rw [run_equalIn_arr (P := Tryz.prog) (k := .u8) (n := 32) W f (fun _ => 0) Tryz.underlying69 Tryz.underlying5 (by kernel_rfl), HF0.out]
  go_upto_region 9 with fail
  clear T12 P12 Q12 D12 G12 c3 f3
  generalize W12.setCell ⟨b1, 3, none⟩ (.int .u32 1000000) = W13 at *
  go_wp2_with (first | refine wpList_load_rowG (by kernel_rfl) _ _ rfl b7 rfl _ _ (0, 0) _ Q13.1 rfl rfl (info_au _ _ _ _ _) ?_ | refine wpList_load_rowG (by kernel_rfl) _ _ rfl b4 rfl _ _ (0, 0) _ P13.1 rfl rfl (info_au _ _ _ _ _) ?_)
  refine (ausame_any q7 q4 _ _ ss7 ss4 t7 5 m7 s7 m4 s4 W13 hq7 hq4 Q13.2.1 P13.2.1).mono ?_
  rintro e w14 ⟨rfl, g14⟩
  rw [HSM.out]
  have T14 := T13.only g14
  have D14 := isArr.only D13 g14
  have G14 := only_trans G13 g14
  clear T13 P13 Q13 D13 G13 g14 p2
  go_wp2_with (first | refine wpList_load_rowG (by kernel_rfl) _ _ rfl b11 rfl _ _ (0, 0) _ D14 rfl rfl (info32d _) ?_ | refine wpList_buildG (by kernel_rfl) 69 _ rfl _ rfl (arr .u8 32 (fun _ => 0)) (by kernel_rfl) ?_ | refine wpList_load_rowG (by kernel_rfl) _ _ rfl b1 rfl _ _ (0, 0) _ T14.1 rfl rfl (info_au _ _ _ _ _) ?_)
  refine (auvalid_any aliceS _ [hostS] 5 1000000 9 w14 hal T14.2.1).mono ?_
  rintro e w15 ⟨rfl, g15⟩
  have hnv : Aut.valid (aut aliceS [hostS] 5 1000000 9) = false := by
    unfold Aut.valid aut
    simp
  rw [hnv]
  have G15 := only_trans G14 g15
  go_wp2_with fail
  go_ret
  exact ⟨rfl, below_of_only G15⟩
section
variable {H : Type} {enc : TypeId × Value → H} {w : World}
end
end Go.Proofs.YtnhchdkchohnbaaGreatDoor
