/- Layer 9: what the laws' awake answers. -/
import Derived.Test.YtpbcpdocnjnfiaaDoorSealG
namespace Go.Proofs.YtpbcpdocnjnfiaaDoor
open Go.RowKit Go.Deep

theorem retPut_none {w w' : World} {e : Ending} (h : RetPut none w e w') : e = .returned (.tuple #[.slice none 0 0, .bool false]) ∧ Below w.heap.size w w' := by
  obtain ⟨hb, ⟨_, he⟩ | ⟨l, v, hl, _⟩⟩ := h
  · exact ⟨he, hb⟩
  · cases hl
theorem retPut_some {w w' : World} {e : Ending} {l : List Nat} (h : RetPut (some l) w e w') : ∃ v, e = .returned (.tuple #[v, .bool true]) ∧ Own w' w.heap.size v l ∧ Below w.heap.size w w' := by
  obtain ⟨hb, ⟨hn, _⟩ | ⟨m, v, hl, he, ho⟩⟩ := h
  · cases hn
  · cases hl; exact ⟨v, he, ho, hb⟩
theorem seal7 (w : World) (hK : Consts w Sha.tab) : Calls Tryd.prog 9 #[.agg #[.int .u8 7, .int .u8 0, .int .u8 0, .int .u8 0, .int .u8 0, .int .u8 0, .int .u8 0, .int .u8 0, .int .u8 0, .int .u8 0, .int .u8 0, .int .u8 0, .int .u8 0, .int .u8 0, .int .u8 0, .int .u8 0], .int .u8 3, .agg #[.int .u8 1, .int .u8 0, .int .u8 0, .int .u8 0, .int .u8 0, .int .u8 0, .int .u8 0, .int .u8 0], .slice none 0 0] w (RetOwn (Sea.sld Sea.key7 3 Sea.non1 []) w) := by
  rw [Sea.key7_lit, Sea.non1_lit]
  exact seal_any Sea.key7 Sea.non1 3 _ [] w Sea.key7_b8 Sea.non1_b8 (by omega) ⟨AllB.nil, by simp, .inl ⟨rfl, rfl⟩⟩ (by simp) hK
theorem open7 (u : Nat) (x : Int) (hx : x = (u : Int)) (hu : u < 256) (v : Value) (s : List Nat) (w : World) (hv : Rs w v s) (hl : s.length ≤ 1000000) (hK : Consts w Sha.tab) : Calls Tryd.prog 12 #[.agg #[.int .u8 7, .int .u8 0, .int .u8 0, .int .u8 0, .int .u8 0, .int .u8 0, .int .u8 0, .int .u8 0, .int .u8 0, .int .u8 0, .int .u8 0, .int .u8 0, .int .u8 0, .int .u8 0, .int .u8 0, .int .u8 0], .int .u8 x, v] w (RetPut (Sea.op Sea.key7 u s) w) := by
  subst hx
  rw [Sea.key7_lit]
  exact open_any Sea.key7 u v s w Sea.key7_b8 hu hv hl hK
set_option maxRecDepth 100000 in
set_option maxHeartbeats 4000000 in
theorem awake_seal (w : World) (hK : Consts w Sha.tab) : Calls Tryd.prog 8 #[] w (RetBool true w) := by
  have HK := Lib.hid hK; clear hK
  have hsl : (Sea.sld Sea.key7 3 Sea.non1 []).length = 24 := Sea.seal_length Sea.key7 3 Sea.non1 []
  have HO := Lib.hid (Sea.op_seal Sea.key7 3 Sea.non1 [])
  have HNO := Lib.hid awake_no
  have hnon : ∀ i, i < 8 → Sea.nonI (Sea.sld Sea.key7 3 Sea.non1 []) i = Sea.non1 i := fun i hi => by
    unfold Sea.nonI
    rw [if_neg (by rw [hsl]; omega)]
    exact Sea.non_seal Sea.key7 3 Sea.non1 [] i hi
  have HNON := Lib.hid (arr_congr .u8 8 _ _ hnon)
  have HCH := Lib.hid (fun x hx => Sea.op_changed Sea.key7 3 Sea.non1 [] 20 x (by rw [hsl]; omega) (by rw [hsl]; omega) hx)
  clear hnon
  generalize hs : Sea.sld Sea.key7 3 Sea.non1 [] = s at *
  have HS := Lib.hid hs; clear hs
  have HSL := Lib.hid hsl
  go_enter Tryd.func8, Tryd.ntmps8
  go_wp2_with fail
  have H7 := seal7 w HK.out
  rw [show Sea.sld Sea.key7 3 Sea.non1 [] = s from HS.out] at H7
  refine H7.mono ?_
  rintro e w1 ⟨v1, rfl, o1, hb1⟩
  have B1 := hb1
  rcases o1.cases with ⟨_, hnil⟩ | ⟨g, c, rfl, hg0, hg1, hgc, _, hcell, hfz⟩
  · exfalso; rw [hnil] at hsl; simp at hsl
  have c20 := hcell 20 (by omega)
  have f20 := hfz 20
  have hx20 : s.getD 20 0 < 256 := o1.1.get 20
  rw [hsl] at o1 hgc ⊢
  have R1 := Lib.hid o1.bs.rs
  clear hcell hfz
  have HHS := Lib.hid hsl; clear hsl HSL
  go_wp2_with fail
  refine (open7 3 _ rfl (by omega) _ s w1 R1.out (by rw [HHS.out]; omega) (HK.out.below hb1)).mono ?_
  rintro e w2 ⟨hb2, ht⟩
  rw [HO.out] at ht
  rcases ht with ⟨hno, _⟩ | ⟨l2, v2, hl2, rfl, o2⟩
  · cases hno
  cases hl2
  obtain ⟨a2, c2, rfl⟩ : ∃ a c, v2 = .slice a 0 c := o2.form
  have B2 := B1.trans (hb2.mono B1.size)
  have O2 := o1.below hb2
  have k20 := (hb2.cell (p := ⟨g, 20, none⟩) hg1).trans c20
  clear o2 c20 hb1 B1 o1
  go_wp2_with fail
  refine (open7 4 _ rfl (by omega) _ s w2 (R1.out.below hb2) (by rw [HHS.out]; omega) (HK.out.below B2)).mono ?_
  rintro e w3 ⟨hb3, ht⟩
  rw [HNO.out] at ht
  rcases ht with ⟨_, rfl⟩ | ⟨l3, v3, hl3, _⟩
  rotate_left
  · cases hl3
  have B3 := B2.trans (hb3.mono B2.size)
  have O3 := O2.below hb3
  have R3 := Lib.hid ((R1.out.below hb2).below hb3)
  have j20 := (hb3.cell (p := ⟨g, 20, none⟩) (Nat.lt_of_lt_of_le hg1 hb2.size)).trans k20
  clear k20 O2 B2
  go_wp2_with fail
  refine (nonce_any _ s w3 R3.out).mono ?_
  rintro e w4 ⟨rfl, hb4⟩
  rw [HNON.out, decide_eq_true (show 24 ≤ s.length by rw [HHS.out]; omega)]
  have B4 := B3.trans (hb4.mono B3.size)
  have O4 := O3.below hb4
  have hg4 : g < w4.heap.size := Nat.lt_of_lt_of_le (Nat.lt_of_lt_of_le (Nat.lt_of_lt_of_le hg1 hb2.size) hb3.size) hb4.size
  have m20 := (hb4.cell (p := ⟨g, 20, none⟩) (Nat.lt_of_lt_of_le (Nat.lt_of_lt_of_le hg1 hb2.size) hb3.size)).trans j20
  clear j20 O3 hb2 hb3 hb4 B3 hg1 f20
  go_upto_region 7 with (refine wpList_store_rowTo rfl _ _ _ rfl rfl w4.heap.size _ rfl rfl _ _ (heap_alloc_new _ _) (info8s _) (by rw [arr_size]; rfl) (arr_one _ _ _) ?_)
  generalize hW : World.setRow _ w4.heap.size _ = V
  have N5 : isArr V w4.heap.size 23 .u8 8 Sea.non1 := by rw [← hW]; exact setRow_heap _ _ _ _ _ _ (heap_alloc_new _ _)
  have hb5 : Below w4.heap.size w4 V := by rw [← hW]; exact below_setRow ((Below.refl _ _).alloc (Nat.le_refl _) _) (Nat.le_refl _) _
  clear hW m20
  obtain ⟨gN, hgN⟩ : ∃ g, g = w4.heap.size := ⟨_, rfl⟩
  rw [← hgN] at N5 hg4 ⊢
  have B5 := B4.trans (hb5.mono B4.size)
  have O5 := O4.below hb5
  clear hgN hb5 B4 O4 R3
  have c20 := O5.cellAt (i := 20) (by rw [HHS.out]; omega)
  have f20 := O5.frozenAt 20
  obtain ⟨y, hy⟩ : ∃ y, y = (s.getD 20 0 + 1) % 256 := ⟨_, rfl⟩
  have hyx : y ≠ s.getD 20 0 := by omega
  have hy256 : y < 256 := by omega
  obtain ⟨O6, hg6⟩ := O5.set 20 y hy256
  have HN2 := Lib.hid (HCH.out y hyx)
  have hwr : IntKind.u8.wrap ((s.getD 20 0 : Nat) + 1 : Int) = (y : Int) := by simp only [IntKind.wrap_u8]; omega
  generalize hxg : s.getD 20 0 = x at *
  have N6 : isArr (V.setCell ⟨g, 20, none⟩ (bv y)) gN 23 .u8 8 Sea.non1 := N5.setOther (Nat.ne_of_gt hg4) 20 (bv y)
  have hB6 := below_only B5 (Nat.le_refl _) hg6 (fun q hq => (O5.lt q (by cases hq; rfl)).1)
  have HK6 := Lib.hid (HK.out.below hB6)
  have R6 := Lib.hid O6.bs.rs
  clear hy hyx O5 N5 B5 hg6 hxg
  go_upto_region 9 with (go_at_call 12; go_must (refine (open7 3 _ (by rfl) (by omega) _ (s.set 20 y) _ R6.out (by rw [List.length_set, HHS.out]; omega) HK6.out).mono ?_; rintro e w8 ht; rw [HN2.out] at ht; obtain ⟨rfl, hb8⟩ := retPut_none ht; clear ht))
  have N8 := N6.below hb8 N6.lt
  have B8 := hB6.trans (hb8.mono hB6.size)
  have heq : ∀ W : World, (Op.equalIn 10000 23 (.agg #[.int .u8 1, .int .u8 0, .int .u8 0, .int .u8 0, .int .u8 0, .int .u8 0, .int .u8 0, .int .u8 0]) (.agg #[.int .u8 1, .int .u8 0, .int .u8 0, .int .u8 0, .int .u8 0, .int .u8 0, .int .u8 0, .int .u8 0])).run Tryd.prog W = .ok true W := fun W => by
    rw [Sea.non1_lit, run_equalIn_arr (P := Tryd.prog) (k := .u8) (n := 8) W Sea.non1 Sea.non1 Tryd.underlying23 Tryd.underlying5 (by kernel_rfl), sameArr_refl]
  have q0 : w8.cell? ⟨gN, 0, none⟩ = some (.int .u8 1) := N8.cell (i := 0) (by omega)
  have q1 : w8.cell? ⟨gN, 1, none⟩ = some (.int .u8 0) := N8.cell (i := 1) (by omega)
  have q2 : w8.cell? ⟨gN, 2, none⟩ = some (.int .u8 0) := N8.cell (i := 2) (by omega)
  have q3 : w8.cell? ⟨gN, 3, none⟩ = some (.int .u8 0) := N8.cell (i := 3) (by omega)
  have q4 : w8.cell? ⟨gN, 4, none⟩ = some (.int .u8 0) := N8.cell (i := 4) (by omega)
  have q5 : w8.cell? ⟨gN, 5, none⟩ = some (.int .u8 0) := N8.cell (i := 5) (by omega)
  have q6 : w8.cell? ⟨gN, 6, none⟩ = some (.int .u8 0) := N8.cell (i := 6) (by omega)
  have q7 : w8.cell? ⟨gN, 7, none⟩ = some (.int .u8 0) := N8.cell (i := 7) (by omega)
  go_wp2_with fail
  go_ret
  exact ⟨rfl, B8⟩
end Go.Proofs.YtpbcpdocnjnfiaaDoor
