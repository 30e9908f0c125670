/- Layers 12 to 14: Make and Few of the reference; what the laws' awake of layer 12 answers. -/
import Derived.Test.YtnhchdkchohnbaaDoorTicF
import Derived.Test.YtnhchdkchohnbaaDoorAwkMath
import Derived.Test.YtnhchdkchohnbaaDoorTN6
namespace Go.Proofs.YtnhchdkchohnbaaDoor
open Go.RowKit Go.Deep

/-- A build behind a guard that is met. -/
theorem wpList_buildG {P : Program} {ops : Array Oper} {rest : List Oper} {o : Oper} {a : Act} {w : World} {Q : Exit → Act → World → Prop} (hw : Region.wanted o (yielded ops a.tmps) = true) (t : TypeId) (parts : Array (Nat × Operand)) (ho : o.op = .build t parts)
    (d : Option Tmp) (hd : o.dst = d) (cells : Array Value) (hf : P.built t (parts.map fun (i, x) => (i, a.eval x)).toList = some cells)
    (h : wpList P ops Q rest (a.put d (.agg cells)) w) : wpList P ops Q (o :: rest) a w := by
  subst hd
  refine wpList_step fun K hK => ?_
  rw [if_pos hw]
  unfold Oper.wp execOp
  simp only [ho, Sem.run_bind, run_build w _ _ _ hf, Result.andThen_ok, Sem.run_pure]
  exact hK _ _ h
def wordsC : Array Value := #[.string ⟨#[104, 111, 115, 116]⟩, .string ⟨#[97, 47, 98]⟩, .string ⟨#[120]⟩, .string ⟨#[64]⟩, .string ⟨#[97, 108, 105, 99, 101]⟩, .string ⟨#[102, 116, 112]⟩, .string ⟨#[92]⟩, .string ⟨#[119, 119, 119, 46, 101, 120, 97, 109, 112, 108, 101]⟩]
set_option maxRecDepth 100000 in
set_option maxHeartbeats 4000000 in
theorem make4_any (w : World) : Calls Tryd.prog 46 #[.int .i64 4] w fun e w' => ∃ v, e = .returned (.agg #[.string aliceS, v]) ∧ OwnS w' w.heap.size v [hostS] ∧ w.grownBy w' none := by
  have z0 := ((Hb.new w #[.string ⟨#[]⟩, .slice none 0 0] 24).alloc (.cells wordsC 9)).alloc (.cells #[.string aliceS, .slice none 0 0] 24)
  have k0 := (Hb.new (w.alloc (.cells #[.string ⟨#[]⟩, .slice none 0 0] 24)) wordsC 9).alloc (.cells #[.string aliceS, .slice none 0 0] 24)
  have n0 := Hb.new ((w.alloc (.cells #[.string ⟨#[]⟩, .slice none 0 0] 24)).alloc (.cells wordsC 9)) #[.string aliceS, .slice none 0 0] 24
  have G0 := only_alloc (only_alloc (only_alloc (only_refl w none) (.cells #[.string ⟨#[]⟩, .slice none 0 0] 24)) (.cells wordsC 9)) (.cells #[.string aliceS, .slice none 0 0] 24)
  have hs0 : (((w.alloc (.cells #[.string ⟨#[]⟩, .slice none 0 0] 24)).alloc (.cells wordsC 9)).alloc (.cells #[.string aliceS, .slice none 0 0] 24)).heap.size = w.heap.size + 1 + 1 + 1 := by simp
  simp only [World.size_alloc] at z0 k0 n0
  go_enter Tryd.func46, Tryd.ntmps46
  go_wp2_with fail
  generalize hV : ((w.alloc (.cells #[.string ⟨#[]⟩, .slice none 0 0] 24)).alloc (.cells wordsC 9)).alloc (.cells #[.string aliceS, .slice none 0 0] 24) = V at *
  rw [show ((w.alloc (.cells #[.string ⟨#[]⟩, .slice none 0 0] 24)).alloc (.cells #[.string ⟨#[104, 111, 115, 116]⟩, .string ⟨#[97, 47, 98]⟩, .string ⟨#[120]⟩, .string ⟨#[64]⟩, .string ⟨#[97, 108, 105, 99, 101]⟩, .string ⟨#[102, 116, 112]⟩, .string ⟨#[92]⟩, .string ⟨#[119, 119, 119, 46, 101, 120, 97, 109, 112, 108, 101]⟩] 9)).alloc (.cells #[.string ⟨#[97, 108, 105, 99, 101]⟩, .slice none 0 0] 24) = V from hV]
  clear hV
  go_loopw [5] (fun x wr => ∃ (j : Int) (v : Value) (ss : List ByteArray), x = .int .i64 j ∧ ((j = 0 ∧ v = .slice none 0 0 ∧ ss = []) ∨ (j = 1 ∧ ss = [hostS])) ∧ Hb wr w.heap.size #[.string ⟨#[]⟩, .slice none 0 0] 24 ∧ Hb wr (w.heap.size + 1) wordsC 9 ∧ Hb wr (w.heap.size + 1 + 1) #[.string aliceS, v] 24 ∧ OwnS wr (w.heap.size + 1 + 1 + 1) v ss ∧ w.grownBy wr none ∧ w.heap.size + 1 + 1 + 1 ≤ wr.heap.size) (fun x _ => 2 - (intOf x).toNat)
  case atStart => exact ⟨0, _, [], rfl, .inl ⟨rfl, rfl, rfl⟩, z0, k0, n0, OwnS.nil _ _, G0, Nat.le_of_eq hs0.symm⟩
  case round =>
    obtain ⟨j, v, ss, rfl, hj, hz, hk, hn, ho, hg, hsz⟩ := hrel
    clear z0 k0 n0 G0 hs0
    rcases hj with ⟨rfl, rfl, rfl⟩ | ⟨rfl, rfl⟩
    · have m1 := hn.cell (i := 1) rfl
      have c0 := hk.cell (i := 0) rfl
      have hnd : Hb wr.drew (w.heap.size + 1 + 1) #[.string aliceS, .slice none 0 0] 24 := hn
      have m1d : wr.drew.cell? ⟨w.heap.size + 1 + 1, 1, none⟩ = some (.slice none 0 0) := m1
      have c0d : wr.drew.cell? ⟨w.heap.size + 1, 0, none⟩ = some (.string ⟨#[104, 111, 115, 116]⟩) := c0
      have m1e : (wr.alloc (.cells #[.string ⟨#[104, 111, 115, 116]⟩] 9)).cell? ⟨w.heap.size + 1 + 1, 1, none⟩ = some (.slice none 0 0) := (hn.alloc _).cell (i := 1) rfl
      have w0 : IntKind.i64.wrap 0 = 0 := by decide
      have w8 : IntKind.i64.wrap 8 = 8 := by decide
      go_wp2_with fail
      go_region_law (refine law_if rfl ?_; refine wpList_append_one rfl _ _ rfl (w.heap.size + 1 + 1 + 1) (.slice none 0 0) [] rfl (OwnS.nil _ _) wr.heap.size hostS (by decide) rfl (cell_new wr.drew #[.string hostS] 9 0 _ rfl) (by simp) (Nat.le_trans hsz (by simp)) ?_; intro a3 c3 w5 hown5 hgr5; have q1 := (hnd.alloc (.cells #[.string hostS] 9)).keep hgr5 (by simp [Value.ownBlock]); have x5 := q1.cell (i := 1) rfl; have y5 := q1.frozen 1; refine lawQ_done ?_)
      all_goals (
        go_wp2_with fail
        go_roundw
        case rel =>
          have gd : w.grownBy (wr.drew.alloc (.cells #[.string hostS] 9)) none := only_alloc (w := wr.drew) ⟨hg.os, hg.tape, hg.output, hg.size, hg.block⟩ _
          have hzd : Hb (wr.drew.alloc (.cells #[.string hostS] 9)) w.heap.size #[.string ⟨#[]⟩, .slice none 0 0] 24 := Hb.alloc (w := wr.drew) hz _
          have hkd : Hb (wr.drew.alloc (.cells #[.string hostS] 9)) (w.heap.size + 1) wordsC 9 := Hb.alloc (w := wr.drew) hk _
          have hgr5 : (wr.drew.alloc (.cells #[.string hostS] 9)).grownBy w5 none := hgr5
          refine ⟨1, _, [hostS], rfl, .inr ⟨rfl, rfl⟩, (hzd.only hgr5).far (p := ⟨w.heap.size + 1 + 1, 1, none⟩) (by show w.heap.size ≠ w.heap.size + 1 + 1; omega) _, (hkd.only hgr5).far (p := ⟨w.heap.size + 1 + 1, 1, none⟩) (by show w.heap.size + 1 ≠ w.heap.size + 1 + 1; omega) _, q1.set 1 _, hown5.setCell (p := ⟨w.heap.size + 1 + 1, 1, none⟩) (Nat.lt_succ_self _) _, fresh_set (only_trans gd hgr5) (by show w.heap.size ≤ w.heap.size + 1 + 1; omega) _, ?_⟩
          have h5 := hgr5.size
          simp at h5 ⊢
          omega
        case measure => decide)
    · have m0 := hn.cell (i := 0) rfl
      have m1 := hn.cell (i := 1) rfl
      obtain ⟨va, vc, rfl⟩ := ho.ss.form
      obtain ⟨x0, x1, x2, x3, x4, x5⟩ := hz.two (.string aliceS)
      go_wp2_with fail
      try simp only [Exit.inBlock, Exit.then, Exit.noGoto_ret]
      refine bodyPost_ret (results_cell_row rfl _ _ w.heap.size _ _ (0, 0) _ rfl ((hz.set 0 _).set 1 _) rfl rfl info_name) rfl ?_
      exact ⟨_, rfl, ((ho.setCell (p := ⟨w.heap.size, 0, none⟩) (by show w.heap.size < w.heap.size + 1 + 1 + 1; omega) _).setCell (p := ⟨w.heap.size, 1, none⟩) (by show w.heap.size < w.heap.size + 1 + 1 + 1; omega) _).mono (by omega), fresh_set (fresh_set hg (Nat.le_refl _) _) (Nat.le_refl _) _⟩

set_option maxRecDepth 100000 in
theorem reftkfew_any (r : ByteArray) (u : Value) (ss : List ByteArray) (s e : Int) (key : Nat → Nat) (w : World) (hr : r.size ≤ maxLen) (h : Ss w u ss) :
    Calls Tryd.prog 13 #[.agg (tk r u s e key)] w fun x w' => x = .returned (.bool (few r ss)) ∧ w.grownBy w' none := by
  have hsz := tk_size r u s e key
  have hb := Hb.new w (tk r u s e key) 27
  have c0 := hb.cell (tk_0 r u s e key)
  have c1 := hb.cell (tk_1 r u s e key)
  have G0 := only_alloc (only_refl w none) (.cells (tk r u s e key) 27)
  obtain ⟨ua, uc, rfl⟩ := h.form
  have H := Lib.hid h; clear h
  go_enter Tryd.func13, Tryd.ntmps13
  go_wp2_with fail
  refine (few_any r _ ss _ (H.out.only G0) hr).mono ?_
  rintro x w1 ⟨rfl, g1⟩
  have G1 := only_trans G0 g1
  go_wp2_with fail
  go_ret
  exact ⟨rfl, G1⟩
theorem hd1_lit : (#[.int .u8 1, .int .u8 0, .int .u8 0, .int .u8 0, .int .u8 0, .int .u8 0, .int .u8 0, .int .u8 0, .int .u8 0, .int .u8 0, .int .u8 0, .int .u8 0, .int .u8 0, .int .u8 0, .int .u8 0, .int .u8 0] : Array Value) = arr .u8 16 (Sea.hd 1) := Sea.hd16_lit 1
theorem hd2_lit : (#[.int .u8 2, .int .u8 0, .int .u8 0, .int .u8 0, .int .u8 0, .int .u8 0, .int .u8 0, .int .u8 0, .int .u8 0, .int .u8 0, .int .u8 0, .int .u8 0, .int .u8 0, .int .u8 0, .int .u8 0, .int .u8 0] : Array Value) = arr .u8 16 (Sea.hd 2) := Sea.hd16_lit 2
theorem hd28_lit : (#[.int .u8 2, .int .u8 0, .int .u8 0, .int .u8 0, .int .u8 0, .int .u8 0, .int .u8 0, .int .u8 0] : Array Value) = arr .u8 8 (Sea.hd 2) := Sea.hd8_lit 2
theorem tk_set2 (r : ByteArray) (u : Value) (s e s' : Int) (key : Nat → Nat) : (tk r u s e key).setIfInBounds 2 (.int .i64 s') = tk r u s' e key := by
  unfold tk
  rw [Array.setIfInBounds_append_left (by simp)]; rfl
theorem Ss.far {w : World} {v : Value} {ss : List ByteArray} (h : Ss w v ss) {p : Addr} (hp : ∀ g, v.ownBlock = some g → g ≠ p.block) (x : Value) : Ss (w.setCell p x) v ss := by
  obtain ⟨h0, h1, h | ⟨ad, cap, rfl, hcap, hc⟩⟩ := h
  · exact ⟨h0, h1, .inl h⟩
  · refine ⟨h0, h1, .inr ⟨ad, cap, rfl, hcap, fun i hi => ?_⟩⟩
    have hb : (ad.add i).block = ad.block := by unfold Addr.add; split <;> rfl
    exact (World.cell?_of_block (Below.heap_setCell w p x (ad.add i).block (by rw [hb]; exact hp ad.block rfl))).trans (hc i hi)
theorem Tb.far {W : World} {b : Nat} {r : ByteArray} {u : Value} {ss : List ByteArray} {s e : Int} {key : Nat → Nat} (h : Tb W b r u ss s e key) {p : Addr} (hb : b ≠ p.block) (hu : ∀ g, u.ownBlock = some g → g ≠ p.block) (x : Value) : Tb (W.setCell p x) b r u ss s e key := ⟨h.1.far hb x, h.2.1.far hu x, h.2.2⟩
theorem Tb.start {W : World} {b : Nat} {r : ByteArray} {u : Value} {ss : List ByteArray} {s e : Int} {key : Nat → Nat} (h : Tb W b r u ss s e key) (hu : ∀ g, u.ownBlock = some g → g ≠ b) (s' : Int) : Tb (W.setCell ⟨b, 2, none⟩ (.int .i64 s')) b r u ss s' e key := by
  refine ⟨?_, h.2.1.far hu _, h.2.2⟩
  have := h.1.set 2 (.int .i64 s')
  rwa [tk_set2] at this
theorem ticA_eq : ticA = tic aliceS [hostS] 5 9 (Sea.hd 7) := rfl
theorem ticA_valid : Tic.valid ticA = true := (Tic.valid_iff _).2 ⟨made4_valid, by decide, by decide, by decide⟩
theorem Tic.opn_no {key : Nat → Nat} {s : List Nat} (h : Sea.op key 2 s = none) : Tic.opn key s = (tic0, 2) := by unfold Tic.opn; rw [h]
theorem Tic.opn_yes {key : Nat → Nat} {s b : List Nat} {t : Tic.T} (h : Sea.op key 2 s = some b) (h2 : Tic.parse b = some t) : Tic.opn key s = (t, 0) := by unfold Tic.opn; rw [h]; dsimp only; rw [h2]
theorem Tic.opn_bad {key : Nat → Nat} {s b : List Nat} (h : Sea.op key 2 s = some b) (h2 : Tic.parse b = none) : Tic.opn key s = (tic0, 1) := by unfold Tic.opn; rw [h]; dsimp only; rw [h2]
theorem ticA_facts : ∃ B S : List Nat, Tic.bytes ticA = B ∧ Sea.sld (Sea.hd 1) 2 (Sea.hd 2) B = S ∧ B.length ≤ 943 ∧ S.length ≤ 1000 ∧ Tic.parse B = some ticA ∧ Tic.opn (Sea.hd 1) S = (ticA, 0) ∧ Tic.opn (Sea.hd 2) S = (tic0, 2) := by
  have h1 := Tic.bytes_len ticA_valid (Sea.nl_length _ _)
  have h2 := Tic.parse_bytes ticA_valid (Sea.nl_length _ _)
  have h3 := tic_other
  generalize hB : Tic.bytes ticA = B at *
  have h4 := Sea.seal_length (Sea.hd 1) 2 (Sea.hd 2) B
  have h5 := Sea.op_seal (Sea.hd 1) 2 (Sea.hd 2) B
  generalize hS : Sea.sld (Sea.hd 1) 2 (Sea.hd 2) B = S at *
  exact ⟨B, S, rfl, hS, h1, by omega, h2, Tic.opn_yes h5 h2, Tic.opn_no h3⟩
set_option maxRecDepth 100000 in
set_option maxHeartbeats 8000000 in
theorem awake_tic (w : World) (hK : Consts w Sha.tab) : Calls Tryd.prog 12 #[] w (RetBool true w) := by
  have HK := Lib.hid hK; clear hK
  obtain ⟨B, S, hB, hS, hbl, hsl, hpa, ho, hn⟩ := ticA_facts
  have HVA := Lib.hid ticA_valid
  have HB := Lib.hid hB
  have HS := Lib.hid hS
  have HPA := Lib.hid hpa
  have HO := Lib.hid ho
  have HN := Lib.hid hn
  have HBL := Lib.hid hbl
  have HSL := Lib.hid hsl
  clear hB hS hbl hsl hpa ho hn
  go_enter Tryd.func12, Tryd.ntmps12
  go_wp2_with fail
  refine (make4_any w).mono ?_
  rintro e w1 ⟨v1, rfl, o1, G1⟩
  obtain ⟨ua, uc, rfl⟩ := o1.ss.form
  have F := fresh_row w1 #[.string ⟨#[]⟩, .slice none 0 0, .int .i64 0, .int .i64 0, .int .u8 0, .int .u8 0, .int .u8 0, .int .u8 0, .int .u8 0, .int .u8 0, .int .u8 0, .int .u8 0, .int .u8 0, .int .u8 0, .int .u8 0, .int .u8 0, .int .u8 0, .int .u8 0, .int .u8 0, .int .u8 0] (tk aliceS (.slice ua [hostS].length uc) 5 9 (Sea.hd 7)) 27
  have hal : aliceS.size ≤ maxLen := by decide
  have T2 : Tb _ w1.heap.size aliceS _ [hostS] 5 9 (Sea.hd 7) := ⟨F.1, o1.ss.only F.2, hal, Sea.hd_b8 (by omega)⟩
  have G2 := only_trans G1 F.2
  have HU1 := Lib.hid (show ∀ g, (Value.slice ua [hostS].length uc).ownBlock = some g → g ≠ w1.heap.size from fun g e => Nat.ne_of_lt (o1.lt g e).2)
  go_upto_region 2 with (first | refine wpList_buildTo rfl 25 _ rfl _ rfl (arr .u8 16 (Sea.hd 7)) (by kernel_rfl) ?_ | refine wpList_buildTo rfl 27 _ rfl _ rfl (tk aliceS (.slice ua [hostS].length uc) 5 9 (Sea.hd 7)) (by kernel_rfl) ?_ | refine wpList_store_rowTo rfl _ _ _ rfl rfl w1.heap.size _ rfl rfl _ _ (heap_alloc_new _ _) (info_tk _ _ _ _ _) (by rw [tk_size]; rfl) (tk_one _ _ _ _ _ rfl) ?_)
  generalize World.setRow _ w1.heap.size _ = W2 at *
  clear F o1
  have HW1 := Lib.hid G1.size
  clear G1
  generalize w1.heap.size = b1 at *
  go_wp2_with (refine wpList_load_row rfl _ _ rfl b1 rfl _ _ (0, 0) _ T2.1 rfl rfl (info_tk _ _ _ _ _) ?_)
  refine (tkbytes_any aliceS _ [hostS] 5 9 (Sea.hd 7) W2 hal T2.2.2.2 T2.2.1).mono ?_
  rintro e w3 ⟨hb3, ht⟩
  rw [← ticA_eq, if_pos HVA.out, HB.out] at ht
  rcases ht with ⟨hno, _⟩ | ⟨l3, v3, hl3, rfl, o3⟩
  · cases hno
  cases hl3
  obtain ⟨va3, vc3, rfl⟩ := o3.form
  have T3 := T2.only (only_of_below hb3 none)
  have G3 := only_trans G2 (only_of_below hb3 none)
  have O3 := Lib.hid o3.bs.rs
  clear T2 G2 hb3 o3
  go_wp2_with fail
  refine (tkparse_any _ B w3 O3.out (by have := HBL.out; omega)).mono ?_
  rintro e w4 ⟨hb4, q4, u4, ss4, s4, x4, k4, rfl, o4, hq4, hk4, ht4⟩
  rw [HPA.out] at ht4 ⊢
  have ht4 : tic q4 ss4 s4 x4 k4 = ticA := ht4
  obtain ⟨ua4, uc4, rfl⟩ := o4.ss.form
  have hs4 : s4 = 5 := congrArg Tic.T.start ht4
  subst hs4
  have F := fresh_row w4 #[.string ⟨#[]⟩, .slice none 0 0, .int .i64 0, .int .i64 0, .int .u8 0, .int .u8 0, .int .u8 0, .int .u8 0, .int .u8 0, .int .u8 0, .int .u8 0, .int .u8 0, .int .u8 0, .int .u8 0, .int .u8 0, .int .u8 0, .int .u8 0, .int .u8 0, .int .u8 0, .int .u8 0] (tk q4 (.slice ua4 ss4.length uc4) 5 x4 k4) 27
  have P5 : Tb _ w4.heap.size q4 _ ss4 5 x4 k4 := ⟨F.1, o4.ss.only F.2, hq4, hk4⟩
  have T5 := (T3.only (only_of_below hb4 none)).only F.2
  have HU4 := Lib.hid (show ∀ g, (Value.slice ua4 ss4.length uc4).ownBlock = some g → g ≠ b1 from fun g e => by have := (o4.lt g e).1; have := T3.1.lt; omega)
  have h14 : b1 ≠ w4.heap.size := Nat.ne_of_lt (T3.only (only_of_below hb4 none)).1.lt
  have G5 := only_trans (only_trans G3 (only_of_below hb4 none)) F.2
  clear T3 G3 O3 o4
  go_upto_region 4 with (refine wpList_store_rowTo rfl _ _ _ rfl rfl w4.heap.size _ rfl rfl _ _ (heap_alloc_new _ _) (info_tk _ _ _ _ _) (by rw [tk_size]; rfl) (tk_one _ _ _ _ _ rfl) ?_)
  generalize World.setRow _ w4.heap.size _ = W5 at *
  generalize w4.heap.size = b4 at *
  clear F hb4
  go_wp2_with (first | refine wpList_buildTo rfl 25 _ rfl _ rfl (arr .u8 16 (Sea.hd 1)) (by kernel_rfl) ?_ | refine wpList_buildTo rfl 39 _ rfl _ rfl (arr .u8 8 (Sea.hd 2)) (by kernel_rfl) ?_ | refine wpList_load_row rfl _ _ rfl b1 rfl _ _ (0, 0) _ T5.1 rfl rfl (info_tk _ _ _ _ _) ?_)
  refine (tkseal_any (Sea.hd 1) (Sea.hd 2) aliceS _ [hostS] 5 9 (Sea.hd 7) W5 (Sea.hd_b8 (by omega)) (Sea.hd_b8 (by omega)) hal T5.2.2.2 T5.2.1 (HK.out.below (below_of_only G5))).mono ?_
  rintro e w6 ⟨hb6, ht⟩
  rw [← ticA_eq, if_pos HVA.out, HB.out, HS.out] at ht
  rcases ht with ⟨hno, _⟩ | ⟨l6, v6, hl6, rfl, o6⟩
  · cases hno
  cases hl6
  obtain ⟨va6, vc6, rfl⟩ := o6.form
  have T6 := T5.only (only_of_below hb6 none)
  have P6 := P5.only (only_of_below hb6 none)
  have G6 := only_trans G5 (only_of_below hb6 none)
  have O6 := Lib.hid o6.bs.rs
  clear T5 P5 G5 hb6 o6
  go_wp2_with (refine wpList_buildTo rfl 25 _ rfl _ rfl (arr .u8 16 (Sea.hd 1)) (by kernel_rfl) ?_)
  refine (tkopen_any (Sea.hd 1) _ S w6 (Sea.hd_b8 (by omega)) O6.out (by have := HSL.out; omega) (HK.out.below (below_of_only G6))).mono ?_
  rintro e w7 ⟨hb7, q7, u7, ss7, s7, x7, k7, rfl, o7, hq7, hk7, ht7⟩
  rw [HO.out] at ht7 ⊢
  have ht7 : tic q7 ss7 s7 x7 k7 = ticA := ht7
  obtain ⟨ua7, uc7, rfl⟩ := o7.ss.form
  have F := fresh_row w7 #[.string ⟨#[]⟩, .slice none 0 0, .int .i64 0, .int .i64 0, .int .u8 0, .int .u8 0, .int .u8 0, .int .u8 0, .int .u8 0, .int .u8 0, .int .u8 0, .int .u8 0, .int .u8 0, .int .u8 0, .int .u8 0, .int .u8 0, .int .u8 0, .int .u8 0, .int .u8 0, .int .u8 0] (tk q7 (.slice ua7 ss7.length uc7) s7 x7 k7) 27
  have Q8 : Tb _ w7.heap.size q7 _ ss7 s7 x7 k7 := ⟨F.1, o7.ss.only F.2, hq7, hk7⟩
  have T8 := (T6.only (only_of_below hb7 none)).only F.2
  have HU7 := Lib.hid (show ∀ g, (Value.slice ua7 ss7.length uc7).ownBlock = some g → g ≠ b1 from fun g e => by have := (o7.lt g e).1; have := T6.1.lt; omega)
  have h17 : b1 ≠ w7.heap.size := Nat.ne_of_lt (T6.only (only_of_below hb7 none)).1.lt
  have P8 := (P6.only (only_of_below hb7 none)).only F.2
  have G8 := only_trans (only_trans G6 (only_of_below hb7 none)) F.2
  have O8 := Lib.hid ((O6.out.below hb7).below (below_of_only F.2))
  clear T6 P6 G6 O6 o7
  go_upto_region 6 with (refine wpList_store_rowTo rfl _ _ _ rfl rfl w7.heap.size _ rfl rfl _ _ (heap_alloc_new _ _) (info_tk _ _ _ _ _) (by rw [tk_size]; rfl) (tk_one _ _ _ _ _ rfl) ?_)
  generalize World.setRow _ w7.heap.size _ = W8 at *
  generalize w7.heap.size = b7 at *
  clear F hb7
  go_wp2_with (refine wpList_buildTo rfl 25 _ rfl _ rfl (arr .u8 16 (Sea.hd 2)) (by kernel_rfl) ?_)
  refine (tkopen_any (Sea.hd 2) _ S W8 (Sea.hd_b8 (by omega)) O8.out (by have := HSL.out; omega) (HK.out.below (below_of_only G8))).mono ?_
  rintro e w9 ⟨hb9, q9, u9, ss9, s9, x9, k9, rfl, o9, hq9, hk9, ht9⟩
  rw [HN.out]
  obtain ⟨ua9, uc9, rfl⟩ := o9.ss.form
  have F := fresh_row w9 #[.string ⟨#[]⟩, .slice none 0 0, .int .i64 0, .int .i64 0, .int .u8 0, .int .u8 0, .int .u8 0, .int .u8 0, .int .u8 0, .int .u8 0, .int .u8 0, .int .u8 0, .int .u8 0, .int .u8 0, .int .u8 0, .int .u8 0, .int .u8 0, .int .u8 0, .int .u8 0, .int .u8 0] (tk q9 (.slice ua9 ss9.length uc9) s9 x9 k9) 27
  have T10 := (T8.only (only_of_below hb9 none)).only F.2
  have P10 := (P8.only (only_of_below hb9 none)).only F.2
  have Q10 := (Q8.only (only_of_below hb9 none)).only F.2
  have G10 := only_trans (only_trans G8 (only_of_below hb9 none)) F.2
  clear T8 P8 Q8 G8 O8 o9 ht9
  go_upto_region 7 with (refine wpList_store_rowTo rfl _ _ _ rfl rfl w9.heap.size _ rfl rfl _ _ (heap_alloc_new _ _) (info_tk _ _ _ _ _) (by rw [tk_size]; rfl) (tk_one _ _ _ _ _ rfl) ?_)
  generalize World.setRow _ w9.heap.size _ = W10 at *
  clear F hb9
  have c2 := T10.c2
  have f2 := T10.1.frozen 2
  have T11 := T10.start HU1.out 10
  have P11 := P10.far (p := ⟨b1, 2, none⟩) (fun e => h14 e.symm) HU4.out (.int .i64 10)
  have Q11 := Q10.far (p := ⟨b1, 2, none⟩) (fun e => h17 e.symm) HU7.out (.int .i64 10)
  have hgb : w.heap.size ≤ b1 := HW1.out
  have G11 : w.grownBy (W10.setCell ⟨b1, 2, none⟩ (.int .i64 10)) none := fresh_set G10 hgb _
  have HSM := Lib.hid (tsame_of (ht7.trans ht4.symm))
  have p2 := P11.c2
  go_upto_region 8 with fail
  clear T10 P10 Q10 G10 c2 f2
  generalize W10.setCell ⟨b1, 2, none⟩ (.int .i64 10) = W11 at *
  go_wp2_with (first | refine wpList_load_rowG (by kernel_rfl) _ _ rfl b7 rfl _ _ (0, 0) _ Q11.1 rfl rfl (info_tk _ _ _ _ _) ?_ | refine wpList_load_rowG (by kernel_rfl) _ _ rfl b4 rfl _ _ (0, 0) _ P11.1 rfl rfl (info_tk _ _ _ _ _) ?_)
  refine (tksame_any q7 q4 _ _ ss7 ss4 s7 x7 5 x4 k7 k4 W11 hq7 hq4 hk7 hk4 Q11.2.1 P11.2.1).mono ?_
  rintro e w12 ⟨rfl, g12⟩
  rw [HSM.out]
  have T12 := T11.only g12
  have G12 := only_trans G11 g12
  clear T11 P11 Q11 G11 g12 p2
  go_wp2_with (refine wpList_load_rowG (by kernel_rfl) _ _ rfl b1 rfl _ _ (0, 0) _ T12.1 rfl rfl (info_tk _ _ _ _ _) ?_)
  refine (tkvalid_any aliceS _ [hostS] 10 9 (Sea.hd 7) w12 hal T12.2.1).mono ?_
  rintro e w13 ⟨rfl, g13⟩
  have hnv : Tic.valid (tic aliceS [hostS] 10 9 (Sea.hd 7)) = false := by
    unfold Tic.valid tic
    simp
  rw [hnv]
  have G13 := only_trans G12 g13
  go_wp2_with fail
  go_ret
  exact ⟨rfl, below_of_only G13⟩
end Go.Proofs.YtnhchdkchohnbaaDoor
