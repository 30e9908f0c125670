/- Laws of layers 11 to 13 that the laws of requests use beside the texts before. -/
import Derived.Test.YtnhchdkchohnbaaGreatDoorReqH
import Derived.Test.YtnhchdkchohnbaaGreatDoorAutO
namespace Go.Proofs.YtnhchdkchohnbaaGreatDoor
open Go.RowKit Go.Deep
open Go.RowKit Go.WideShapes Go.ChangeShapes
-- TM1
theorem sameArr_yes {n : Nat} {f g : Nat → Nat} (h : ∀ i, i < n → f i = g i) : sameArr n f g = true := by
  unfold sameArr; rw [List.all_eq_true]; intro i hi; rw [beq_iff_eq]; exact h i (by simpa using hi)
-- TM4
theorem below_then {a b c : World} (h : Below a.heap.size a b) (k : Below b.heap.size b c) : Below a.heap.size a c := h.trans (k.mono h.size)
-- TN2
def few (r : ByteArray) (ss : List ByteArray) : Bool := decide (r.size ≤ 300 ∧ ss.length ≤ 20 ∧ ∀ i, i < ss.length → (ss.getD i ByteArray.empty).size ≤ 300)
set_option maxRecDepth 100000 in
set_option maxHeartbeats 1000000 in
theorem few_any (r : ByteArray) (v : Value) (ss : List ByteArray) (w : World) (h : Ss w v ss) (hr : r.size ≤ maxLen) :
    Calls Tryz.prog 42 #[.agg #[.string r, v]] w fun e w' => e = .returned (.bool (few r ss)) ∧ w.grownBy w' none := by
  obtain ⟨a, cap, rfl⟩ := h.form
  have H := Lib.hid h; clear h
  have hn := H.out.len
  unfold maxLen at hr
  go_enter Tryz.func42, Tryz.ntmps42
  go_wp2_with fail
  go_loopw [3] (fun x wr => ∃ j : Nat, j ≤ ss.length ∧ x = .int .i64 j ∧ w.grownBy wr none ∧ Hb wr w.heap.size #[.string r, .slice a ss.length cap] 29 ∧ ∀ i, i < j → (ss.getD i ByteArray.empty).size ≤ 300) (fun x _ => ss.length - (intOf x).toNat)
  case atStart => exact ⟨0, Nat.zero_le _, rfl, only_alloc (only_refl w none) _, Hb.new _ _ _, fun i hi => by omega⟩
  case round =>
    obtain ⟨j, hj, rfl, hg, hb, hall⟩ := hrel
    have a0 := hb.cell (i := 0) rfl
    have a1 := hb.cell (i := 1) rfl
    by_cases hjl : j < ss.length
    · obtain ⟨x1, o1, rfl, c1⟩ := (H.out.only hg).at hjl
      have hsz := H.out.size hjl
      unfold maxLen at hsz
      have HA := Lib.hid hall; clear hall
      generalize hs1 : ss.getD j ByteArray.empty = s1 at c1 hsz
      have HS := Lib.hid hs1; clear hs1
      by_cases h3 : s1.size ≤ 300
      · go_wp2_with fail
        all_goals first | omega | skip
        go_roundw
        case rel =>
          refine ⟨j + 1, by omega, by go_num, hg, hb, fun i hi => ?_⟩
          by_cases e : i = j
          · subst e; rw [HS.out]; exact h3
          · exact HA.out i (by omega)
        case measure => simp [intOf]; omega
      · have HF := Lib.hid (show few r ss = false from decide_eq_false (fun h => h3 (by have := h.2.2 j hjl; rwa [HS.out] at this)))
        go_wp2_with fail
        all_goals first | omega | skip
        all_goals (go_ret; exact ⟨by rw [HF.out]; rfl, hg⟩)
    · have hall2 : ∀ i, i < ss.length → (ss.getD i ByteArray.empty).size ≤ 300 := fun i hi => hall i (by omega)
      have HF := Lib.hid (show few r ss = (decide ((r.size : Int) ≤ 300) && decide ((ss.length : Int) ≤ 20)) by
        unfold few
        rw [Bool.eq_iff_iff]
        simp only [Bool.and_eq_true, decide_eq_true_eq]
        constructor
        · intro h; omega
        · intro h; exact ⟨by omega, by omega, hall2⟩)
      clear hall hall2
      go_wp2_with fail
      all_goals first | omega | skip
      all_goals (go_ret; refine ⟨congrArg (fun b : Bool => Ending.returned (.bool b)) ?_, hg⟩; rw [HF.out]; clear HF; simp; try omega)
-- TicA
def tsame (r : ByteArray) (ss : List ByteArray) (s e : Int) (key : Nat → Nat) (q : ByteArray) (tt : List ByteArray) (s' e' : Int) (key' : Nat → Nat) : Bool := decide (r = q ∧ ss = tt) && decide (s = s') && decide (e = e') && sameArr 16 key key'
theorem tsame_of {r q : ByteArray} {ss tt : List ByteArray} {s e s' e' : Int} {key key' : Nat → Nat} (h : tic r ss s e key = tic q tt s' e' key') : tsame r ss s e key q tt s' e' key' = true := by
  unfold tic at h
  simp only [Tic.T.mk.injEq] at h
  obtain ⟨h1, rfl, rfl, h4⟩ := h
  obtain ⟨rfl, rfl⟩ := nm_inj.1 h1
  unfold tsame
  simp only [and_self, decide_true, Bool.true_and]
  refine sameArr_yes fun i hi => ?_
  have : (Sea.nl 16 key).getD i 0 = (Sea.nl 16 key').getD i 0 := congrArg (fun l : List Nat => l.getD i 0) h4
  rwa [Sea.nl_get _ _ _ hi, Sea.nl_get _ _ _ hi] at this

set_option maxRecDepth 100000 in
set_option maxHeartbeats 2000000 in
theorem reftkvalid_any (r : ByteArray) (u : Value) (ss : List ByteArray) (s e : Int) (key : Nat → Nat) (w : World) (hr : r.size ≤ maxLen) (h : Ss w u ss) :
    Calls Tryz.prog 16 #[.agg (tk r u s e key)] w fun x w' => x = .returned (.bool (Tic.valid (tic r ss s e key))) ∧ w.grownBy w' none := by
  have hsz := tk_size r u s e key
  have hb := Hb.new w (tk r u s e key) 41
  have c0 := hb.cell (tk_0 r u s e key)
  have c1 := hb.cell (tk_1 r u s e key)
  have G0 := only_alloc (only_refl w none) (.cells (tk r u s e key) 41)
  obtain ⟨ua, uc, rfl⟩ := h.form
  have H := Lib.hid h; clear h
  generalize hR : Tic.valid (tic r ss s e key) = R
  have HR := Lib.hid (show (Nam.valid (nm r ss) && decide (0 ≤ s) && decide (s ≤ e) && decide (e ≤ 1099511627776)) = R from hR)
  clear hR
  go_enter Tryz.func16, Tryz.ntmps16
  go_wp2_with fail
  refine (refvalid_any r hr _ ss _ (H.out.only G0)).mono ?_
  rintro x w1 ⟨rfl, g1⟩
  have G1 := only_trans G0 g1
  have h1 := hb.only g1
  have c2 := h1.cell (tk_2 _ _ _ _ _)
  have c3 := h1.cell (tk_3 _ _ _ _ _)
  clear hb c0 c1
  cases hv : Nam.valid (nm r ss)
  all_goals (
    rw [hv] at HR
    go_wp2_with fail
    all_goals (
      go_ret
      refine ⟨?_, G1⟩
      rw [← HR.out]
      first | rfl | (congr 2; done) | (congr 2; simp; done) | (congr 2; simp; omega) | (congr 2; simp; intros; omega)))

set_option maxRecDepth 100000 in
set_option maxHeartbeats 2000000 in
theorem reftksame_any (r q : ByteArray) (u v : Value) (ss tt : List ByteArray) (s e s' e' : Int) (key key' : Nat → Nat) (w : World) (hr : r.size ≤ maxLen) (hq : q.size ≤ maxLen) (hk : Aes.B8 key) (hk' : Aes.B8 key') (hu : Ss w u ss) (hv : Ss w v tt) :
    Calls Tryz.prog 21 #[.agg (tk r u s e key), .agg (tk q v s' e' key')] w fun x w' => x = .returned (.bool (tsame r ss s e key q tt s' e' key')) ∧ w.grownBy w' none := by
  have hsz := tk_size r u s e key
  have hsz' := tk_size q v s' e' key'
  have TA := (Tb.new (s := s) (e := e) hu hr hk).alloc (.cells (tk q v s' e' key') 41)
  have G0 := only_alloc (only_refl w none) (.cells (tk r u s e key) 41)
  have TB := Tb.new (s := s') (e := e') (hv.only G0) hq hk'
  have G1 := only_alloc G0 (.cells (tk q v s' e' key') 41)
  simp only [World.size_alloc] at TB
  obtain ⟨ua, uc, rfl⟩ := hu.form
  obtain ⟨va, vc, rfl⟩ := hv.form
  generalize hR : tsame r ss s e key q tt s' e' key' = R
  have HR := Lib.hid (show (decide (r = q ∧ ss = tt) && decide (s = s') && decide (e = e') && sameArr 16 key key') = R from hR)
  clear hu hv hR
  have c0 := TA.c0
  have c1 := TA.c1
  have d0 := TB.c0
  have d1 := TB.c1
  go_enter Tryz.func21, Tryz.ntmps21
  go_wp2_with fail
  refine (refsame_name r q _ _ ss tt _ TA.2.1 TB.2.1).mono ?_
  rintro x w1 ⟨rfl, g1⟩
  have G2 := only_trans G1 g1
  have TA1 := TA.only g1
  have TB1 := TB.only g1
  have c2 := TA1.c2
  have c3 := TA1.c3
  have d2 := TB1.c2
  have d3 := TB1.c3
  have CK := Lib.hid TA1.ck
  have DK := Lib.hid TB1.ck
  clear TA TB TA1 TB1 c0 c1 d0 d1
  have heq : ∀ W : World, (Op.equalIn 10000 22 (.agg (arr .u8 16 key)) (.agg (arr .u8 16 key'))).run Tryz.prog W = .ok (sameArr 16 key key') W := fun W => run_equalIn_arr (P := Tryz.prog) (k := .u8) (n := 16) W key key' Tryz.underlying22 Tryz.underlying5 (by kernel_rfl)
  generalize sameArr 16 key key' = b at heq HR
  cases hd : decide (r = q ∧ ss = tt)
  all_goals (
    rw [hd] at HR
    go_wp2_with (first | refine wpList_load_arrG (by kernel_rfl) _ _ rfl ⟨w.heap.size, 4, none⟩ rfl _ _ CK.out rfl rfl (info16s _) ?_ | refine wpList_load_arrG (by kernel_rfl) _ _ rfl ⟨w.heap.size + 1, 4, none⟩ rfl _ _ DK.out rfl rfl (info16s _) ?_)
    all_goals (
      go_ret
      refine ⟨?_, G2⟩
      rw [← HR.out]
      first | rfl | (congr 2; done) | (congr 2; simp; done) | (congr 2; simp_all; done) | (congr 2; simp; omega) | (congr 2; simp; intros; omega)))
-- TicG
set_option maxRecDepth 100000 in
theorem reftkfew_any (r : ByteArray) (u : Value) (ss : List ByteArray) (s e : Int) (key : Nat → Nat) (w : World) (hr : r.size ≤ maxLen) (h : Ss w u ss) :
    Calls Tryz.prog 13 #[.agg (tk r u s e key)] w fun x w' => x = .returned (.bool (few r ss)) ∧ w.grownBy w' none := by
  have hsz := tk_size r u s e key
  have hb := Hb.new w (tk r u s e key) 41
  have c0 := hb.cell (tk_0 r u s e key)
  have c1 := hb.cell (tk_1 r u s e key)
  have G0 := only_alloc (only_refl w none) (.cells (tk r u s e key) 41)
  obtain ⟨ua, uc, rfl⟩ := h.form
  have H := Lib.hid h; clear h
  go_enter Tryz.func13, Tryz.ntmps13
  go_wp2_with fail
  refine (few_any r _ ss _ (H.out.only G0) hr).mono ?_
  rintro x w1 ⟨rfl, g1⟩
  have G1 := only_trans G0 g1
  go_wp2_with fail
  go_ret
  exact ⟨rfl, G1⟩
-- AutA
theorem refauvalid_any (r : ByteArray) (u : Value) (ss : List ByteArray) (t : Int) (m s : Nat) (w : World) (hr : r.size ≤ maxLen) (h : Ss w u ss) :
    Calls Tryz.prog 17 #[.agg (au r u t m s)] w fun x w' => x = .returned (.bool (Aut.valid (aut r ss t m s))) ∧ w.grownBy w' none := by
  have hsz := au_size r u t m s
  have hb := Hb.new w (au r u t m s) 32
  have c0 := hb.cell (au_0 r u t m s)
  have c1 := hb.cell (au_1 r u t m s)
  have G0 := only_alloc (only_refl w none) (.cells (au r u t m s) 32)
  obtain ⟨ua, uc, rfl⟩ := h.form
  have H := Lib.hid h; clear h
  generalize hR : Aut.valid (aut r ss t m s) = R
  have HR := Lib.hid (show (Nam.valid (nm r ss) && decide (0 ≤ t) && decide (t ≤ 1099511627776) && decide (m ≤ 999999)) = R from hR)
  clear hR
  go_enter Tryz.func17, Tryz.ntmps17
  go_wp2_with fail
  refine (refvalid_any r hr _ ss _ (H.out.only G0)).mono ?_
  rintro x w1 ⟨rfl, g1⟩
  have G1 := only_trans G0 g1
  have h1 := hb.only g1
  have c2 := h1.cell (au_2 _ _ _ _ _)
  have c3 := h1.cell (au_3 _ _ _ _ _)
  clear hb c0 c1
  cases hv : Nam.valid (nm r ss)
  all_goals (
    rw [hv] at HR
    go_wp2_with fail
    all_goals (
      go_ret
      refine ⟨?_, G1⟩
      rw [← HR.out]
      refine congrArg (fun b => Ending.returned (Value.bool b)) (?_ : (_ : Bool) = _)
      first | rfl | (simp; done) | (simp_all; done) | (simp; omega) | (simp; intros; omega) | (rw [Bool.eq_iff_iff]; simp; omega) | (rw [Bool.eq_iff_iff]; simp_all; omega) | (rw [Bool.eq_iff_iff]; simp; intros; omega)))

set_option maxRecDepth 100000 in
set_option maxHeartbeats 2000000 in
-- AutF
theorem refaufew_any (r : ByteArray) (u : Value) (ss : List ByteArray) (t : Int) (m s : Nat) (w : World) (hr : r.size ≤ maxLen) (h : Ss w u ss) :
    Calls Tryz.prog 14 #[.agg (au r u t m s)] w fun x w' => x = .returned (.bool (few r ss)) ∧ w.grownBy w' none := by
  have hsz := au_size r u t m s
  have hb := Hb.new w (au r u t m s) 32
  have c0 := hb.cell (au_0 r u t m s)
  have c1 := hb.cell (au_1 r u t m s)
  have G0 := only_alloc (only_refl w none) (.cells (au r u t m s) 32)
  obtain ⟨ua, uc, rfl⟩ := h.form
  have H := Lib.hid h; clear h
  go_enter Tryz.func14, Tryz.ntmps14
  go_wp2_with fail
  refine (few_any r _ ss _ (H.out.only G0) hr).mono ?_
  rintro x w1 ⟨rfl, g1⟩
  have G1 := only_trans G0 g1
  go_wp2_with fail
  go_ret
  exact ⟨rfl, G1⟩
set_option maxRecDepth 100000 in
section
open Go.RowKit Go.Deep Go.ChangeShapes Go.WideShapes
variable {H : Type} {enc : TypeId × Value → H} {w : World}
-- AutG
set_option maxRecDepth 100000 in
theorem open_auth {r : Reach} {b0 : Nat} {v : Value} {d : DataW H} {p : List MemPlace} (hv : Value.okWide Tryz.prog w r b0 32 v)
    (h : DataW.Trod enc Tryz.prog w 0 (fun _ => true) true 32 v d p) : ∃ (q : ByteArray) (u : Value) (ss : List ByteArray) (t : Int) (m s : Nat), v = .agg (au q u t m s) ∧ q.size ≤ maxLen ∧ Ss w u ss ∧ (Lit.int .i64 t).wf = true ∧ m < 4294967296 ∧ s < 4294967296 := by
  obtain ⟨cs, rfl, hsz⟩ := okWide_struct Tryz.underlying32 hv
  obtain ⟨fuel, hf⟩ := h
  have hC : Tryz.prog.cellsOf 32 = 5 := by kernel_rfl
  rw [hC] at hsz
  obtain ⟨l⟩ := cs
  obtain ⟨c0, c1, c2, c3, c4, rfl⟩ : ∃ a b c d e, l = [a, b, c, d, e] := by
    match l, hsz with
    | [a, b, c, d, e], _ => exact ⟨a, b, c, d, e, rfl⟩
  obtain ⟨y0, y1, y2, y3, n, _, _, h0, h1, h2, h3⟩ := Joins.trod_struct4 Tryz.underlying32 hf
  have e2 : Tryz.prog.cellsOf 29 = 2 := by kernel_rfl
  have e1 : Tryz.prog.cellsOf 2 = 1 := by kernel_rfl
  have e3 : Tryz.prog.cellsOf 30 = 1 := by kernel_rfl
  dsimp only at h0 h1 h2 h3
  rw [e2] at h0
  rw [e1] at h1
  rw [e3] at h2 h3
  have k0 : DataW.trod enc Tryz.prog w 0 (fun _ => true) true n 29 [c0, c1] = some y0 := h0
  have k1 : DataW.trod enc Tryz.prog w 0 (fun _ => true) true n 2 [c2] = some y1 := h1
  have k2 : DataW.trod enc Tryz.prog w 0 (fun _ => true) true n 30 [c3] = some y2 := h2
  have k3 : DataW.trod enc Tryz.prog w 0 (fun _ => true) true n 30 [c4] = some y3 := h3
  clear h0 h1 h2 h3 hf hv
  obtain ⟨q, ss, rfl, hq, hss⟩ := name_of k0
  obtain ⟨t, ht, _, wt⟩ := DataW.trod_int Tryz.underlying2 k1
  obtain ⟨m, hm, _, wm⟩ := DataW.trod_int Tryz.underlying30 k2
  obtain ⟨s, hs, _, ws⟩ := DataW.trod_int Tryz.underlying30 k3
  simp at ht hm hs
  subst ht hm hs
  have bm := bounds_u32 wm
  have bs := bounds_u32 ws
  obtain ⟨m, rfl⟩ := Int.eq_ofNat_of_zero_le bm.1
  obtain ⟨s, rfl⟩ := Int.eq_ofNat_of_zero_le bs.1
  exact ⟨q, c1, ss, t, m, s, rfl, hq, hss, wt, by omega, by omega⟩
end
end Go.Proofs.YtnhchdkchohnbaaGreatDoor
