/- A code is right exactly if it has 16 to 32 bytes, and that of the bytes begins with it: for all byte slices and numbers the law returns true. The variable sha.constants reads as the program's text lays it. -/
import Derived.Test.YtgalddnblciciaaDoorMacKit
namespace Go.Proofs.YtgalddnblciciaaDoor
open Go.ChangeShapes Go.WideShapes Go.ChangeAt Go.RowKit Go.Deep

namespace Mac
/-- The bytes that are tried: the code and a 7. -/
def c33 (f : Nat → Nat) : List Nat := (List.range 32).map f ++ [7]
theorem c33_length (f : Nat → Nat) : (c33 f).length = 33 := by simp [c33]
theorem c33_take (f : Nat → Nat) (r : Nat) (h : r ≤ 32) : (c33 f).take r = (List.range r).map f := by
  unfold c33
  rw [List.take_append_of_le_length (by simpa using h), ← List.map_take, List.take_range, Nat.min_eq_left h]
theorem ok_out (key code msg : List Nat) (h : code.length < 16 ∨ 32 < code.length) : ok key code msg = false := by
  unfold ok
  rw [decide_eq_false (by omega)]; rfl
theorem ok_in (key code msg : List Nat) (h : 16 ≤ code.length ∧ code.length ≤ 32) : ok key code msg = sameB code ((List.range code.length).map (hm key msg)) := by
  unfold ok
  rw [decide_eq_true h]; rfl
theorem set_same (l : List Nat) (q c : Nat) (h : q < l.length) : sameB (l.set q c) l = (c == l.getD q 0) := by
  unfold sameB
  rw [Bool.eq_iff_iff, decide_eq_true_eq, beq_iff_eq]
  constructor
  · intro e
    have := congrArg (fun m => m.getD q 0) e
    simpa [List.getD, h] using this
  · intro e
    rw [e]
    simp [List.getD, h]
end Mac

theorem macChecks_long (w : World) (u : Value) (key : List Nat) (hu : Rs w u key) (v : Value) (b : List Nat) (hv : Rs w v b) (n at_ c : Int) (hn : 200 < key.length ∨ 500 < b.length) (hK : Consts w Sha.tab) :
    Calls Tryd.prog 9 #[u, v, .int .u8 n, .int .u8 at_, .int .u8 c] w (RetBool true w) := by
  obtain ⟨a, ac, rfl⟩ := hu.form
  obtain ⟨d, dc, rfl⟩ := hv.form
  have HK := Lib.hid hK; clear hK
  have hlb := hu.len
  have hmb := hv.len
  have akey := mac_key HK
  by_cases h5 : 200 < key.length
  · have d1 : decide ((200 : Int) < (key.length : Int)) = true := by simp; omega
    go_enter Tryd.func9, Tryd.ntmps9
    go_wp2_with fail
    refine (akey _ (Below.refl _ _)).mono ?_
    rintro e w1 ⟨rfl, hb1⟩
    have B1 := Lib.hid hb1; clear hb1
    go_wp2_with fail
    refine (akey _ B1.out).mono ?_
    rintro e w2 ⟨rfl, hb2⟩
    have B2 := Lib.hid hb2; clear hb2
    go_wp2_with fail
    go_ret
    exact ⟨rfl, B2.out⟩
  · have d1 : decide ((200 : Int) < (key.length : Int)) = false := by simp; omega
    have d2 : decide ((500 : Int) < (b.length : Int)) = true := by simp; omega
    go_enter Tryd.func9, Tryd.ntmps9
    go_wp2_with fail
    refine (akey _ (Below.refl _ _)).mono ?_
    rintro e w1 ⟨rfl, hb1⟩
    have B1 := Lib.hid hb1; clear hb1
    go_wp2_with fail
    refine (akey _ B1.out).mono ?_
    rintro e w2 ⟨rfl, hb2⟩
    have B2 := Lib.hid hb2; clear hb2
    go_wp2_with fail
    go_ret
    exact ⟨rfl, B2.out⟩

set_option maxRecDepth 100000 in
set_option maxHeartbeats 4000000 in
theorem macChecks_in (w : World) (u : Value) (key : List Nat) (hu : Rs w u key) (hk2 : key.length ≤ 200) (v : Value) (b : List Nat) (hv : Rs w v b) (hb2 : b.length ≤ 500) (n : Nat) (hn : n < 256) (at_ : Nat) (ha : at_ < 256) (c : Nat) (hc : c < 256) (hr : 16 ≤ n % 34 ∧ n % 34 ≤ 32) (hK : Consts w Sha.tab) :
    Calls Tryd.prog 9 #[u, v, .int .u8 n, .int .u8 at_, .int .u8 c] w (RetBool true w) := by
  have RU := Lib.hid hu
  have RV := Lib.hid hv
  obtain ⟨ua, uc, rfl⟩ := hu.form
  obtain ⟨va, vc, rfl⟩ := hv.form
  have HK := Lib.hid hK; clear hK hu hv
  have d1 : decide ((200 : Int) < (key.length : Int)) = false := by simp; omega
  have d2 : decide ((500 : Int) < (b.length : Int)) = false := by simp; omega
  have hi32 : ∀ f, ((Tryd.prog).info? 26).map (·.size) = some (arr .u8 32 f).size := by intro f; rw [arr_size]; rfl
  obtain ⟨r, hrn⟩ : ∃ r : Nat, (n : Int) % 34 = (r : Int) := ⟨n % 34, by omega⟩
  have hr33 : r ≤ 33 := by omega
  have hR : 16 ≤ r ∧ r ≤ 32 := by omega
  have p1 : decide ((16 : Int) ≤ (r : Int)) = true := by simp; omega
  have p2 : decide ((r : Int) ≤ (32 : Int)) = true := by simp; omega
  have pz : ((r : Int) == 0) = false := by simp; omega
  have hr16 : 16 ≤ r := by omega
  have hr32 : r ≤ 32 := by omega
  obtain ⟨f, hf⟩ : ∃ f, f = Mac.hm key b := ⟨_, rfl⟩
  have hf8 : ∀ i, f i < 256 := fun i => by rw [hf]; exact Mac.hm_lt _ _ i
  have OK : ∀ code, Mac.ok key code b = (decide (16 ≤ code.length ∧ code.length ≤ 32) && sameB code ((List.range code.length).map f)) := fun code => by rw [hf]; unfold Mac.ok; rfl
  have S2 : ∀ w1, Below w.heap.size w w1 → Calls Tryd.prog 30 #[.slice ua key.length uc, .slice va b.length vc] w1 fun e w2 => e = .returned (.agg (arr .u8 32 f)) ∧ Below w1.heap.size w1 w2 := fun w1 hb => by
    rw [hf]
    exact refmac_any key b _ _ _ (RU.out.below hb) (by omega) (RV.out.below hb) (by omega)
  have C1 : ∀ w1 cv lv code, Below w.heap.size w w1 → Rs w1 cv code → Bss w1 lv [b] → Calls Tryd.prog 31 #[.slice ua key.length uc, cv, lv] w1 fun e w2 => e = .returned (.bool (Mac.ok key code b)) ∧ Below w1.heap.size w1 w2 := fun w1 cv lv code hb hcv hlv => by
    have := check_any key code (.slice ua key.length uc) cv lv [b] w1 (RU.out.below hb) (by omega) hcv hlv (by simp [Wir.join]; omega) (by simp) (HK.out.below hb)
    rwa [show Wir.join [b] = b by simp [Wir.join]] at this
  have HOK := Lib.hid OK
  have F8 := Lib.hid hf8
  clear hf OK hf8 hr hR
  go_enter Tryd.func9, Tryd.ntmps9
  go_wp2_with fail
  refine (macAwake_any _ HK.out).mono ?_
  rintro e w1 ⟨rfl, hb1⟩
  have B1 := Lib.hid hb1; clear hb1
  go_wp2_with fail
  refine (S2 _ B1.out).mono ?_
  rintro e w3 ⟨rfl, hb3⟩
  go_upto_region 4 with (refine wpList_store_rowTo rfl _ _ _ rfl rfl w3.heap.size _ rfl rfl _ _ (heap_alloc_new _ _) (hi32 _) (by rw [arr_size]; rfl) (arr_one _ _ _) ?_; generalize hV : World.setRow _ w3.heap.size _ = V)
  have hbV : Below w1.heap.size w1 V := by rw [← hV]; exact below_setRow (hb3.alloc hb3.size _) hb3.size _
  have hA : isArr V w3.heap.size 26 .u8 32 f := by rw [← hV]; exact setRow_heap _ _ _ _ _ _ (heap_alloc_new _ _)
  have hRA : Rs V (.slice (some ⟨w3.heap.size, 0, none⟩) 32 32) ((List.range 32).map f) := rs_arr hA (fun i _ => F8.out i) (by omega)
  have VB := Lib.hid (B1.out.trans (hbV.mono B1.out.size))
  have VA := Lib.hid (And.intro hRA hA)
  have hzV := VB.out.size
  clear hV hb3 hbV hA hRA B1
  generalize w3.heap.size = ga at VA ⊢
  go_upto_region 5 with (first | (at_builtin; refine wpList_append_rs rfl (.tmp 32) (.tmp 33) rfl V.heap.size _ [] rfl (own_built V V.heap.size [] AllB.nil (Nat.le_refl _) (by simp)) _ ((List.range 32).map f) rfl (VA.out.1.below ((Below.refl _ _).alloc (Nat.le_refl _) _)) (by simp) (by simp) ?_; intro v4 w4 h4 g4; have hb4 : Below V.heap.size V w4 := below_only ((Below.refl _ _).alloc (Nat.le_refl _) _) (Nat.le_refl _) g4 (fun g hg => ((own_built V V.heap.size [] AllB.nil (Nat.le_refl _) (by simp)).lt g hg).1); have Q4 := Lib.hid (And.intro h4 hb4); clear h4 g4 hb4) | (at_builtin; go_must (refine wpList_append_rs rfl (.tmp 34) (.tmp 35) rfl V.heap.size _ _ rfl (Q4.out.1.alloc _) _ [7] rfl (rs_built_at w4 _ rfl [7] (AllB.one (by omega)) (by simp)) (by simp) (by have := Q4.out.2.size; simp; omega) ?_; intro v5 w5 h5 g5; have hb5 : Below V.heap.size V w5 := below_only (Q4.out.2.alloc Q4.out.2.size _) (Nat.le_refl _) g5 (fun g hg => (Q4.out.1.lt g hg).1); have Q5 := Lib.hid (And.intro h5 hb5); clear h5 g5 hb5)))
  rcases Q5.out.1.cases with ⟨_, h'⟩ | ⟨g, cp, rfl, hg1, hg2, hl1, hl2, hcell, hfro⟩
  · simp at h'
  have e33 : (([] ++ (List.range 32).map f) ++ [7]) = Mac.c33 f := by simp [Mac.c33]
  have Q := Lib.hid Q5.out
  rw [e33] at Q hcell
  rw [e33, Mac.c33_length] at hl1
  have hlen : (([] ++ (List.range 32).map f) ++ [7]).length = 33 := by simp
  rw [hlen]
  have hcp : (33 : Int) ≤ (cp : Int) := by omega
  have RT : ∀ w', Below w5.heap.size w5 w' → Rs w' (.slice (some ⟨g, 0, none⟩) r cp) ((Mac.c33 f).take r) := fun w' hb => by
    have h1 : Own w5 V.heap.size (.slice (some ⟨g, 0, none⟩) (Mac.c33 f).length cp) (Mac.c33 f) := Q.out.1
    have := bs_take h1.bs (n := r) (cap' := cp) (by rw [Mac.c33_length]; exact hr33) (by omega) hl2
    exact (this.below hb).rs
  have HCE := Lib.hid (fun i (hi : i < 33) => hcell i (by rw [Mac.c33_length]; exact hi))
  have HFR := Lib.hid hfro
  have W5 := Lib.hid (VB.out.trans (Q.out.2.mono VB.out.size))
  have hz5 := W5.out.size
  clear Q5 Q4 hcell hfro e33 hlen VA
  have tl : ((Mac.c33 f).take r).length = r := by rw [List.length_take, Mac.c33_length]; omega
  have ok1 : Mac.ok key ((Mac.c33 f).take r) b = true := by
    rw [HOK.out, tl]
    rw [decide_eq_true ⟨hr16, hr32⟩, Mac.c33_take f r hr32, sameB_yes rfl]; rfl
  have TL := Lib.hid tl; clear tl
  have OK1 := Lib.hid ok1; clear ok1
  go_upto_region 7 with fail
  go_wp2_with fail
  refine (C1 _ _ _ _ (W5.out.alloc W5.out.size _) (RT _ ((Below.refl _ _).alloc (Nat.le_refl _) _)) (bss_one (RV.out.below W5.out))).mono ?_
  rintro e w6 ⟨rfl, hb6⟩
  rw [OK1.out]
  have h56 : Below w5.heap.size w5 w6 := ((Below.refl _ _).alloc (Nat.le_refl _) (.cells #[.slice va b.length vc] 24)).trans (hb6.mono (by simp))
  have W6 := Lib.hid (W5.out.trans (h56.mono W5.out.size))
  have X6 := Lib.hid h56
  have hz6 := W6.out.size
  clear hb6 h56

  obtain ⟨q, hq⟩ : ∃ q : Nat, (at_ : Int) % (r : Int) = (q : Int) := ⟨at_ % r, by simp⟩
  have hqr : q < r := by
    have h1 := Nat.mod_lt at_ (show 0 < r by omega)
    have h2 : (at_ : Int) % (r : Int) = ((at_ % r : Nat) : Int) := by simp
    omega
  have hOwn : Own w6 V.heap.size (.slice (some ⟨g, 0, none⟩) 33 cp) (Mac.c33 f) := by
    have h1 := Q.out.1
    rw [Mac.c33_length] at h1
    exact h1.below X6.out
  have hcq := hOwn.cellAt (i := q) (by rw [Mac.c33_length]; omega)
  have hfq := hOwn.frozenAt q
  obtain ⟨x, hx⟩ : ∃ x, x = (Mac.c33 f).getD q 0 := ⟨_, rfl⟩
  rw [← hx] at hcq
  obtain ⟨hset, hgs⟩ := hOwn.set q c hc
  have hsl : ((Mac.c33 f).set q c).length = 33 := by rw [List.length_set, Mac.c33_length]
  have hBS : Below w.heap.size w (w6.setCell ⟨g, q, none⟩ (bv c)) := below_only W6.out (Nat.le_refl _) hgs (fun g' hg' => by cases hg'; have := VB.out.size; omega)
  have RT2 : ∀ w', Below (w6.setCell ⟨g, q, none⟩ (bv c)).heap.size (w6.setCell ⟨g, q, none⟩ (bv c)) w' → Rs w' (.slice (some ⟨g, 0, none⟩) r cp) (((Mac.c33 f).set q c).take r) := fun w' hb => by
    have h1 : Own (w6.setCell ⟨g, q, none⟩ (bv c)) V.heap.size (.slice (some ⟨g, 0, none⟩) ((Mac.c33 f).set q c).length cp) ((Mac.c33 f).set q c) := by rw [hsl]; exact hset
    have := bs_take h1.bs (n := r) (cap' := cp) (by rw [hsl]; exact hr33) (by omega) hl2
    exact (this.below hb).rs
  have ok2 : Mac.ok key (((Mac.c33 f).set q c).take r) b = ((x : Int) == (c : Int)) := by
    have tl : (((Mac.c33 f).set q c).take r).length = r := by rw [List.length_take, hsl]; omega
    rw [HOK.out, tl]
    rw [decide_eq_true ⟨hr16, hr32⟩, ← Mac.c33_take f r hr32, List.take_set, Mac.set_same _ _ _ (by rw [List.length_take, Mac.c33_length]; omega)]
    rw [hx, getD_take _ _ _ hqr, Bool.true_and, Bool.eq_iff_iff, beq_iff_eq, beq_iff_eq]
    omega
  have HX := Lib.hid hx
  have OK2 := Lib.hid ok2
  have S6 := Lib.hid hBS
  have T2 := Lib.hid RT2
  clear hx hset hgs hsl hBS RT2 ok2 hOwn Q RT HCE HFR C1
  have C2 := fun w1 cv lv code (hb : Below w.heap.size w w1) (hcv : Rs w1 cv code) (hlv : Bss w1 lv [b]) => check_any key code (.slice ua key.length uc) cv lv [b] w1 (RU.out.below hb) (by omega) hcv hlv (by simp [Wir.join]; omega) (by simp) (HK.out.below hb)
  rw [show Wir.join [b] = b by simp [Wir.join]] at C2
  have qlo : (0 : Int) ≤ (q : Int) := by omega
  have qhi : (q : Int) < (r : Int) := by omega
  have esz : (w6.setCell ⟨g, q, none⟩ (bv c)).heap.size = w6.heap.size := by simp [World.setCell]
  have HB2 : Bss ((w6.setCell ⟨g, q, none⟩ (bv c)).alloc (.cells #[.slice va b.length vc] 24)) (.slice (some ⟨w6.heap.size, 0, none⟩) 1 1) [b] := by
    rw [← esz]; exact bss_one (RV.out.below S6.out)
  have HBB := Lib.hid HB2
  clear esz HB2
  go_upto_region 14 with fail
  go_wp2_with fail
  refine (C2 _ _ _ _ (S6.out.alloc S6.out.size _) (T2.out _ ((Below.refl _ _).alloc (Nat.le_refl _) _)) HBB.out).mono ?_
  rintro e w7 ⟨rfl, hb7⟩
  rw [OK2.out]
  have S7 := Lib.hid ((S6.out.alloc S6.out.size (.cells #[.slice va b.length vc] 24)).trans (hb7.mono (by have := S6.out.size; simp at this ⊢; omega)))
  clear hb7
  go_wp2_with fail
  go_ret
  exact ⟨by simp, S7.out⟩

set_option maxRecDepth 100000 in
set_option maxHeartbeats 4000000 in
theorem macChecks_out (w : World) (u : Value) (key : List Nat) (hu : Rs w u key) (hk2 : key.length ≤ 200) (v : Value) (b : List Nat) (hv : Rs w v b) (hb2 : b.length ≤ 500) (n : Nat) (hn : n < 256) (at_ : Nat) (ha : at_ < 256) (c : Nat) (hc : c < 256) (hr : n % 34 < 16 ∧ 0 < n % 34) (hK : Consts w Sha.tab) :
    Calls Tryd.prog 9 #[u, v, .int .u8 n, .int .u8 at_, .int .u8 c] w (RetBool true w) := by
  have RU := Lib.hid hu
  have RV := Lib.hid hv
  obtain ⟨ua, uc, rfl⟩ := hu.form
  obtain ⟨va, vc, rfl⟩ := hv.form
  have HK := Lib.hid hK; clear hK hu hv
  have d1 : decide ((200 : Int) < (key.length : Int)) = false := by simp; omega
  have d2 : decide ((500 : Int) < (b.length : Int)) = false := by simp; omega
  have hi32 : ∀ f, ((Tryd.prog).info? 26).map (·.size) = some (arr .u8 32 f).size := by intro f; rw [arr_size]; rfl
  obtain ⟨r, hrn⟩ : ∃ r : Nat, (n : Int) % 34 = (r : Int) := ⟨n % 34, by omega⟩
  have hr33 : r ≤ 33 := by omega
  have hR : r < 16 ∧ 0 < r := by omega
  have p1 : decide ((16 : Int) ≤ (r : Int)) = false := by simp; omega
  have pz : ((r : Int) == 0) = false := by simp; omega
  have hr16 : r < 16 := by omega
  have hr0 : 0 < r := by omega
  obtain ⟨f, hf⟩ : ∃ f, f = Mac.hm key b := ⟨_, rfl⟩
  have hf8 : ∀ i, f i < 256 := fun i => by rw [hf]; exact Mac.hm_lt _ _ i
  have OK : ∀ code, Mac.ok key code b = (decide (16 ≤ code.length ∧ code.length ≤ 32) && sameB code ((List.range code.length).map f)) := fun code => by rw [hf]; unfold Mac.ok; rfl
  have S2 : ∀ w1, Below w.heap.size w w1 → Calls Tryd.prog 30 #[.slice ua key.length uc, .slice va b.length vc] w1 fun e w2 => e = .returned (.agg (arr .u8 32 f)) ∧ Below w1.heap.size w1 w2 := fun w1 hb => by
    rw [hf]
    exact refmac_any key b _ _ _ (RU.out.below hb) (by omega) (RV.out.below hb) (by omega)
  have C1 : ∀ w1 cv lv code, Below w.heap.size w w1 → Rs w1 cv code → Bss w1 lv [b] → Calls Tryd.prog 31 #[.slice ua key.length uc, cv, lv] w1 fun e w2 => e = .returned (.bool (Mac.ok key code b)) ∧ Below w1.heap.size w1 w2 := fun w1 cv lv code hb hcv hlv => by
    have := check_any key code (.slice ua key.length uc) cv lv [b] w1 (RU.out.below hb) (by omega) hcv hlv (by simp [Wir.join]; omega) (by simp) (HK.out.below hb)
    rwa [show Wir.join [b] = b by simp [Wir.join]] at this
  have HOK := Lib.hid OK
  have F8 := Lib.hid hf8
  clear hf OK hf8 hr hR
  go_enter Tryd.func9, Tryd.ntmps9
  go_wp2_with fail
  refine (macAwake_any _ HK.out).mono ?_
  rintro e w1 ⟨rfl, hb1⟩
  have B1 := Lib.hid hb1; clear hb1
  go_wp2_with fail
  refine (S2 _ B1.out).mono ?_
  rintro e w3 ⟨rfl, hb3⟩
  go_upto_region 4 with (refine wpList_store_rowTo rfl _ _ _ rfl rfl w3.heap.size _ rfl rfl _ _ (heap_alloc_new _ _) (hi32 _) (by rw [arr_size]; rfl) (arr_one _ _ _) ?_; generalize hV : World.setRow _ w3.heap.size _ = V)
  have hbV : Below w1.heap.size w1 V := by rw [← hV]; exact below_setRow (hb3.alloc hb3.size _) hb3.size _
  have hA : isArr V w3.heap.size 26 .u8 32 f := by rw [← hV]; exact setRow_heap _ _ _ _ _ _ (heap_alloc_new _ _)
  have hRA : Rs V (.slice (some ⟨w3.heap.size, 0, none⟩) 32 32) ((List.range 32).map f) := rs_arr hA (fun i _ => F8.out i) (by omega)
  have VB := Lib.hid (B1.out.trans (hbV.mono B1.out.size))
  have VA := Lib.hid (And.intro hRA hA)
  have hzV := VB.out.size
  clear hV hb3 hbV hA hRA B1
  generalize w3.heap.size = ga at VA ⊢
  go_upto_region 5 with (first | (at_builtin; refine wpList_append_rs rfl (.tmp 32) (.tmp 33) rfl V.heap.size _ [] rfl (own_built V V.heap.size [] AllB.nil (Nat.le_refl _) (by simp)) _ ((List.range 32).map f) rfl (VA.out.1.below ((Below.refl _ _).alloc (Nat.le_refl _) _)) (by simp) (by simp) ?_; intro v4 w4 h4 g4; have hb4 : Below V.heap.size V w4 := below_only ((Below.refl _ _).alloc (Nat.le_refl _) _) (Nat.le_refl _) g4 (fun g hg => ((own_built V V.heap.size [] AllB.nil (Nat.le_refl _) (by simp)).lt g hg).1); have Q4 := Lib.hid (And.intro h4 hb4); clear h4 g4 hb4) | (at_builtin; go_must (refine wpList_append_rs rfl (.tmp 34) (.tmp 35) rfl V.heap.size _ _ rfl (Q4.out.1.alloc _) _ [7] rfl (rs_built_at w4 _ rfl [7] (AllB.one (by omega)) (by simp)) (by simp) (by have := Q4.out.2.size; simp; omega) ?_; intro v5 w5 h5 g5; have hb5 : Below V.heap.size V w5 := below_only (Q4.out.2.alloc Q4.out.2.size _) (Nat.le_refl _) g5 (fun g hg => (Q4.out.1.lt g hg).1); have Q5 := Lib.hid (And.intro h5 hb5); clear h5 g5 hb5)))
  rcases Q5.out.1.cases with ⟨_, h'⟩ | ⟨g, cp, rfl, hg1, hg2, hl1, hl2, hcell, hfro⟩
  · simp at h'
  have e33 : (([] ++ (List.range 32).map f) ++ [7]) = Mac.c33 f := by simp [Mac.c33]
  have Q := Lib.hid Q5.out
  rw [e33] at Q hcell
  rw [e33, Mac.c33_length] at hl1
  have hlen : (([] ++ (List.range 32).map f) ++ [7]).length = 33 := by simp
  rw [hlen]
  have hcp : (33 : Int) ≤ (cp : Int) := by omega
  have RT : ∀ w', Below w5.heap.size w5 w' → Rs w' (.slice (some ⟨g, 0, none⟩) r cp) ((Mac.c33 f).take r) := fun w' hb => by
    have h1 : Own w5 V.heap.size (.slice (some ⟨g, 0, none⟩) (Mac.c33 f).length cp) (Mac.c33 f) := Q.out.1
    have := bs_take h1.bs (n := r) (cap' := cp) (by rw [Mac.c33_length]; exact hr33) (by omega) hl2
    exact (this.below hb).rs
  have HCE := Lib.hid (fun i (hi : i < 33) => hcell i (by rw [Mac.c33_length]; exact hi))
  have HFR := Lib.hid hfro
  have W5 := Lib.hid (VB.out.trans (Q.out.2.mono VB.out.size))
  have hz5 := W5.out.size
  clear Q5 Q4 hcell hfro e33 hlen VA
  have tl : ((Mac.c33 f).take r).length = r := by rw [List.length_take, Mac.c33_length]; omega
  have ok1 : Mac.ok key ((Mac.c33 f).take r) b = false := by
    rw [HOK.out, tl]
    rw [decide_eq_false (by omega)]; rfl
  have TL := Lib.hid tl; clear tl
  have OK1 := Lib.hid ok1; clear ok1
  go_upto_region 7 with fail
  go_wp2_with fail
  refine (C1 _ _ _ _ (W5.out.alloc W5.out.size _) (RT _ ((Below.refl _ _).alloc (Nat.le_refl _) _)) (bss_one (RV.out.below W5.out))).mono ?_
  rintro e w6 ⟨rfl, hb6⟩
  rw [OK1.out]
  have h56 : Below w5.heap.size w5 w6 := ((Below.refl _ _).alloc (Nat.le_refl _) (.cells #[.slice va b.length vc] 24)).trans (hb6.mono (by simp))
  have W6 := Lib.hid (W5.out.trans (h56.mono W5.out.size))
  have X6 := Lib.hid h56
  have hz6 := W6.out.size
  clear hb6 h56

  obtain ⟨q, hq⟩ : ∃ q : Nat, (at_ : Int) % (r : Int) = (q : Int) := ⟨at_ % r, by simp⟩
  have hqr : q < r := by
    have h1 := Nat.mod_lt at_ (show 0 < r by omega)
    have h2 : (at_ : Int) % (r : Int) = ((at_ % r : Nat) : Int) := by simp
    omega
  have hOwn : Own w6 V.heap.size (.slice (some ⟨g, 0, none⟩) 33 cp) (Mac.c33 f) := by
    have h1 := Q.out.1
    rw [Mac.c33_length] at h1
    exact h1.below X6.out
  have hcq := hOwn.cellAt (i := q) (by rw [Mac.c33_length]; omega)
  have hfq := hOwn.frozenAt q
  obtain ⟨x, hx⟩ : ∃ x, x = (Mac.c33 f).getD q 0 := ⟨_, rfl⟩
  rw [← hx] at hcq
  obtain ⟨hset, hgs⟩ := hOwn.set q c hc
  have hsl : ((Mac.c33 f).set q c).length = 33 := by rw [List.length_set, Mac.c33_length]
  have hBS : Below w.heap.size w (w6.setCell ⟨g, q, none⟩ (bv c)) := below_only W6.out (Nat.le_refl _) hgs (fun g' hg' => by cases hg'; have := VB.out.size; omega)
  have RT2 : ∀ w', Below (w6.setCell ⟨g, q, none⟩ (bv c)).heap.size (w6.setCell ⟨g, q, none⟩ (bv c)) w' → Rs w' (.slice (some ⟨g, 0, none⟩) r cp) (((Mac.c33 f).set q c).take r) := fun w' hb => by
    have h1 : Own (w6.setCell ⟨g, q, none⟩ (bv c)) V.heap.size (.slice (some ⟨g, 0, none⟩) ((Mac.c33 f).set q c).length cp) ((Mac.c33 f).set q c) := by rw [hsl]; exact hset
    have := bs_take h1.bs (n := r) (cap' := cp) (by rw [hsl]; exact hr33) (by omega) hl2
    exact (this.below hb).rs
  have ok2 : Mac.ok key (((Mac.c33 f).set q c).take r) b = false := by
    have tl : (((Mac.c33 f).set q c).take r).length = r := by rw [List.length_take, hsl]; omega
    rw [HOK.out, tl]
    rw [decide_eq_false (by omega)]; rfl
  have HX := Lib.hid hx
  have OK2 := Lib.hid ok2
  have S6 := Lib.hid hBS
  have T2 := Lib.hid RT2
  clear hx hset hgs hsl hBS RT2 ok2 hOwn Q RT HCE HFR C1
  have C2 := fun w1 cv lv code (hb : Below w.heap.size w w1) (hcv : Rs w1 cv code) (hlv : Bss w1 lv [b]) => check_any key code (.slice ua key.length uc) cv lv [b] w1 (RU.out.below hb) (by omega) hcv hlv (by simp [Wir.join]; omega) (by simp) (HK.out.below hb)
  rw [show Wir.join [b] = b by simp [Wir.join]] at C2
  have qlo : (0 : Int) ≤ (q : Int) := by omega
  have qhi : (q : Int) < (r : Int) := by omega
  have esz : (w6.setCell ⟨g, q, none⟩ (bv c)).heap.size = w6.heap.size := by simp [World.setCell]
  have HB2 : Bss ((w6.setCell ⟨g, q, none⟩ (bv c)).alloc (.cells #[.slice va b.length vc] 24)) (.slice (some ⟨w6.heap.size, 0, none⟩) 1 1) [b] := by
    rw [← esz]; exact bss_one (RV.out.below S6.out)
  have HBB := Lib.hid HB2
  clear esz HB2
  go_upto_region 14 with fail
  go_wp2_with fail
  refine (C2 _ _ _ _ (S6.out.alloc S6.out.size _) (T2.out _ ((Below.refl _ _).alloc (Nat.le_refl _) _)) HBB.out).mono ?_
  rintro e w7 ⟨rfl, hb7⟩
  rw [OK2.out]
  have S7 := Lib.hid ((S6.out.alloc S6.out.size (.cells #[.slice va b.length vc] 24)).trans (hb7.mono (by have := S6.out.size; simp at this ⊢; omega)))
  clear hb7
  go_wp2_with fail
  go_ret
  exact ⟨by simp, S7.out⟩

set_option maxRecDepth 100000 in
set_option maxHeartbeats 4000000 in
theorem macChecks_most (w : World) (u : Value) (key : List Nat) (hu : Rs w u key) (hk2 : key.length ≤ 200) (v : Value) (b : List Nat) (hv : Rs w v b) (hb2 : b.length ≤ 500) (n : Nat) (hn : n < 256) (at_ : Nat) (ha : at_ < 256) (c : Nat) (hc : c < 256) (hr : n % 34 = 33) (hK : Consts w Sha.tab) :
    Calls Tryd.prog 9 #[u, v, .int .u8 n, .int .u8 at_, .int .u8 c] w (RetBool true w) := by
  have RU := Lib.hid hu
  have RV := Lib.hid hv
  obtain ⟨ua, uc, rfl⟩ := hu.form
  obtain ⟨va, vc, rfl⟩ := hv.form
  have HK := Lib.hid hK; clear hK hu hv
  have d1 : decide ((200 : Int) < (key.length : Int)) = false := by simp; omega
  have d2 : decide ((500 : Int) < (b.length : Int)) = false := by simp; omega
  have hi32 : ∀ f, ((Tryd.prog).info? 26).map (·.size) = some (arr .u8 32 f).size := by intro f; rw [arr_size]; rfl
  obtain ⟨r, hrn⟩ : ∃ r : Nat, (n : Int) % 34 = (r : Int) := ⟨n % 34, by omega⟩
  have hr33 : r ≤ 33 := by omega
  have hR : r = 33 := by omega
  have p1 : decide ((16 : Int) ≤ (r : Int)) = true := by simp; omega
  have p2 : decide ((r : Int) ≤ (32 : Int)) = false := by simp; omega
  have pz : ((r : Int) == 0) = false := by simp; omega
  have hr16 : 32 < r := by omega
  obtain ⟨f, hf⟩ : ∃ f, f = Mac.hm key b := ⟨_, rfl⟩
  have hf8 : ∀ i, f i < 256 := fun i => by rw [hf]; exact Mac.hm_lt _ _ i
  have OK : ∀ code, Mac.ok key code b = (decide (16 ≤ code.length ∧ code.length ≤ 32) && sameB code ((List.range code.length).map f)) := fun code => by rw [hf]; unfold Mac.ok; rfl
  have S2 : ∀ w1, Below w.heap.size w w1 → Calls Tryd.prog 30 #[.slice ua key.length uc, .slice va b.length vc] w1 fun e w2 => e = .returned (.agg (arr .u8 32 f)) ∧ Below w1.heap.size w1 w2 := fun w1 hb => by
    rw [hf]
    exact refmac_any key b _ _ _ (RU.out.below hb) (by omega) (RV.out.below hb) (by omega)
  have C1 : ∀ w1 cv lv code, Below w.heap.size w w1 → Rs w1 cv code → Bss w1 lv [b] → Calls Tryd.prog 31 #[.slice ua key.length uc, cv, lv] w1 fun e w2 => e = .returned (.bool (Mac.ok key code b)) ∧ Below w1.heap.size w1 w2 := fun w1 cv lv code hb hcv hlv => by
    have := check_any key code (.slice ua key.length uc) cv lv [b] w1 (RU.out.below hb) (by omega) hcv hlv (by simp [Wir.join]; omega) (by simp) (HK.out.below hb)
    rwa [show Wir.join [b] = b by simp [Wir.join]] at this
  have HOK := Lib.hid OK
  have F8 := Lib.hid hf8
  clear hf OK hf8 hr hR
  go_enter Tryd.func9, Tryd.ntmps9
  go_wp2_with fail
  refine (macAwake_any _ HK.out).mono ?_
  rintro e w1 ⟨rfl, hb1⟩
  have B1 := Lib.hid hb1; clear hb1
  go_wp2_with fail
  refine (S2 _ B1.out).mono ?_
  rintro e w3 ⟨rfl, hb3⟩
  go_upto_region 4 with (refine wpList_store_rowTo rfl _ _ _ rfl rfl w3.heap.size _ rfl rfl _ _ (heap_alloc_new _ _) (hi32 _) (by rw [arr_size]; rfl) (arr_one _ _ _) ?_; generalize hV : World.setRow _ w3.heap.size _ = V)
  have hbV : Below w1.heap.size w1 V := by rw [← hV]; exact below_setRow (hb3.alloc hb3.size _) hb3.size _
  have hA : isArr V w3.heap.size 26 .u8 32 f := by rw [← hV]; exact setRow_heap _ _ _ _ _ _ (heap_alloc_new _ _)
  have hRA : Rs V (.slice (some ⟨w3.heap.size, 0, none⟩) 32 32) ((List.range 32).map f) := rs_arr hA (fun i _ => F8.out i) (by omega)
  have VB := Lib.hid (B1.out.trans (hbV.mono B1.out.size))
  have VA := Lib.hid (And.intro hRA hA)
  have hzV := VB.out.size
  clear hV hb3 hbV hA hRA B1
  generalize w3.heap.size = ga at VA ⊢
  go_upto_region 5 with (first | (at_builtin; refine wpList_append_rs rfl (.tmp 32) (.tmp 33) rfl V.heap.size _ [] rfl (own_built V V.heap.size [] AllB.nil (Nat.le_refl _) (by simp)) _ ((List.range 32).map f) rfl (VA.out.1.below ((Below.refl _ _).alloc (Nat.le_refl _) _)) (by simp) (by simp) ?_; intro v4 w4 h4 g4; have hb4 : Below V.heap.size V w4 := below_only ((Below.refl _ _).alloc (Nat.le_refl _) _) (Nat.le_refl _) g4 (fun g hg => ((own_built V V.heap.size [] AllB.nil (Nat.le_refl _) (by simp)).lt g hg).1); have Q4 := Lib.hid (And.intro h4 hb4); clear h4 g4 hb4) | (at_builtin; go_must (refine wpList_append_rs rfl (.tmp 34) (.tmp 35) rfl V.heap.size _ _ rfl (Q4.out.1.alloc _) _ [7] rfl (rs_built_at w4 _ rfl [7] (AllB.one (by omega)) (by simp)) (by simp) (by have := Q4.out.2.size; simp; omega) ?_; intro v5 w5 h5 g5; have hb5 : Below V.heap.size V w5 := below_only (Q4.out.2.alloc Q4.out.2.size _) (Nat.le_refl _) g5 (fun g hg => (Q4.out.1.lt g hg).1); have Q5 := Lib.hid (And.intro h5 hb5); clear h5 g5 hb5)))
  rcases Q5.out.1.cases with ⟨_, h'⟩ | ⟨g, cp, rfl, hg1, hg2, hl1, hl2, hcell, hfro⟩
  · simp at h'
  have e33 : (([] ++ (List.range 32).map f) ++ [7]) = Mac.c33 f := by simp [Mac.c33]
  have Q := Lib.hid Q5.out
  rw [e33] at Q hcell
  rw [e33, Mac.c33_length] at hl1
  have hlen : (([] ++ (List.range 32).map f) ++ [7]).length = 33 := by simp
  rw [hlen]
  have hcp : (33 : Int) ≤ (cp : Int) := by omega
  have RT : ∀ w', Below w5.heap.size w5 w' → Rs w' (.slice (some ⟨g, 0, none⟩) r cp) ((Mac.c33 f).take r) := fun w' hb => by
    have h1 : Own w5 V.heap.size (.slice (some ⟨g, 0, none⟩) (Mac.c33 f).length cp) (Mac.c33 f) := Q.out.1
    have := bs_take h1.bs (n := r) (cap' := cp) (by rw [Mac.c33_length]; exact hr33) (by omega) hl2
    exact (this.below hb).rs
  have HCE := Lib.hid (fun i (hi : i < 33) => hcell i (by rw [Mac.c33_length]; exact hi))
  have HFR := Lib.hid hfro
  have W5 := Lib.hid (VB.out.trans (Q.out.2.mono VB.out.size))
  have hz5 := W5.out.size
  clear Q5 Q4 hcell hfro e33 hlen VA
  have tl : ((Mac.c33 f).take r).length = r := by rw [List.length_take, Mac.c33_length]; omega
  have ok1 : Mac.ok key ((Mac.c33 f).take r) b = false := by
    rw [HOK.out, tl]
    rw [decide_eq_false (by omega)]; rfl
  have TL := Lib.hid tl; clear tl
  have OK1 := Lib.hid ok1; clear ok1
  go_upto_region 7 with fail
  go_wp2_with fail
  refine (C1 _ _ _ _ (W5.out.alloc W5.out.size _) (RT _ ((Below.refl _ _).alloc (Nat.le_refl _) _)) (bss_one (RV.out.below W5.out))).mono ?_
  rintro e w6 ⟨rfl, hb6⟩
  rw [OK1.out]
  have h56 : Below w5.heap.size w5 w6 := ((Below.refl _ _).alloc (Nat.le_refl _) (.cells #[.slice va b.length vc] 24)).trans (hb6.mono (by simp))
  have W6 := Lib.hid (W5.out.trans (h56.mono W5.out.size))
  have X6 := Lib.hid h56
  have hz6 := W6.out.size
  clear hb6 h56

  obtain ⟨q, hq⟩ : ∃ q : Nat, (at_ : Int) % (r : Int) = (q : Int) := ⟨at_ % r, by simp⟩
  have hqr : q < r := by
    have h1 := Nat.mod_lt at_ (show 0 < r by omega)
    have h2 : (at_ : Int) % (r : Int) = ((at_ % r : Nat) : Int) := by simp
    omega
  have hOwn : Own w6 V.heap.size (.slice (some ⟨g, 0, none⟩) 33 cp) (Mac.c33 f) := by
    have h1 := Q.out.1
    rw [Mac.c33_length] at h1
    exact h1.below X6.out
  have hcq := hOwn.cellAt (i := q) (by rw [Mac.c33_length]; omega)
  have hfq := hOwn.frozenAt q
  obtain ⟨x, hx⟩ : ∃ x, x = (Mac.c33 f).getD q 0 := ⟨_, rfl⟩
  rw [← hx] at hcq
  obtain ⟨hset, hgs⟩ := hOwn.set q c hc
  have hsl : ((Mac.c33 f).set q c).length = 33 := by rw [List.length_set, Mac.c33_length]
  have hBS : Below w.heap.size w (w6.setCell ⟨g, q, none⟩ (bv c)) := below_only W6.out (Nat.le_refl _) hgs (fun g' hg' => by cases hg'; have := VB.out.size; omega)
  have RT2 : ∀ w', Below (w6.setCell ⟨g, q, none⟩ (bv c)).heap.size (w6.setCell ⟨g, q, none⟩ (bv c)) w' → Rs w' (.slice (some ⟨g, 0, none⟩) r cp) (((Mac.c33 f).set q c).take r) := fun w' hb => by
    have h1 : Own (w6.setCell ⟨g, q, none⟩ (bv c)) V.heap.size (.slice (some ⟨g, 0, none⟩) ((Mac.c33 f).set q c).length cp) ((Mac.c33 f).set q c) := by rw [hsl]; exact hset
    have := bs_take h1.bs (n := r) (cap' := cp) (by rw [hsl]; exact hr33) (by omega) hl2
    exact (this.below hb).rs
  have ok2 : Mac.ok key (((Mac.c33 f).set q c).take r) b = false := by
    have tl : (((Mac.c33 f).set q c).take r).length = r := by rw [List.length_take, hsl]; omega
    rw [HOK.out, tl]
    rw [decide_eq_false (by omega)]; rfl
  have HX := Lib.hid hx
  have OK2 := Lib.hid ok2
  have S6 := Lib.hid hBS
  have T2 := Lib.hid RT2
  clear hx hset hgs hsl hBS RT2 ok2 hOwn Q RT HCE HFR C1
  have C2 := fun w1 cv lv code (hb : Below w.heap.size w w1) (hcv : Rs w1 cv code) (hlv : Bss w1 lv [b]) => check_any key code (.slice ua key.length uc) cv lv [b] w1 (RU.out.below hb) (by omega) hcv hlv (by simp [Wir.join]; omega) (by simp) (HK.out.below hb)
  rw [show Wir.join [b] = b by simp [Wir.join]] at C2
  have qlo : (0 : Int) ≤ (q : Int) := by omega
  have qhi : (q : Int) < (r : Int) := by omega
  have esz : (w6.setCell ⟨g, q, none⟩ (bv c)).heap.size = w6.heap.size := by simp [World.setCell]
  have HB2 : Bss ((w6.setCell ⟨g, q, none⟩ (bv c)).alloc (.cells #[.slice va b.length vc] 24)) (.slice (some ⟨w6.heap.size, 0, none⟩) 1 1) [b] := by
    rw [← esz]; exact bss_one (RV.out.below S6.out)
  have HBB := Lib.hid HB2
  clear esz HB2
  go_upto_region 14 with fail
  go_wp2_with fail
  refine (C2 _ _ _ _ (S6.out.alloc S6.out.size _) (T2.out _ ((Below.refl _ _).alloc (Nat.le_refl _) _)) HBB.out).mono ?_
  rintro e w7 ⟨rfl, hb7⟩
  rw [OK2.out]
  have S7 := Lib.hid ((S6.out.alloc S6.out.size (.cells #[.slice va b.length vc] 24)).trans (hb7.mono (by have := S6.out.size; simp at this ⊢; omega)))
  clear hb7
  go_wp2_with fail
  go_ret
  exact ⟨by simp, S7.out⟩

set_option maxRecDepth 100000 in
set_option maxHeartbeats 4000000 in
theorem macChecks_none (w : World) (u : Value) (key : List Nat) (hu : Rs w u key) (hk2 : key.length ≤ 200) (v : Value) (b : List Nat) (hv : Rs w v b) (hb2 : b.length ≤ 500) (n : Nat) (hn : n < 256) (at_ : Nat) (ha : at_ < 256) (c : Nat) (hc : c < 256) (hr : n % 34 = 0) (hK : Consts w Sha.tab) :
    Calls Tryd.prog 9 #[u, v, .int .u8 n, .int .u8 at_, .int .u8 c] w (RetBool true w) := by
  have RU := Lib.hid hu
  have RV := Lib.hid hv
  obtain ⟨ua, uc, rfl⟩ := hu.form
  obtain ⟨va, vc, rfl⟩ := hv.form
  have HK := Lib.hid hK; clear hK hu hv
  have d1 : decide ((200 : Int) < (key.length : Int)) = false := by simp; omega
  have d2 : decide ((500 : Int) < (b.length : Int)) = false := by simp; omega
  have hi32 : ∀ f, ((Tryd.prog).info? 26).map (·.size) = some (arr .u8 32 f).size := by intro f; rw [arr_size]; rfl
  obtain ⟨r, hrn⟩ : ∃ r : Nat, (n : Int) % 34 = (r : Int) := ⟨n % 34, by omega⟩
  have hr33 : r ≤ 33 := by omega
  have hR : r = 0 := by omega
  have p1 : decide ((16 : Int) ≤ (r : Int)) = false := by simp; omega
  have pz : ((r : Int) == 0) = true := by simp; omega
  have hr16 : r < 16 := by omega
  obtain ⟨f, hf⟩ : ∃ f, f = Mac.hm key b := ⟨_, rfl⟩
  have hf8 : ∀ i, f i < 256 := fun i => by rw [hf]; exact Mac.hm_lt _ _ i
  have OK : ∀ code, Mac.ok key code b = (decide (16 ≤ code.length ∧ code.length ≤ 32) && sameB code ((List.range code.length).map f)) := fun code => by rw [hf]; unfold Mac.ok; rfl
  have S2 : ∀ w1, Below w.heap.size w w1 → Calls Tryd.prog 30 #[.slice ua key.length uc, .slice va b.length vc] w1 fun e w2 => e = .returned (.agg (arr .u8 32 f)) ∧ Below w1.heap.size w1 w2 := fun w1 hb => by
    rw [hf]
    exact refmac_any key b _ _ _ (RU.out.below hb) (by omega) (RV.out.below hb) (by omega)
  have C1 : ∀ w1 cv lv code, Below w.heap.size w w1 → Rs w1 cv code → Bss w1 lv [b] → Calls Tryd.prog 31 #[.slice ua key.length uc, cv, lv] w1 fun e w2 => e = .returned (.bool (Mac.ok key code b)) ∧ Below w1.heap.size w1 w2 := fun w1 cv lv code hb hcv hlv => by
    have := check_any key code (.slice ua key.length uc) cv lv [b] w1 (RU.out.below hb) (by omega) hcv hlv (by simp [Wir.join]; omega) (by simp) (HK.out.below hb)
    rwa [show Wir.join [b] = b by simp [Wir.join]] at this
  have HOK := Lib.hid OK
  have F8 := Lib.hid hf8
  clear hf OK hf8 hr hR
  go_enter Tryd.func9, Tryd.ntmps9
  go_wp2_with fail
  refine (macAwake_any _ HK.out).mono ?_
  rintro e w1 ⟨rfl, hb1⟩
  have B1 := Lib.hid hb1; clear hb1
  go_wp2_with fail
  refine (S2 _ B1.out).mono ?_
  rintro e w3 ⟨rfl, hb3⟩
  go_upto_region 4 with (refine wpList_store_rowTo rfl _ _ _ rfl rfl w3.heap.size _ rfl rfl _ _ (heap_alloc_new _ _) (hi32 _) (by rw [arr_size]; rfl) (arr_one _ _ _) ?_; generalize hV : World.setRow _ w3.heap.size _ = V)
  have hbV : Below w1.heap.size w1 V := by rw [← hV]; exact below_setRow (hb3.alloc hb3.size _) hb3.size _
  have hA : isArr V w3.heap.size 26 .u8 32 f := by rw [← hV]; exact setRow_heap _ _ _ _ _ _ (heap_alloc_new _ _)
  have hRA : Rs V (.slice (some ⟨w3.heap.size, 0, none⟩) 32 32) ((List.range 32).map f) := rs_arr hA (fun i _ => F8.out i) (by omega)
  have VB := Lib.hid (B1.out.trans (hbV.mono B1.out.size))
  have VA := Lib.hid (And.intro hRA hA)
  have hzV := VB.out.size
  clear hV hb3 hbV hA hRA B1
  generalize w3.heap.size = ga at VA ⊢
  go_upto_region 5 with (first | (at_builtin; refine wpList_append_rs rfl (.tmp 32) (.tmp 33) rfl V.heap.size _ [] rfl (own_built V V.heap.size [] AllB.nil (Nat.le_refl _) (by simp)) _ ((List.range 32).map f) rfl (VA.out.1.below ((Below.refl _ _).alloc (Nat.le_refl _) _)) (by simp) (by simp) ?_; intro v4 w4 h4 g4; have hb4 : Below V.heap.size V w4 := below_only ((Below.refl _ _).alloc (Nat.le_refl _) _) (Nat.le_refl _) g4 (fun g hg => ((own_built V V.heap.size [] AllB.nil (Nat.le_refl _) (by simp)).lt g hg).1); have Q4 := Lib.hid (And.intro h4 hb4); clear h4 g4 hb4) | (at_builtin; go_must (refine wpList_append_rs rfl (.tmp 34) (.tmp 35) rfl V.heap.size _ _ rfl (Q4.out.1.alloc _) _ [7] rfl (rs_built_at w4 _ rfl [7] (AllB.one (by omega)) (by simp)) (by simp) (by have := Q4.out.2.size; simp; omega) ?_; intro v5 w5 h5 g5; have hb5 : Below V.heap.size V w5 := below_only (Q4.out.2.alloc Q4.out.2.size _) (Nat.le_refl _) g5 (fun g hg => (Q4.out.1.lt g hg).1); have Q5 := Lib.hid (And.intro h5 hb5); clear h5 g5 hb5)))
  rcases Q5.out.1.cases with ⟨_, h'⟩ | ⟨g, cp, rfl, hg1, hg2, hl1, hl2, hcell, hfro⟩
  · simp at h'
  have e33 : (([] ++ (List.range 32).map f) ++ [7]) = Mac.c33 f := by simp [Mac.c33]
  have Q := Lib.hid Q5.out
  rw [e33] at Q hcell
  rw [e33, Mac.c33_length] at hl1
  have hlen : (([] ++ (List.range 32).map f) ++ [7]).length = 33 := by simp
  rw [hlen]
  have hcp : (33 : Int) ≤ (cp : Int) := by omega
  have RT : ∀ w', Below w5.heap.size w5 w' → Rs w' (.slice (some ⟨g, 0, none⟩) r cp) ((Mac.c33 f).take r) := fun w' hb => by
    have h1 : Own w5 V.heap.size (.slice (some ⟨g, 0, none⟩) (Mac.c33 f).length cp) (Mac.c33 f) := Q.out.1
    have := bs_take h1.bs (n := r) (cap' := cp) (by rw [Mac.c33_length]; exact hr33) (by omega) hl2
    exact (this.below hb).rs
  have HCE := Lib.hid (fun i (hi : i < 33) => hcell i (by rw [Mac.c33_length]; exact hi))
  have HFR := Lib.hid hfro
  have W5 := Lib.hid (VB.out.trans (Q.out.2.mono VB.out.size))
  have hz5 := W5.out.size
  clear Q5 Q4 hcell hfro e33 hlen VA
  have tl : ((Mac.c33 f).take r).length = r := by rw [List.length_take, Mac.c33_length]; omega
  have ok1 : Mac.ok key ((Mac.c33 f).take r) b = false := by
    rw [HOK.out, tl]
    rw [decide_eq_false (by omega)]; rfl
  have TL := Lib.hid tl; clear tl
  have OK1 := Lib.hid ok1; clear ok1
  go_upto_region 7 with fail
  go_wp2_with fail
  refine (C1 _ _ _ _ (W5.out.alloc W5.out.size _) (RT _ ((Below.refl _ _).alloc (Nat.le_refl _) _)) (bss_one (RV.out.below W5.out))).mono ?_
  rintro e w6 ⟨rfl, hb6⟩
  rw [OK1.out]
  have h56 : Below w5.heap.size w5 w6 := ((Below.refl _ _).alloc (Nat.le_refl _) (.cells #[.slice va b.length vc] 24)).trans (hb6.mono (by simp))
  have W6 := Lib.hid (W5.out.trans (h56.mono W5.out.size))
  have X6 := Lib.hid h56
  have hz6 := W6.out.size
  clear hb6 h56
  clear RT HCE HFR C1
  go_wp2_with fail
  go_ret
  exact ⟨rfl, W6.out⟩

theorem macChecks_walk (w : World) (u : Value) (key : List Nat) (hu : Rs w u key) (v : Value) (b : List Nat) (hv : Rs w v b) (n : Int) (wn : (Lit.int .u8 n).wf = true) (k : Int) (wk : (Lit.int .u8 k).wf = true) (c : Int) (wc : (Lit.int .u8 c).wf = true) (hK : Consts w Sha.tab) :
    Calls Tryd.prog 9 #[u, v, .int .u8 n, .int .u8 k, .int .u8 c] w (RetBool true w) := by
  by_cases hl : 200 < key.length ∨ 500 < b.length
  · exact macChecks_long w u key hu v b hv n k c hl hK
  have h1 := bounds_u8 wn
  have h2 := bounds_u8 wk
  have h3 := bounds_u8 wc
  obtain ⟨n, rfl⟩ := Int.eq_ofNat_of_zero_le h1.1
  obtain ⟨k, rfl⟩ := Int.eq_ofNat_of_zero_le h2.1
  obtain ⟨c, rfl⟩ := Int.eq_ofNat_of_zero_le h3.1
  have hm : n % 34 < 34 := Nat.mod_lt _ (by omega)
  by_cases c1 : 16 ≤ n % 34 ∧ n % 34 ≤ 32
  · exact macChecks_in w u key hu (by omega) v b hv (by omega) n (by omega) k (by omega) c (by omega) c1 hK
  by_cases c2 : n % 34 = 0
  · exact macChecks_none w u key hu (by omega) v b hv (by omega) n (by omega) k (by omega) c (by omega) c2 hK
  by_cases c3 : n % 34 = 33
  · exact macChecks_most w u key hu (by omega) v b hv (by omega) n (by omega) k (by omega) c (by omega) c3 hK
  · exact macChecks_out w u key hu (by omega) v b hv (by omega) n (by omega) k (by omega) c (by omega) ⟨by omega, by omega⟩ hK

/-! ### THE ROW's STEP -/
namespace macChecksF
theorem own : ownKnob Tryd.prog.godebug = none := by kernel_rfl
theorem laidOut : laidOutB Tryd.prog = true := by kernel_rfl
theorem gT : Tryd.prog.globalNamed "toll/sha.constants" = some 0 := by kernel_rfl
theorem gTType : (Tryd.prog.globals[0]?).map (·.type) = some 37 := by kernel_rfl
theorem door_met (os : Os) (args : Array Value) : laidMetH Tryd.prog Rows.macChecksRow.laid ((World.doorLaid Tryd.prog 400 os).forCall (fun _ _ => 0) ⟨#[], args, []⟩).memory :=
  laidMetH_of_parts3 (fuel := 8) (laidMet_of_run' 8 (by kernel_rfl) (by kernel_rfl)) (by kernel_rfl) (by kernel_rfl)
theorem of_laid {W : World} (h : laidMetH Tryd.prog Rows.macChecksRow.laid W) : Consts W Sha.tab := fun i hi => by
  rw [MakeChecks.laidMetH_plain _ _ _ (by kernel_rfl)] at h
  have hT := Lib.tabIs_of_head (k := .u32) (zs := Sha.tableL.map fun n : Nat => (n : Int)) gT gTType Tryd.underlying37 Tryd.underlying31 (by kernel_rfl) (by kernel_rfl) h
  have hl : i < Sha.tableL.length := hi
  rw [hT.cell gT i (by simpa using hl)]
  simp [Sha.tab, List.getD, hl]
set_option maxRecDepth 100000 in
theorem lifted (os : Os) (started : os.Started) (H : Type) (enc : TypeId × Value → H) :
    ReturnsInHanded {} Tryd.checked os 9 .any (fun w args => (Rows.macChecksSpec.pre enc Tryd.prog Tryd.f9 [] false w args ∧ laidMetH Tryd.prog Rows.macChecksRow.laid w) ∧ sizedMet enc Tryd.prog Tryd.f9 (OpenSpec.ofChange Rows.macChecksSpec) false w args)
      (Rows.macChecksSpec.post enc Tryd.prog Tryd.f9 false true false false) := by
  refine returnsInHanded_of_change_and (C := Tryd.checked) (X := fun w _ => laidMetH Tryd.prog Rows.macChecksRow.laid w) (fun _ _ _ hh h => h.of_heap hh) own started (by kernel_rfl) Tryd.func9
    (ChangeSpec.witness_shaped (enc := enc) (C := Tryd.checked) (os := os) (X := fun w _ => laidMetH Tryd.prog Rows.macChecksRow.laid w) false (World.doorLaid Tryd.prog 400 os) #[.slice none 0 0, .slice none 0 0, .int .u8 0, .int .u8 0, .int .u8 0] 8 rfl (World.shaped_of_RefB (by kernel_rfl) (by kernel_rfl)) (by kernel_rfl) (by kernel_rfl) (by kernel_rfl) (door_met os _)) ?_
  intro W base args ds gs before hval0 hW _ _ hL _
  have hK := of_laid hL
  have hval : ∀ (j : Nat) t v, Tryd.f9.params[j]? = some t → args[j]? = some v → Value.okWide Tryd.prog W .any base t v := hval0
  have hW' := hW
  obtain ⟨p, q, hA0, hV, rfl, _, _⟩ := hW
  have hA : DataW.TrodAll enc Tryd.prog W 0 (fun _ => true) true Tryd.f9.params.toList args.toList ds p := hA0
  rw [Tryd.params9] at hA hval
  obtain ⟨v0, vs0, d0, ds0, p0, q0, hargs, rfl, rfl, h0, r0⟩ := trodAll_cons hA
  obtain ⟨v1, vs1, d1, ds1, p1, q1, rfl, rfl, rfl, h1, r1⟩ := trodAll_cons r0
  obtain ⟨v2, vs2, d2, ds2, p2, q2, rfl, rfl, rfl, h2, r2⟩ := trodAll_cons r1
  obtain ⟨v3, vs3, d3, ds3, p3, q3, rfl, rfl, rfl, h3, r3⟩ := trodAll_cons r2
  obtain ⟨v4, vs4, d4, ds4, p4, q4, rfl, rfl, rfl, h4, r4⟩ := trodAll_cons r3
  obtain ⟨rfl, rfl, rfl⟩ := trodAll_nil r4
  obtain rfl : args = #[v0, v1, v2, v3, v4] := by cases args; simp_all
  obtain ⟨rfl, rfl⟩ := trodVars_none hV
  have k0 := h0
  have lt0 : ∀ x ∈ p0, x.block < W.heap.size := by obtain ⟨m, hm⟩ := k0; exact DataW.trod_lt m _ _ _ hm
  obtain ⟨a0, len0, cap0, rfl⟩ := okWide_slice Tryd.underlying24 (hval 0 24 v0 rfl rfl)
  obtain ⟨z0, w0⟩ := open_bytes Tryd.underlying24 Tryd.underlying5 (by kernel_rfl) h0
  have k1 := h1
  have lt1 : ∀ x ∈ p1, x.block < W.heap.size := by obtain ⟨m, hm⟩ := k1; exact DataW.trod_lt m _ _ _ hm
  obtain ⟨a1, len1, cap1, rfl⟩ := okWide_slice Tryd.underlying24 (hval 1 24 v1 rfl rfl)
  obtain ⟨z1, w1⟩ := open_bytes Tryd.underlying24 Tryd.underlying5 (by kernel_rfl) h1
  have k2 := h2
  have lt2 : ∀ x ∈ p2, x.block < W.heap.size := by obtain ⟨m, hm⟩ := k2; exact DataW.trod_lt m _ _ _ hm
  obtain ⟨a2, rfl, _, _, w2⟩ := open_int Tryd.underlying5 (hval 2 5 v2 rfl rfl) h2
  have k3 := h3
  have lt3 : ∀ x ∈ p3, x.block < W.heap.size := by obtain ⟨m, hm⟩ := k3; exact DataW.trod_lt m _ _ _ hm
  obtain ⟨a3, rfl, _, _, w3⟩ := open_int Tryd.underlying5 (hval 3 5 v3 rfl rfl) h3
  have k4 := h4
  have lt4 : ∀ x ∈ p4, x.block < W.heap.size := by obtain ⟨m, hm⟩ := k4; exact DataW.trod_lt m _ _ _ hm
  obtain ⟨a4, rfl, _, _, w4⟩ := open_int Tryd.underlying5 (hval 4 5 v4 rfl rfl) h4
  refine (macChecks_walk W _ z0 w0 _ z1 w1 a2 w2 a3 w3 a4 w4 hK).mono fun e W' ⟨he, bel⟩ => ?_
  subst he
  exact ⟨_, rfl, _, _, _, [], _, [], hW', trodAll_mk1 (shut_bool Tryd.underlying4 _), (trodAll_cons_mk (Below.trod laidOut (by kernel_rfl) (of_decide_eq_true (by kernel_rfl)) k0 bel lt0) (trodAll_cons_mk (Below.trod laidOut (by kernel_rfl) (of_decide_eq_true (by kernel_rfl)) k1 bel lt1) (trodAll_cons_mk (Below.trod laidOut (by kernel_rfl) (of_decide_eq_true (by kernel_rfl)) k2 bel lt2) (trodAll_cons_mk (Below.trod laidOut (by kernel_rfl) (of_decide_eq_true (by kernel_rfl)) k3 bel lt3) (trodAll_cons_mk (Below.trod laidOut (by kernel_rfl) (of_decide_eq_true (by kernel_rfl)) k4 bel lt4) trodAll_mk0))))), rfl, bel.frame _, fun h => by cases h⟩
theorem over : Rows.macChecksRow.holds Tryd.pinned (OpenSpec.ofChange Rows.macChecksSpec) :=
  OpenClaim.holds_of_wide 9 Tryd.f9 rfl rfl rfl rfl rfl rfl rfl ⟨rfl, rfl, rfl, rfl, rfl⟩ rfl rfl rfl rfl rfl (by kernel_rfl) Tryd.func9 (by kernel_rfl)
    (of_decide_eq_true (by kernel_rfl)) (by unfold Func.isWrapper; first | (rw [if_pos (by decide +kernel)]; kernel_rfl) | (rw [if_neg (by decide +kernel)]; exact ⟨rfl, rfl⟩))
    (fun os started H enc _ => lifted os started H enc)
end macChecksF
/-- The row. -/
theorem macChecks_row : Rows.MacChecksSaid := macChecksF.over
/-- The statement: the card. -/
theorem macChecks_holds : Rows.MacChecksCardSaid :=
  Claim7.holds_tied_plain_at .later [] [.data] true Rows.macChecksCard.stood.harness false
    macChecks_row (fun _ h => by cases h) (by kernel_rfl) (fun _ h => by cases h) macChecks_row_tie rfl ⟨rfl, rfl⟩ (by kernel_rfl) rfl
    (fun f fn hf hfn => by
      obtain rfl : f = 9 := Option.some.inj ((show Tryd.prog.funcNamed "toll/tolllaw05.MacChecks" = some 9 by kernel_rfl).symm.trans hf) |>.symm
      obtain rfl : fn = Tryd.f9 := (Option.some.inj (Tryd.func9.symm.trans hfn)).symm
      exact ⟨by kernel_rfl, fun j t ht => by
        rw [Tryd.params9] at ht
        have hm : t ∈ [24, 24, 5, 5, 5] := by simpa using Array.mem_of_getElem? ht
        have hall : ([24, 24, 5, 5, 5].all fun u => !Tryd.prog.wantsStandIn u) = true := by kernel_rfl
        exact (show Tryd.prog.wantsStandIn t = false by simpa using List.all_eq_true.1 hall t hm)⟩)
    (by kernel_rfl)
#print axioms macChecks_holds
end Go.Proofs.YtgalddnblciciaaDoor
