/- Derived strings are those of the reference implementation, and begin with shorter ones; changing one does not change the next one: for every key, label, number and byte the law returns true. The variable sha.constants reads as the program's text lays it. -/
import Derived.Test.YtgalddnblciciaaDoorMacKit
import Derived.Test.YtgalddnblciciaaDoorMacI
namespace Go.Proofs.YtgalddnblciciaaDoor
open Go.ChangeShapes Go.WideShapes Go.ChangeAt Go.RowKit Go.Deep

namespace Mac
/-- What is derived, for any number. -/
def dd (key lab : List Nat) (n : Int) : List Nat := if n < 0 then [] else dn key lab n.toNat
theorem dd_length (key lab : List Nat) (n : Int) : (dd key lab n).length = n.toNat := by
  unfold dd
  split
  · simp; omega
  · exact dn_length _ _ _
theorem dn_zero (key lab : List Nat) : dn key lab 0 = [] := List.eq_nil_of_length_eq_zero (dn_length _ _ _)
theorem dd_take (key lab : List Nat) (n : Int) (k : Nat) (h : k ≤ n.toNat) : (dd key lab n).take k = dn key lab k := by
  unfold dd
  split
  · obtain rfl : k = 0 := by omega
    rw [dn_zero]; rfl
  · unfold dn
    rw [List.take_take, Nat.min_eq_left h]
    have e := dv_take key lab k ((n.toNat + 31) / 32 - (k + 31) / 32) ((k + 31) / 32) (by omega)
    rw [show (k + 31) / 32 + ((n.toNat + 31) / 32 - (k + 31) / 32) = (n.toNat + 31) / 32 by omega] at e
    exact e
end Mac
theorem derive_dd (key : List Nat) (kv : Value) (s : ByteArray) (n : Int) (w : World) (hn : n ≤ 8160) (hk : Rs w kv key) (hkl : key.length ≤ 140737488354000) (hs : s.size ≤ 140737488353000) (hK : Consts w Sha.tab) :
    Calls Tryd.prog 33 #[kv, .string s, .int .i64 n] w (RetOwn (Mac.dd key (lb s) n) w) := by
  unfold Mac.dd
  by_cases h : n < 0
  · rw [if_pos h]; exact derive_out kv s n w (.inl h)
  · rw [if_neg h]
    obtain ⟨m, rfl⟩ := Int.eq_ofNat_of_zero_le (show 0 ≤ n by omega)
    exact derive_in key kv s m w (by omega) hk hkl hs hK
theorem refderive_dd (key : List Nat) (kv : Value) (s : ByteArray) (n : Int) (w : World) (hn : n ≤ 8160) (hk : Rs w kv key) (hkl : key.length ≤ 140737488354000) (hs : s.size ≤ 140737488353000) :
    Calls Tryd.prog 34 #[kv, .string s, .int .i64 n] w (RetOwn (Mac.dd key (lb s) n) w) := by
  unfold Mac.dd
  by_cases h : n < 0
  · rw [if_pos h]; exact refderive_out kv s n w (.inl h)
  · rw [if_neg h]
    obtain ⟨m, rfl⟩ := Int.eq_ofNat_of_zero_le (show 0 ≤ n by omega)
    exact refderive_in key kv s m w (by omega) hk hkl hs

theorem macDerives_long (w : World) (u : Value) (key : List Nat) (hu : Rs w u key) (s : ByteArray) (n less : Int) (hn : 200 < key.length ∨ 100 < s.size ∨ 500 < n) (hs : s.size ≤ 9223372036854775807) (hK : Consts w Sha.tab) :
    Calls Tryd.prog 12 #[u, .string s, .int .i64 n, .int .u8 less] w (RetBool true w) := by
  obtain ⟨a, ac, rfl⟩ := hu.form
  have HK := Lib.hid hK; clear hK
  have hlb := hu.len
  have akey := mac_key HK
  by_cases h1 : 200 < key.length
  · have d1 : decide ((200 : Int) < (key.length : Int)) = true := by simp; omega
    go_enter Tryd.func12, Tryd.ntmps12
    go_wp2_with fail
    refine (akey _ (Below.refl _ _)).mono ?_
    rintro e w1 ⟨rfl, hb1⟩
    have B1 := Lib.hid hb1; clear hb1
    go_wp2_with fail
    refine (akey _ B1.out).mono ?_
    rintro e w2 ⟨rfl, hb2⟩
    have B2 := Lib.hid hb2; clear hb2
    go_wp2_with fail
    go_ret
    exact ⟨rfl, B2.out⟩
  · have d1 : decide ((200 : Int) < (key.length : Int)) = false := by simp; omega
    by_cases h2 : 100 < s.size
    · have d2 : decide ((100 : Int) < (s.size : Int)) = true := by simp; omega
      go_enter Tryd.func12, Tryd.ntmps12
      go_wp2_with fail
      refine (akey _ (Below.refl _ _)).mono ?_
      rintro e w1 ⟨rfl, hb1⟩
      have B1 := Lib.hid hb1; clear hb1
      go_wp2_with fail
      refine (akey _ B1.out).mono ?_
      rintro e w2 ⟨rfl, hb2⟩
      have B2 := Lib.hid hb2; clear hb2
      go_wp2_with fail
      go_ret
      exact ⟨rfl, B2.out⟩
    · have d2 : decide ((100 : Int) < (s.size : Int)) = false := by simp; omega
      have d3 : decide ((500 : Int) < n) = true := by simp; omega
      go_enter Tryd.func12, Tryd.ntmps12
      go_wp2_with fail
      refine (akey _ (Below.refl _ _)).mono ?_
      rintro e w1 ⟨rfl, hb1⟩
      have B1 := Lib.hid hb1; clear hb1
      go_wp2_with fail
      refine (akey _ B1.out).mono ?_
      rintro e w2 ⟨rfl, hb2⟩
      have B2 := Lib.hid hb2; clear hb2
      go_wp2_with fail
      go_ret
      exact ⟨rfl, B2.out⟩

attribute [local irreducible] wpAnyH in
set_option maxRecDepth 100000 in
set_option maxHeartbeats 4000000 in
theorem macDerives_core (w : World) (u : Value) (key : List Nat) (hu : Rs w u key) (s : ByteArray) (n : Int) (less : Nat) (hkl : key.length ≤ 200) (hs : s.size ≤ 100) (hn : n ≤ 500) (hn0 : -9223372036854775808 ≤ n) (hl8 : less < 256) (hK : Consts w Sha.tab) :
    Calls Tryd.prog 12 #[u, .string s, .int .i64 n, .int .u8 less] w (RetBool true w) := by
  have RU := Lib.hid hu
  obtain ⟨ua, uc, rfl⟩ := hu.form
  have HK := Lib.hid hK; clear hK hu
  have d1 : decide ((200 : Int) < (key.length : Int)) = false := by simp; omega
  have d2 : decide ((100 : Int) < (s.size : Int)) = false := by simp; omega
  have d3 : decide ((500 : Int) < n) = false := by simp; omega
  obtain ⟨L, hL⟩ : ∃ L, L = Mac.dd key (lb s) n := ⟨_, rfl⟩
  have hLl : L.length = n.toNat := by rw [hL]; exact Mac.dd_length _ _ _
  obtain ⟨k, hk⟩ : ∃ k, k = L.length - less := ⟨_, rfl⟩
  have hkN : k ≤ L.length := by omega
  have hT : L.take k = Mac.dn key (lb s) k := by rw [hL]; exact Mac.dd_take _ _ _ _ (by omega)
  obtain ⟨X, hX⟩ : ∃ X, X = Mac.k16 key (lb s) := ⟨_, rfl⟩
  have hX8 : ∀ i, X i < 256 := fun i => by
    rw [hX]
    have h := Mac.dd_length key (lb s) 16
    unfold Mac.k16 Mac.dn
    have hall : AllB ((Mac.dv key (lb s) ((16 + 31) / 32)).take 16) := by
      refine AllB.take ?_ _
      intro x hx
      simp only [Mac.dv, List.nil_append, Nat.reduceAdd, Nat.reduceDiv, Mac.bk, List.mem_map] at hx
      obtain ⟨i, _, rfl⟩ := hx
      exact Mac.hm_lt _ _ _
    exact hall.get i
  have hXL : (List.range 16).map X = Mac.dd key (lb s) 16 := by
    have hln := Mac.dn_length key (lb s) 16
    rw [hX]
    show _ = Mac.dn key (lb s) 16
    apply List.ext_getElem
    · simp [hln]
    · intro i h1 h2
      simp [Mac.k16, List.getD, List.getElem?_eq_getElem h2]
  have DV : ∀ w1, Below w.heap.size w w1 → Calls Tryd.prog 33 #[.slice ua key.length uc, .string s, .int .i64 n] w1 (RetOwn L w1) := fun w1 hb => by
    rw [hL]; exact derive_dd key _ s n w1 (by omega) (RU.out.below hb) (by omega) (by omega) (HK.out.below hb)
  have DK : ∀ w1, Below w.heap.size w w1 → Calls Tryd.prog 33 #[.slice ua key.length uc, .string s, .int .i64 k] w1 (RetOwn (L.take k) w1) := fun w1 hb => by
    rw [hT]; exact derive_in key _ s k w1 (by omega) (RU.out.below hb) (by omega) (by omega) (HK.out.below hb)
  have DR : ∀ w1, Below w.heap.size w w1 → Calls Tryd.prog 34 #[.slice ua key.length uc, .string s, .int .i64 n] w1 (RetOwn L w1) := fun w1 hb => by
    rw [hL]; exact refderive_dd key _ s n w1 (by omega) (RU.out.below hb) (by omega) (by omega)
  have D16 : ∀ w1, Below w.heap.size w w1 → Calls Tryd.prog 34 #[.slice ua key.length uc, .string s, .int .i64 16] w1 (RetOwn ((List.range 16).map X) w1) := fun w1 hb => by
    rw [hXL]; exact refderive_dd key _ s 16 w1 (by omega) (RU.out.below hb) (by omega) (by omega)
  have KY : ∀ w1, Below w.heap.size w w1 → Calls Tryd.prog 35 #[.slice ua key.length uc, .string s] w1 fun e w2 => e = .returned (.agg (arr .u8 16 X)) ∧ Below w1.heap.size w1 w2 := fun w1 hb => by
    rw [hX]; exact mackey_any key _ s w1 (RU.out.below hb) (by omega) (by omega) (HK.out.below hb)
  have HKY := Lib.hid (And.intro DV (And.intro DK (And.intro DR (And.intro D16 KY))))
  have HX8 := Lib.hid hX8
  have hL500 : L.length ≤ 500 := by omega
  clear DV DK DR D16 KY hL hT hX hXL hX8
  have HL0 := Lib.hid (And.intro hLl hk)
  have hmax : (if (L.length : Int) - (less : Int) < 0 then 0 else (L.length : Int) - (less : Int)) = (k : Int) := by split <;> omega
  have hmax2 : (if (0 : Int) < (L.length : Int) - (less : Int) then (L.length : Int) - (less : Int) else 0) = (k : Int) := by split <;> omega
  clear hLl hk
  go_enter Tryd.func12, Tryd.ntmps12
  go_wp2_with fail
  refine (macAwake_any _ HK.out).mono ?_
  rintro e w1 ⟨rfl, hb1⟩
  have B1 := Lib.hid hb1; clear hb1
  go_wp2_with fail
  refine (HKY.out.1 _ B1.out).mono ?_
  rintro e w2 ⟨va, rfl, hoa, hb2⟩
  have B2 := Lib.hid (B1.out.trans (hb2.mono B1.out.size)); clear hb2
  obtain ⟨aa, ac, rfl⟩ := hoa.form
  have A2 := Lib.hid (hoa.mono B1.out.size); clear hoa
  go_wp2_with fail
  refine (HKY.out.2.2.1 _ B2.out).mono ?_
  rintro e w3 ⟨vr, rfl, hor, hb3⟩
  have B3 := Lib.hid (B2.out.trans (hb3.mono B2.out.size))
  have A3 := Lib.hid (A2.out.below hb3); clear hb3
  have R3 := Lib.hid hor; clear hor
  go_wp2_with fail
  refine (same_any _ _ L L _ A3.out.bs.rs R3.out.bs.rs).mono ?_
  rintro e w4 ⟨rfl, hb4⟩
  rw [sameB_yes rfl]
  have B4 := Lib.hid (B3.out.trans (hb4.mono B3.out.size))
  have A4 := Lib.hid (A3.out.below hb4); clear hb4 R3 A3 A2
  go_wp2_with fail
  refine (HKY.out.2.1 _ B4.out).mono ?_
  rintro e w5 ⟨vb, rfl, hob, hb5⟩
  have B5 := Lib.hid (B4.out.trans (hb5.mono B4.out.size))
  have A5 := Lib.hid (A4.out.below hb5)
  have hlt5 : ∀ q, (Value.slice aa L.length ac).ownBlock = some q → q < w4.heap.size := fun q hq => (A4.out.lt q hq).2
  have O5 := Lib.hid hob
  obtain ⟨ba, bc, rfl⟩ := hob.form
  have hlk : (L.take k).length = k := by rw [List.length_take]; omega
  rw [hlk] at O5 ⊢
  have HLT := Lib.hid hlt5
  clear hob hb5 hlt5 A4
  have htk : Hid (Rs w5 (.slice aa k ac) (L.take k)) := Lib.hid (by
    rcases A5.out.cases with ⟨h', hnil⟩ | ⟨g, cap, h', _, _, h3, h4, _, _⟩
    · simp only [Value.slice.injEq] at h'
      obtain ⟨rfl, h0, rfl⟩ := h'
      obtain rfl : k = 0 := by omega
      rw [List.take_zero]; exact (Bs.nil _).rs
    · simp only [Value.slice.injEq, true_and] at h'
      obtain ⟨rfl, rfl⟩ := h'
      exact (A5.out.take hkN).bs.rs)
  have hcap : L.length ≤ ac := by
    rcases A5.out.cases with ⟨h', hnil⟩ | ⟨g, cap, h', _, _, h3, h4, _, _⟩
    · simp only [Value.slice.injEq] at h'
      omega
    · simp only [Value.slice.injEq, true_and] at h'
      omega
  have nc : (k : Int) ≤ (ac : Int) := by omega
  have n0 : 0 ≤ (k : Int) := by omega
  go_wp2_with fail
  have HKL := Lib.hid hlk; clear hlk hcap nc n0 hmax hmax2
  refine (same_any _ _ (L.take k) (L.take k) _ O5.out.bs.rs htk.out).mono ?_
  rintro e w6 ⟨rfl, hb6⟩
  rw [sameB_yes rfl]
  have B6 := Lib.hid (B5.out.trans (hb6.mono B5.out.size))
  have A6 := Lib.hid (A5.out.below hb6)
  have O6 := Lib.hid (O5.out.below hb6)
  clear hb6 A5 O5 htk B5 B3 B2 B1
  go_wp2_with fail
  go_loopw [12] (fun i wr => ∃ j : Nat, j ≤ k ∧ i = .int .i64 j ∧ ∃ l : List Nat, l.length = k ∧ Own wr w4.heap.size (.slice ba k bc) l ∧ Own wr w.heap.size (.slice aa L.length ac) L ∧ Below w.heap.size w wr) (fun i _ => k - (intOf i).toNat)
  case atStart => exact ⟨0, by omega, rfl, _, HKL.out, O6.out, A6.out, B6.out⟩
  case round =>
    clear A6 O6 B6
    obtain ⟨j, hj, rfl, l, hll, hob, hoa, hbw⟩ := hrel
    by_cases hlt : j < k
    · have hd : decide ((j : Int) < (k : Int)) = true := by simp; omega
      have nj : 0 ≤ (j : Int) := by omega
      have lj : (j : Int) < (k : Int) := by omega
      rw [← hll] at hob
      rcases hob.cases with ⟨h', hnil⟩ | ⟨g, cap, h', hg1, hg2, _, _, hcell, hfro⟩
      · rw [hnil] at hll; simp at hll; omega
      simp only [Value.slice.injEq, true_and] at h'
      obtain ⟨rfl, rfl⟩ := h'
      have cj := hcell j (by omega)
      have fj := hfro j
      obtain ⟨x, hx⟩ : ∃ x, x = l.getD j 0 := ⟨_, rfl⟩
      have hx8 : x < 256 := by rw [hx]; exact hob.1.get j
      rw [← hx] at cj
      obtain ⟨y, hy⟩ : ∃ y, y = (x + 1) % 256 := ⟨_, rfl⟩
      have hyi : IntKind.u8.wrap ((x : Int) + 1) = (y : Int) := by simp only [IntKind.wrap_u8]; omega
      have hym : ((x : Int) + 1) % 256 = (y : Int) := by omega
      obtain ⟨hs1, hs2⟩ := hob.set j y (by omega)
      have hne : (Value.slice aa L.length ac).ownBlock = none ∨ (Value.slice aa L.length ac).ownBlock ≠ some g := .inr (fun e => by have := HLT.out g e; omega)
      have J := Lib.hid (And.intro hs1 (And.intro (hoa.only hs2 hne) (And.intro (below_only hbw (Nat.le_refl _) hs2 (fun q hq => by cases hq; have := B4.out.size; omega)) hll)))
      clear hs1 hs2 hne hob hoa hbw hcell hfro hx hy hll
      go_wp2_with fail
      go_roundw
      case rel => exact ⟨j + 1, by omega, by go_num, l.set j y, by rw [List.length_set]; exact J.out.2.2.2, by have h := J.out.1; rw [J.out.2.2.2] at h; first | exact h | (rw [hym]; exact h), J.out.2.1, J.out.2.2.1⟩
      case measure => simp [intOf]; omega
    · obtain rfl : j = k := by omega
      have hd : decide ((j : Int) < (j : Int)) = false := by simp
      have A7 := Lib.hid hoa
      have B7 := Lib.hid hbw
      clear hob hoa hbw hll hlt hj
      rename World => wq
      go_upto_region 15 with (first | (go_at_call 35; refine (HKY.out.2.2.2.2 _ B7.out).mono ?_; rintro e w8 ⟨rfl, hb8⟩) | (refine wpList_store_rowTo rfl _ _ _ rfl rfl w8.heap.size _ rfl rfl _ _ (heap_alloc_new _ _) (info16 _) (by rw [arr_size]; rfl) (arr_one _ _ _) ?_; generalize hV : World.setRow _ w8.heap.size _ = V))
      have hbV : Below wq.heap.size wq V := by rw [← hV]; exact below_setRow (hb8.alloc hb8.size _) hb8.size _
      have hA : isArr V w8.heap.size 57 .u8 16 X := by rw [← hV]; exact setRow_heap _ _ _ _ _ _ (heap_alloc_new _ _)
      have VB := Lib.hid (B7.out.trans (hbV.mono B7.out.size))
      have VA := Lib.hid (And.intro (A7.out.below hbV) (rs_arr hA (fun i _ => HX8.out i) (by omega)))
      clear hV hbV hA hb8 A7 B7
      generalize w8.heap.size = gx at VA ⊢
      have BV : ∀ w', Below V.heap.size V w' → Below w.heap.size w w' := fun w' h => VB.out.trans (h.mono VB.out.size)
      refine wp_reg Tryd.f12 15 14 (fun w' => Below V.heap.size V w') (by kernel_rfl) (by kernel_rfl) (by kernel_rfl) (below_drewN (Below.refl _ _) 1) (fun K hK h0 => ?_)
      refine reg_cast (listed' := #[false, false, false, false, false, false, false, false, false, false, false, false, false, false]) (by kernel_rfl) rfl ?_
      have HF := Lib.hid hK; clear hK
      refine reg_take 0 73 (.slice ua key.length uc) (by kernel_rfl) (fun _ _ => by kernel_rfl) h0 ?_
      simp only [Act.put, List.setIfInBounds_toArray, List.set_cons_zero, List.set_cons_succ]
      refine reg_take 1 74 (.string s) (by kernel_rfl) (fun _ _ => by kernel_rfl) h0 ?_
      simp only [Act.put, List.setIfInBounds_toArray, List.set_cons_zero, List.set_cons_succ]
      refine reg_take 2 75 (.int .i64 n) (by kernel_rfl) (fun _ _ => by kernel_rfl) h0 ?_
      simp only [Act.put, List.setIfInBounds_toArray, List.set_cons_zero, List.set_cons_succ]
      refine reg_take 4 77 (.slice aa L.length ac) (by kernel_rfl) (fun _ _ => by kernel_rfl) h0 ?_
      simp only [Act.put, List.setIfInBounds_toArray, List.set_cons_zero, List.set_cons_succ]
      refine reg_call 3 76 33 #[.slice ua key.length uc, .string s, .int .i64 n] (by kernel_rfl) (by kernel_rfl) ?_
      refine (HKY.out.1 _ (BV _ h0)).mono ?_
      rintro e wz ⟨vd, rfl, hod, hbz⟩
      obtain ⟨vda, vdc, rfl⟩ := hod.form
      have h0 := below_then h0 hbz
      refine ⟨_, rfl, h0, ?_⟩
      simp only [Act.put, List.setIfInBounds_toArray, List.set_cons_zero, List.set_cons_succ]
      refine reg_call 5 78 26 #[.slice vda L.length vdc, .slice aa L.length ac] (by kernel_rfl) (by kernel_rfl) ?_
      refine (same_any _ _ (L) (L) _ hod.bs.rs (VA.out.1.below h0).bs.rs).mono ?_
      rintro e wz ⟨rfl, hbz⟩
      rw [sameB_yes rfl]
      have h0 := below_then h0 hbz
      refine ⟨_, rfl, h0, ?_⟩
      simp only [Act.put, List.setIfInBounds_toArray, List.set_cons_zero, List.set_cons_succ]
      refine reg_take 6 79 (.bool true) (by kernel_rfl) (fun _ _ => by kernel_rfl) h0 ?_
      simp only [Act.put, List.setIfInBounds_toArray, List.set_cons_zero, List.set_cons_succ]
      refine reg_take 7 80 (.slice (some ⟨gx, 0, none⟩) 16 16) (by kernel_rfl) (fun _ _ => by kernel_rfl) h0 ?_
      simp only [Act.put, List.setIfInBounds_toArray, List.set_cons_zero, List.set_cons_succ]
      refine reg_take 8 81 (.slice ua key.length uc) (by kernel_rfl) (fun _ _ => by kernel_rfl) h0 ?_
      simp only [Act.put, List.setIfInBounds_toArray, List.set_cons_zero, List.set_cons_succ]
      refine reg_take 9 82 (.string s) (by kernel_rfl) (fun _ _ => by kernel_rfl) h0 ?_
      simp only [Act.put, List.setIfInBounds_toArray, List.set_cons_zero, List.set_cons_succ]
      refine reg_call 10 83 34 #[.slice ua key.length uc, .string s, .int .i64 16] (by kernel_rfl) (by kernel_rfl) ?_
      refine (HKY.out.2.2.2.1 _ (BV _ h0)).mono ?_
      rintro e wz ⟨ve, rfl, hoe, hbz⟩
      obtain ⟨vea, vec, rfl⟩ := hoe.form
      have h0 := below_then h0 hbz
      refine ⟨_, rfl, h0, ?_⟩
      simp only [Act.put, List.setIfInBounds_toArray, List.set_cons_zero, List.set_cons_succ]
      refine reg_call 11 84 26 #[.slice (some ⟨gx, 0, none⟩) 16 16, .slice vea ((List.range 16).map X).length vec] (by kernel_rfl) (by kernel_rfl) ?_
      refine (same_any _ _ ((List.range 16).map X) ((List.range 16).map X) _ (VA.out.2.below h0) hoe.bs.rs).mono ?_
      rintro e wz ⟨rfl, hbz⟩
      rw [sameB_yes rfl]
      have h0 := below_then h0 hbz
      refine ⟨_, rfl, h0, ?_⟩
      simp only [Act.put, List.setIfInBounds_toArray, List.set_cons_zero, List.set_cons_succ]
      refine reg_take 12 85 (.bool true) (by kernel_rfl) (fun _ _ => by kernel_rfl) h0 ?_
      simp only [Act.put, List.setIfInBounds_toArray, List.set_cons_zero, List.set_cons_succ]
      refine reg_take 13 8 (.bool true) (by kernel_rfl) (fun _ _ => by kernel_rfl) h0 ?_
      simp only [Act.put, List.setIfInBounds_toArray, List.set_cons_zero, List.set_cons_succ]
      refine reg_done (by kernel_rfl) (HF.out _ _ ?_)
      have h0 := BV _ h0
      clear HF
      go_wp2_with fail
      go_ret
      exact ⟨rfl, h0⟩

theorem macDerives_walk (w : World) (u : Value) (key : List Nat) (hu : Rs w u key) (s : ByteArray) (hs : s.size ≤ maxLen) (n : Int) (wn : (Lit.int .i64 n).wf = true) (less : Int) (wl : (Lit.int .u8 less).wf = true) (hK : Consts w Sha.tab) :
    Calls Tryd.prog 12 #[u, .string s, .int .i64 n, .int .u8 less] w (RetBool true w) := by
  unfold maxLen at hs
  by_cases hl : 200 < key.length ∨ 100 < s.size ∨ 500 < n
  · exact macDerives_long w u key hu s n less hl (by omega) hK
  have h1 := bounds_i64 wn
  have h2 := bounds_u8 wl
  obtain ⟨m, rfl⟩ := Int.eq_ofNat_of_zero_le h2.1
  exact macDerives_core w u key hu s n m (by omega) (by omega) (by omega) (by omega) (by omega) hK

/-! ### THE ROW's STEP -/
namespace macDerivesF
theorem own : ownKnob Tryd.prog.godebug = none := by kernel_rfl
theorem laidOut : laidOutB Tryd.prog = true := by kernel_rfl
theorem gT : Tryd.prog.globalNamed "toll/sha.constants" = some 0 := by kernel_rfl
theorem gTType : (Tryd.prog.globals[0]?).map (·.type) = some 37 := by kernel_rfl
theorem door_met (os : Os) (args : Array Value) : laidMetH Tryd.prog Rows.macDerivesRow.laid ((World.doorLaid Tryd.prog 400 os).forCall (fun _ _ => 0) ⟨#[], args, []⟩).memory :=
  laidMetH_of_parts3 (fuel := 8) (laidMet_of_run' 8 (by kernel_rfl) (by kernel_rfl)) (by kernel_rfl) (by kernel_rfl)
theorem of_laid {W : World} (h : laidMetH Tryd.prog Rows.macDerivesRow.laid W) : Consts W Sha.tab := fun i hi => by
  rw [MakeChecks.laidMetH_plain _ _ _ (by kernel_rfl)] at h
  have hT := Lib.tabIs_of_head (k := .u32) (zs := Sha.tableL.map fun n : Nat => (n : Int)) gT gTType Tryd.underlying37 Tryd.underlying31 (by kernel_rfl) (by kernel_rfl) h
  have hl : i < Sha.tableL.length := hi
  rw [hT.cell gT i (by simpa using hl)]
  simp [Sha.tab, List.getD, hl]
set_option maxRecDepth 100000 in
theorem lifted (os : Os) (started : os.Started) (H : Type) (enc : TypeId × Value → H) :
    ReturnsInHanded {} Tryd.checked os 12 .any (fun w args => (Rows.macDerivesSpec.pre enc Tryd.prog Tryd.f12 [] false w args ∧ laidMetH Tryd.prog Rows.macDerivesRow.laid w) ∧ sizedMet enc Tryd.prog Tryd.f12 (OpenSpec.ofChange Rows.macDerivesSpec) false w args)
      (Rows.macDerivesSpec.post enc Tryd.prog Tryd.f12 false true false false) := by
  refine returnsInHanded_of_change_and (C := Tryd.checked) (X := fun w _ => laidMetH Tryd.prog Rows.macDerivesRow.laid w) (fun _ _ _ hh h => h.of_heap hh) own started (by kernel_rfl) Tryd.func12
    (ChangeSpec.witness_shaped (enc := enc) (C := Tryd.checked) (os := os) (X := fun w _ => laidMetH Tryd.prog Rows.macDerivesRow.laid w) false (World.doorLaid Tryd.prog 400 os) #[.slice none 0 0, .string ByteArray.empty, .int .i64 0, .int .u8 0] 8 rfl (World.shaped_of_RefB (by kernel_rfl) (by kernel_rfl)) (by kernel_rfl) (by kernel_rfl) (by kernel_rfl) (door_met os _)) ?_
  intro W base args ds gs before hval0 hW _ _ hL _
  have hK := of_laid hL
  have hval : ∀ (j : Nat) t v, Tryd.f12.params[j]? = some t → args[j]? = some v → Value.okWide Tryd.prog W .any base t v := hval0
  have hW' := hW
  obtain ⟨p, q, hA0, hV, rfl, _, _⟩ := hW
  have hA : DataW.TrodAll enc Tryd.prog W 0 (fun _ => true) true Tryd.f12.params.toList args.toList ds p := hA0
  rw [Tryd.params12] at hA hval
  obtain ⟨v0, vs0, d0, ds0, p0, q0, hargs, rfl, rfl, h0, r0⟩ := trodAll_cons hA
  obtain ⟨v1, vs1, d1, ds1, p1, q1, rfl, rfl, rfl, h1, r1⟩ := trodAll_cons r0
  obtain ⟨v2, vs2, d2, ds2, p2, q2, rfl, rfl, rfl, h2, r2⟩ := trodAll_cons r1
  obtain ⟨v3, vs3, d3, ds3, p3, q3, rfl, rfl, rfl, h3, r3⟩ := trodAll_cons r2
  obtain ⟨rfl, rfl, rfl⟩ := trodAll_nil r3
  obtain rfl : args = #[v0, v1, v2, v3] := by cases args; simp_all
  obtain ⟨rfl, rfl⟩ := trodVars_none hV
  have k0 := h0
  have lt0 : ∀ x ∈ p0, x.block < W.heap.size := by obtain ⟨m, hm⟩ := k0; exact DataW.trod_lt m _ _ _ hm
  obtain ⟨a0, len0, cap0, rfl⟩ := okWide_slice Tryd.underlying24 (hval 0 24 v0 rfl rfl)
  obtain ⟨z0, w0⟩ := open_bytes Tryd.underlying24 Tryd.underlying5 (by kernel_rfl) h0
  have k1 := h1
  have lt1 : ∀ x ∈ p1, x.block < W.heap.size := by obtain ⟨m, hm⟩ := k1; exact DataW.trod_lt m _ _ _ hm
  obtain ⟨a1, rfl, _, _, w1⟩ := Go.ChangeMaps.open_string Tryd.underlying9 (hval 1 9 v1 rfl rfl) h1
  have k2 := h2
  have lt2 : ∀ x ∈ p2, x.block < W.heap.size := by obtain ⟨m, hm⟩ := k2; exact DataW.trod_lt m _ _ _ hm
  obtain ⟨a2, rfl, _, _, w2⟩ := open_int Tryd.underlying3 (hval 2 3 v2 rfl rfl) h2
  have k3 := h3
  have lt3 : ∀ x ∈ p3, x.block < W.heap.size := by obtain ⟨m, hm⟩ := k3; exact DataW.trod_lt m _ _ _ hm
  obtain ⟨a3, rfl, _, _, w3⟩ := open_int Tryd.underlying5 (hval 3 5 v3 rfl rfl) h3
  refine (macDerives_walk W _ z0 w0 a1 w1 a2 w2 a3 w3 hK).mono fun e W' ⟨he, bel⟩ => ?_
  subst he
  exact ⟨_, rfl, _, _, _, [], _, [], hW', trodAll_mk1 (shut_bool Tryd.underlying4 _), (trodAll_cons_mk (Below.trod laidOut (by kernel_rfl) (of_decide_eq_true (by kernel_rfl)) k0 bel lt0) (trodAll_cons_mk (Below.trod laidOut (by kernel_rfl) (of_decide_eq_true (by kernel_rfl)) k1 bel lt1) (trodAll_cons_mk (Below.trod laidOut (by kernel_rfl) (of_decide_eq_true (by kernel_rfl)) k2 bel lt2) (trodAll_cons_mk (Below.trod laidOut (by kernel_rfl) (of_decide_eq_true (by kernel_rfl)) k3 bel lt3) trodAll_mk0)))), rfl, bel.frame _, fun h => by cases h⟩
theorem over : Rows.macDerivesRow.holds Tryd.pinned (OpenSpec.ofChange Rows.macDerivesSpec) :=
  OpenClaim.holds_of_wide 12 Tryd.f12 rfl rfl rfl rfl rfl rfl rfl ⟨rfl, rfl, rfl, rfl, rfl⟩ rfl rfl rfl rfl rfl (by kernel_rfl) Tryd.func12 (by kernel_rfl)
    (of_decide_eq_true (by kernel_rfl)) (by unfold Func.isWrapper; first | (rw [if_pos (by decide +kernel)]; kernel_rfl) | (rw [if_neg (by decide +kernel)]; exact ⟨rfl, rfl⟩))
    (fun os started H enc _ => lifted os started H enc)
end macDerivesF
/-- The row. -/
theorem macDerives_row : Rows.MacDerivesSaid := macDerivesF.over
/-- The statement: the card. -/
theorem macDerives_holds : Rows.MacDerivesCardSaid :=
  Claim7.holds_tied_plain_at .later [] [.data] true Rows.macDerivesCard.stood.harness false
    macDerives_row (fun _ h => by cases h) (by kernel_rfl) (fun _ h => by cases h) macDerives_row_tie rfl ⟨rfl, rfl⟩ (by kernel_rfl) rfl
    (fun f fn hf hfn => by
      obtain rfl : f = 12 := Option.some.inj ((show Tryd.prog.funcNamed "toll/tolllaw05.MacDerives" = some 12 by kernel_rfl).symm.trans hf) |>.symm
      obtain rfl : fn = Tryd.f12 := (Option.some.inj (Tryd.func12.symm.trans hfn)).symm
      exact ⟨by kernel_rfl, fun j t ht => by
        rw [Tryd.params12] at ht
        have hm : t ∈ [24, 9, 3, 5] := by simpa using Array.mem_of_getElem? ht
        have hall : ([24, 9, 3, 5].all fun u => !Tryd.prog.wantsStandIn u) = true := by kernel_rfl
        exact (show Tryd.prog.wantsStandIn t = false by simpa using List.all_eq_true.1 hall t hm)⟩)
    (by kernel_rfl)
#print axioms macDerives_holds
end Go.Proofs.YtgalddnblciciaaDoor
