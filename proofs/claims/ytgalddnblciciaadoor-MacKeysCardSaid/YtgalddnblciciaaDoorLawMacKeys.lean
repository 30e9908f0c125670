/- A key of more than 64 bytes has the codes of its digest, and a shorter one those of the key with zero bytes: for every seed, every number and every byte slice the law returns true. The variable sha.constants reads as the program's text lays it. -/
import Derived.Test.YtgalddnblciciaaDoorMacKit
import Derived.Test.YtgalddnblciciaaDoorRegB
namespace Go.Proofs.YtgalddnblciciaaDoor
open Go.ChangeShapes Go.WideShapes Go.ChangeAt Go.RowKit Go.Deep

theorem Mac.p0_zero (k : List Nat) (h : k.length ≤ 63) : Mac.p0 (k ++ [0]) = Mac.p0 k := by
  funext i
  unfold Mac.p0 Mac.k0
  rw [if_neg (by simp; omega), if_neg (by omega)]
  simp only [List.getD, List.getElem?_append]
  split
  · rfl
  · rename_i h'
    have e0 : k[i]? = none := List.getElem?_eq_none (by omega)
    rw [e0]
    rcases Nat.eq_zero_or_pos (i - k.length) with e | e
    · rw [e]; rfl
    · have e1 : ([0] : List Nat)[i - k.length]? = none := List.getElem?_eq_none (by simp; omega)
      rw [e1]
theorem Mac.hm_zero (k m : List Nat) (h : k.length ≤ 63) : Mac.hm (k ++ [0]) m = Mac.hm k m := by
  unfold Mac.hm; rw [Mac.p0_zero k h]

attribute [local irreducible] wpAnyH in
set_option maxRecDepth 100000 in
set_option maxHeartbeats 4000000 in
theorem macKeys_core (s : Int) (hs : 0 ≤ s ∧ s < 18446744073709551616) (n : Nat) (hn : n < 256) (w : World) (u : Value) (b : List Nat) (hb : Rs w u b) (hK : Consts w Sha.tab) :
    Calls Tryd.prog 11 #[.int .u64 s, .int .u8 n, u] w (RetBool true w) := by
  have HK := Lib.hid hK; clear hK
  have RB := Lib.hid hb
  have hbl := hb.len
  obtain ⟨ba, bc, rfl⟩ := hb.form
  clear hb
  by_cases h3 : 300 < b.length
  · have key := mac_key HK
    have d1 : decide ((300 : Int) < (b.length : Int)) = true := by simp; omega
    clear h3
    go_enter Tryd.func11, Tryd.ntmps11
    go_wp2_with fail
    refine (key _ (Below.refl _ _)).mono ?_
    rintro e w1 ⟨rfl, hb1⟩
    have B1 := Lib.hid hb1; clear hb1
    go_wp2_with fail
    refine (key _ B1.out).mono ?_
    rintro e w2 ⟨rfl, hb2⟩
    have B2 := Lib.hid hb2; clear hb2
    go_wp2_with fail
    go_ret
    exact ⟨rfl, B2.out⟩
  have d1 : decide ((300 : Int) < (b.length : Int)) = false := by simp; omega
  have hi32 : ∀ f, ((Tryd.prog).info? 26).map (·.size) = some (arr .u8 32 f).size := by intro f; rw [arr_size]; rfl
  obtain ⟨m, hm⟩ : ∃ m : Nat, (40 : Int) + (n : Int) % 50 = (m : Int) := ⟨40 + n % 50, by omega⟩
  have hm90 : m < 90 ∧ 0 < m := by omega
  have HM := Lib.hid hm; clear hm
  go_enter Tryd.func11, Tryd.ntmps11
  go_wp2_with fail
  refine (macAwake_any _ HK.out).mono ?_
  rintro e w1 ⟨rfl, hb1⟩
  have B1 := Lib.hid hb1; clear hb1
  go_wp2_with fail
  rw [HM.out]
  refine (spread_any s m _ hs (by omega)).mono ?_
  rintro e w2 ⟨L, vk, rfl, hl, ho, hb2⟩
  obtain rfl : L.length = m := hl
  have B2 := Lib.hid (B1.out.trans (hb2.mono B1.out.size)); clear hb2 B1
  have O := Lib.hid ho.bs
  obtain ⟨ka, kc, rfl⟩ := ho.bs.form
  clear ho
  obtain ⟨f, hf⟩ : ∃ f, f = Mac.hm L b := ⟨_, rfl⟩
  have S2 : ∀ w1, Below w2.heap.size w2 w1 → Calls Tryd.prog 30 #[.slice ka L.length kc, .slice ba b.length bc] w1 fun e w2 => e = .returned (.agg (arr .u8 32 f)) ∧ Below w1.heap.size w1 w2 := fun w1 hb => by
    rw [hf]
    exact refmac_any L b _ _ _ (O.out.below hb).rs (by omega) (RB.out.below (B2.out.trans (hb.mono B2.out.size))) (by omega)
  have S1 : ∀ w1 v, Below w2.heap.size w2 w1 → Bss w1 v [b] → Calls Tryd.prog 29 #[.slice ka L.length kc, v] w1 fun e w2 => e = .returned (.agg (arr .u8 32 f)) ∧ Below w1.heap.size w1 w2 := fun w1 v hb hv => by
    rw [hf]
    have := macsum_any L (.slice ka L.length kc) v [b] w1 (O.out.below hb).rs (by omega) hv (by simp [Wir.join]; omega) (by simp) (HK.out.below (B2.out.trans (hb.mono B2.out.size)))
    rwa [show Wir.join [b] = b by simp [Wir.join]] at this
  have S3 : ∀ w1 v u, L.length ≤ 63 → Below w2.heap.size w2 w1 → Rs w1 u (([] ++ L) ++ [0]) → Bss w1 v [b] → Calls Tryd.prog 29 #[u, v] w1 fun e w2 => e = .returned (.agg (arr .u8 32 f)) ∧ Below w1.heap.size w1 w2 := fun w1 v u h63 hb hu hv => by
    rw [hf, ← Mac.hm_zero L b h63]
    have := macsum_any (([] ++ L) ++ [0]) u v [b] w1 hu (by simp; omega) hv (by simp [Wir.join]; omega) (by simp) (HK.out.below (B2.out.trans (hb.mono B2.out.size)))
    rwa [show Wir.join [b] = b by simp [Wir.join]] at this
  clear hf
  go_wp2_with fail
  refine (S2 _ (Below.refl _ _)).mono ?_
  rintro e w3 ⟨rfl, hb3⟩
  go_upto_region 5 with (refine wpList_store_rowTo rfl _ _ _ rfl rfl w3.heap.size _ rfl rfl _ _ (heap_alloc_new _ _) (hi32 _) (by rw [arr_size]; rfl) (arr_one _ _ _) ?_; generalize hV : World.setRow _ w3.heap.size _ = V)
  have hbV : Below w2.heap.size w2 V := by rw [← hV]; exact below_setRow (hb3.alloc hb3.size _) hb3.size _
  have hA : isArr V w3.heap.size 26 .u8 32 f := by rw [← hV]; exact setRow_heap _ _ _ _ _ _ (heap_alloc_new _ _)
  have VB := Lib.hid hbV
  have VA := Lib.hid hA
  clear hV hb3 hbV hA
  generalize w3.heap.size = ga at VA ⊢
  have LX : ∀ w', Below V.heap.size V w' → ∀ i v, (arr .u8 32 f)[i]? = some v → w'.cell? ((⟨ga, 0, none⟩ : Addr).add i) = some v := fun w' h => (VA.out.below h VA.out.lt).cells
  have KV : ∀ w', Below V.heap.size V w' → Below w2.heap.size w2 w' := fun w' h => VB.out.trans (h.mono VB.out.size)
  have RBV : ∀ w', Below V.heap.size V w' → Rs w' (.slice ba b.length bc) b := fun w' h => RB.out.below (B2.out.trans ((KV w' h).mono B2.out.size))
  have RKV : ∀ w', Below V.heap.size V w' → Bs w' (.slice ka L.length kc) L := fun w' h => O.out.below (KV w' h)
  refine wp_reg Tryd.f11 5 6 (fun w' => Below V.heap.size V w') (by kernel_rfl) (by kernel_rfl) (by kernel_rfl) (below_drewN (Below.refl _ _) 1) (fun K hK h0 => ?_)
  refine reg_cast (listed' := #[false, false, false, false, false, false]) (by kernel_rfl) rfl ?_
  have HF := Lib.hid hK; clear hK
  refine reg_take 0 26 (.slice ka L.length kc) (by kernel_rfl) (fun _ _ => by kernel_rfl) h0 ?_
  simp only [Act.put, List.setIfInBounds_toArray, List.set_cons_zero, List.set_cons_succ]
  refine reg_take 1 27 (.slice ba b.length bc) (by kernel_rfl) (fun _ _ => by kernel_rfl) h0 ?_
  simp only [Act.put, List.setIfInBounds_toArray, List.set_cons_zero, List.set_cons_succ]
  refine reg_load 4 30 (by kernel_rfl) _ (.tmp 8) (by kernel_rfl) ⟨ga, 0, none⟩ (by kernel_rfl) (arr .u8 32 f) _ LX rfl rfl (hi32 _) h0 ?_
  simp only [Act.put, List.setIfInBounds_toArray, List.set_cons_zero, List.set_cons_succ]
  refine reg_one 2 (by kernel_rfl) (by kernel_rfl) (q_lay 28 (fun g => .slice (some ⟨g, 0, none⟩) 1 1) #[.slice ba b.length bc] 24 (by kernel_rfl) h0 (Nat.le_refl _) (by kernel_rfl) ?_)
  intro wr1 gr1 hBgr1 hg hz kq gr h0 hr
  have f2 : Blk wr1 gr1 #[.slice ba b.length bc] 24 := ⟨_, hr⟩
  have hl2 := f2.lt
  simp only [Act.put, List.setIfInBounds_toArray, List.set_cons_zero, List.set_cons_succ]
  refine reg_call 3 29 29 #[.slice ka L.length kc, .slice (some ⟨gr1, 0, none⟩) 1 1] (by kernel_rfl) (by kernel_rfl) ?_
  refine (S1 _ _ (KV _ h0) (f2.bss1 (RBV _ h0))).mono ?_
  rintro e wz ⟨rfl, hbz⟩
  have h0 := below_then h0 hbz
  refine ⟨_, rfl, h0, ?_⟩
  simp only [Act.put, List.setIfInBounds_toArray, List.set_cons_zero, List.set_cons_succ]
  refine reg_take 5 31 (.bool false) (by kernel_rfl) (fun w' _ => (run_neqIn_arr (P := Tryd.prog) (k := .u8) (n := 32) f f (x := .tmp 29) (y := .tmp 30) (ty := 26) (t := 26) (by kernel_rfl) (by kernel_rfl) (by kernel_rfl) Tryd.underlying26 Tryd.underlying5 (by kernel_rfl) (by kernel_rfl)).trans (by rw [sameArr_refl]; rfl)) h0 ?_
  simp only [Act.put, List.setIfInBounds_toArray, List.set_cons_zero, List.set_cons_succ]
  refine reg_done (by kernel_rfl) (HF.out _ _ ?_)
  clear HF
  go_wp2_with fail
  by_cases h63 : 63 < L.length
  · have d2 : decide ((63 : Int) < (L.length : Int)) = true := by simp; omega
    refine wp_reg Tryd.f11 7 16 (fun w' => Below V.heap.size V w') (by kernel_rfl) (by kernel_rfl) (by kernel_rfl) (below_drewN h0 1) (fun K hK h0 => ?_)
    refine reg_cast (listed' := #[false, false, false, false, false, false, false, false, false, false, false, false, false, false, false, false]) (by kernel_rfl) rfl ?_
    have HF := Lib.hid hK; clear hK
    refine reg_take 0 32 (.slice ka L.length kc) (by kernel_rfl) (fun _ _ => by kernel_rfl) h0 ?_
    simp only [Act.put, List.setIfInBounds_toArray, List.set_cons_zero, List.set_cons_succ]
    refine reg_take 1 33 (.int .i64 L.length) (by kernel_rfl) (fun _ _ => by kernel_rfl) h0 ?_
    simp only [Act.put, List.setIfInBounds_toArray, List.set_cons_zero, List.set_cons_succ]
    refine reg_take 2 34 (.bool true) (by kernel_rfl) (fun _ _ => (by rw [← d2]; kernel_rfl)) h0 ?_
    simp only [Act.put, List.setIfInBounds_toArray, List.set_cons_zero, List.set_cons_succ]
    refine reg_take 3 35 (.bool true) (by kernel_rfl) (fun _ _ => by kernel_rfl) h0 ?_
    simp only [Act.put, List.setIfInBounds_toArray, List.set_cons_zero, List.set_cons_succ]
    refine reg_off 4 36 (by kernel_rfl) h0 ?_
    simp only [Act.put, List.setIfInBounds_toArray, List.set_cons_zero, List.set_cons_succ]
    refine reg_off 5 37 (by kernel_rfl) h0 ?_
    simp only [Act.put, List.setIfInBounds_toArray, List.set_cons_zero, List.set_cons_succ]
    refine reg_off 6 38 (by kernel_rfl) h0 ?_
    simp only [Act.put, List.setIfInBounds_toArray, List.set_cons_zero, List.set_cons_succ]
    refine reg_off 7 39 (by kernel_rfl) h0 ?_
    simp only [Act.put, List.setIfInBounds_toArray, List.set_cons_zero, List.set_cons_succ]
    refine reg_off 8 40 (by kernel_rfl) h0 ?_
    simp only [Act.put, List.setIfInBounds_toArray, List.set_cons_zero, List.set_cons_succ]
    refine reg_off 9 41 (by kernel_rfl) h0 ?_
    simp only [Act.put, List.setIfInBounds_toArray, List.set_cons_zero, List.set_cons_succ]
    refine reg_off 10 42 (by kernel_rfl) h0 ?_
    simp only [Act.put, List.setIfInBounds_toArray, List.set_cons_zero, List.set_cons_succ]
    refine reg_off 11 43 (by kernel_rfl) h0 ?_
    simp only [Act.put, List.setIfInBounds_toArray, List.set_cons_zero, List.set_cons_succ]
    refine reg_off 12 44 (by kernel_rfl) h0 ?_
    simp only [Act.put, List.setIfInBounds_toArray, List.set_cons_zero, List.set_cons_succ]
    refine reg_off 13 45 (by kernel_rfl) h0 ?_
    simp only [Act.put, List.setIfInBounds_toArray, List.set_cons_zero, List.set_cons_succ]
    refine reg_take 14 46 (.bool true) (by kernel_rfl) (fun _ _ => by kernel_rfl) h0 ?_
    simp only [Act.put, List.setIfInBounds_toArray, List.set_cons_zero, List.set_cons_succ]
    refine reg_take 15 6 (.bool true) (by kernel_rfl) (fun _ _ => by kernel_rfl) h0 ?_
    simp only [Act.put, List.setIfInBounds_toArray, List.set_cons_zero, List.set_cons_succ]
    refine reg_done (by kernel_rfl) (HF.out _ _ ?_)
    have h0 := B2.out.trans ((KV _ h0).mono B2.out.size)
    clear HF
    go_wp2_with fail
    go_ret
    exact ⟨rfl, h0⟩
  · have d2 : decide ((63 : Int) < (L.length : Int)) = false := by simp; omega
    refine wp_reg Tryd.f11 7 16 (fun w' => Below V.heap.size V w') (by kernel_rfl) (by kernel_rfl) (by kernel_rfl) (below_drewN h0 1) (fun K hK h0 => ?_)
    refine reg_cast (listed' := #[false, false, false, false, false, false, false, false, false, false, false, false, false, false, false, false]) (by kernel_rfl) rfl ?_
    have HF := Lib.hid hK; clear hK
    refine reg_take 0 32 (.slice ka L.length kc) (by kernel_rfl) (fun _ _ => by kernel_rfl) h0 ?_
    simp only [Act.put, List.setIfInBounds_toArray, List.set_cons_zero, List.set_cons_succ]
    refine reg_take 1 33 (.int .i64 L.length) (by kernel_rfl) (fun _ _ => by kernel_rfl) h0 ?_
    simp only [Act.put, List.setIfInBounds_toArray, List.set_cons_zero, List.set_cons_succ]
    refine reg_take 2 34 (.bool false) (by kernel_rfl) (fun _ _ => (by rw [← d2]; kernel_rfl)) h0 ?_
    simp only [Act.put, List.setIfInBounds_toArray, List.set_cons_zero, List.set_cons_succ]
    refine reg_take 3 35 (.bool false) (by kernel_rfl) (fun _ _ => by kernel_rfl) h0 ?_
    simp only [Act.put, List.setIfInBounds_toArray, List.set_cons_zero, List.set_cons_succ]
    refine reg_take 5 37 (.slice ka L.length kc) (by kernel_rfl) (fun _ _ => by kernel_rfl) h0 ?_
    simp only [Act.put, List.setIfInBounds_toArray, List.set_cons_zero, List.set_cons_succ]
    refine reg_take 9 41 (.slice ba b.length bc) (by kernel_rfl) (fun _ _ => by kernel_rfl) h0 ?_
    simp only [Act.put, List.setIfInBounds_toArray, List.set_cons_zero, List.set_cons_succ]
    refine reg_load 12 44 (by kernel_rfl) _ (.tmp 8) (by kernel_rfl) ⟨ga, 0, none⟩ (by kernel_rfl) (arr .u8 32 f) _ LX rfl rfl (hi32 _) h0 ?_
    simp only [Act.put, List.setIfInBounds_toArray, List.set_cons_zero, List.set_cons_succ]
    refine reg_three 4 7 10 (by kernel_rfl) (by kernel_rfl) (q_lay 36 (fun g => .slice (some ⟨g, 0, none⟩) 0 0) (([] : List Nat).map bv).toArray 5 (by kernel_rfl) h0 (Nat.le_refl _) (by kernel_rfl) ?_) (q_lay 39 (fun g => .slice (some ⟨g, 0, none⟩) 1 1) (([0] : List Nat).map bv).toArray 5 (by kernel_rfl) h0 (Nat.le_refl _) (by kernel_rfl) ?_) (q_lay 42 (fun g => .slice (some ⟨g, 0, none⟩) 1 1) #[.slice ba b.length bc] 24 (by kernel_rfl) h0 (Nat.le_refl _) (by kernel_rfl) ?_)
    · intro wr2 gr2 hBgr2 hg hz kq gr h0 hr
      have f4 := OwnAt.of_raw (l := []) hr (allB_of _ (by decide)) hBgr2 (by decide) rfl
      have hl4 := f4.2.1
      simp only [Act.put, List.setIfInBounds_toArray, List.set_cons_zero, List.set_cons_succ]
      refine reg_three 6 7 10 (by kernel_rfl) (by kernel_rfl) (q_append 38 (.tmp 36) (.tmp 37) gr2 0 ([]) (.slice ka L.length kc) (L) (by kernel_rfl) (by kernel_rfl) (by kernel_rfl) (by kernel_rfl) f4 (RKV _ h0) (by simp; omega) h0 (Nat.le_refl _) ?_) (q_lay 39 (fun g => .slice (some ⟨g, 0, none⟩) 1 1) (([0] : List Nat).map bv).toArray 5 (by kernel_rfl) h0 (Nat.le_refl _) (by kernel_rfl) ?_) (q_lay 42 (fun g => .slice (some ⟨g, 0, none⟩) 1 1) #[.slice ba b.length bc] 24 (by kernel_rfl) h0 (Nat.le_refl _) (by kernel_rfl) ?_)
      · intro wr3 gr3 cr3 hor kq gr h0 f6
        have hz := kq.2.1
        have hl6 := f6.2.1
        simp only [Act.put, List.setIfInBounds_toArray, List.set_cons_zero, List.set_cons_succ]
        refine reg_two 7 10 (by kernel_rfl) (by kernel_rfl) (q_lay 39 (fun g => .slice (some ⟨g, 0, none⟩) 1 1) (([0] : List Nat).map bv).toArray 5 (by kernel_rfl) h0 (Nat.le_refl _) (by kernel_rfl) ?_) (q_lay 42 (fun g => .slice (some ⟨g, 0, none⟩) 1 1) #[.slice ba b.length bc] 24 (by kernel_rfl) h0 (Nat.le_refl _) (by kernel_rfl) ?_)
        · intro wr4 gr4 hBgr4 hg hz kq gr h0 hr
          have f6 := f6.kq gr (by simp)
          have hl6 := f6.2.1
          have f7 : Blk wr4 gr4 (([0] : List Nat).map bv).toArray 5 := ⟨_, hr⟩
          have hl7 := f7.lt
          simp only [Act.put, List.setIfInBounds_toArray, List.set_cons_zero, List.set_cons_succ]
          refine reg_two 8 10 (by kernel_rfl) (by kernel_rfl) (q_append 40 (.tmp 38) (.tmp 39) gr3 cr3 ([] ++ L) (.slice (some ⟨gr4, 0, none⟩) 1 1) ([0]) (by kernel_rfl) (by kernel_rfl) (by kernel_rfl) (by kernel_rfl) f6 (f7.bs (allB_of _ (by decide)) (by decide) rfl) (by simp; omega) h0 (Nat.le_refl _) ?_) (q_lay 42 (fun g => .slice (some ⟨g, 0, none⟩) 1 1) #[.slice ba b.length bc] 24 (by kernel_rfl) h0 (Nat.le_refl _) (by kernel_rfl) ?_)
          · intro wr5 gr5 cr5 hor kq gr h0 f8
            have hz := kq.2.1
            have f7 := f7.kq kq (by intro e; injection e; omega)
            have hl7 := f7.lt
            have hl8 := f8.2.1
            simp only [Act.put, List.setIfInBounds_toArray, List.set_cons_zero, List.set_cons_succ]
            refine reg_one 10 (by kernel_rfl) (by kernel_rfl) (q_lay 42 (fun g => .slice (some ⟨g, 0, none⟩) 1 1) #[.slice ba b.length bc] 24 (by kernel_rfl) h0 (Nat.le_refl _) (by kernel_rfl) ?_)
            intro wr6 gr6 hBgr6 hg hz kq gr h0 hr
            have f7 := f7.kq kq (by simp)
            have hl7 := f7.lt
            have f8 := f8.kq gr (by simp)
            have hl8 := f8.2.1
            have f10 : Blk wr6 gr6 #[.slice ba b.length bc] 24 := ⟨_, hr⟩
            have hl10 := f10.lt
            simp only [Act.put, List.setIfInBounds_toArray, List.set_cons_zero, List.set_cons_succ]
            refine reg_call 11 43 29 #[.slice (some ⟨gr5, 0, none⟩) ([] ++ L ++ [0]).length cr5, .slice (some ⟨gr6, 0, none⟩) 1 1] (by kernel_rfl) (by kernel_rfl) ?_
            refine (S3 _ _ _ (by omega) (KV _ h0) f8.rs (f10.bss1 (RBV _ h0))).mono ?_
            rintro e wz ⟨rfl, hbz⟩
            have h0 := below_then h0 hbz
            refine ⟨_, rfl, h0, ?_⟩
            simp only [Act.put, List.setIfInBounds_toArray, List.set_cons_zero, List.set_cons_succ]
            refine reg_take 13 45 (.bool true) (by kernel_rfl) (fun w' _ => (exec_eql_arr (P := Tryd.prog) (k := .u8) (n := 32) f f (x := .tmp 43) (y := .tmp 44) (ty := 26) (t := 26) (by kernel_rfl) (by kernel_rfl) (by kernel_rfl) Tryd.underlying26 Tryd.underlying5 (by kernel_rfl) (by kernel_rfl)).trans (by rw [sameArr_refl])) h0 ?_
            simp only [Act.put, List.setIfInBounds_toArray, List.set_cons_zero, List.set_cons_succ]
            refine reg_take 14 46 (.bool true) (by kernel_rfl) (fun _ _ => by kernel_rfl) h0 ?_
            simp only [Act.put, List.setIfInBounds_toArray, List.set_cons_zero, List.set_cons_succ]
            refine reg_take 15 6 (.bool true) (by kernel_rfl) (fun _ _ => by kernel_rfl) h0 ?_
            simp only [Act.put, List.setIfInBounds_toArray, List.set_cons_zero, List.set_cons_succ]
            refine reg_done (by kernel_rfl) (HF.out _ _ ?_)
            have h0 := B2.out.trans ((KV _ h0).mono B2.out.size)
            clear HF
            go_wp2_with fail
            go_ret
            exact ⟨rfl, h0⟩
          · intro wr7 gr7 hBgr7 hg hz kq gr h0 hr
            have f6 := f6.kq gr (by simp)
            have hl6 := f6.2.1
            have f7 := f7.kq kq (by simp)
            have hl7 := f7.lt
            have f10 : Blk wr7 gr7 #[.slice ba b.length bc] 24 := ⟨_, hr⟩
            have hl10 := f10.lt
            simp only [Act.put, List.setIfInBounds_toArray, List.set_cons_zero, List.set_cons_succ]
            refine reg_one 8 (by kernel_rfl) (by kernel_rfl) (q_append 40 (.tmp 38) (.tmp 39) gr3 cr3 ([] ++ L) (.slice (some ⟨gr4, 0, none⟩) 1 1) ([0]) (by kernel_rfl) (by kernel_rfl) (by kernel_rfl) (by kernel_rfl) f6 (f7.bs (allB_of _ (by decide)) (by decide) rfl) (by simp; omega) h0 (Nat.le_refl _) ?_)
            intro wr8 gr8 cr8 hor kq gr h0 f8
            have hz := kq.2.1
            have f7 := f7.kq kq (by intro e; injection e; omega)
            have hl7 := f7.lt
            have f10 := f10.kq kq (by intro e; injection e; omega)
            have hl10 := f10.lt
            have hl8 := f8.2.1
            simp only [Act.put, List.setIfInBounds_toArray, List.set_cons_zero, List.set_cons_succ]
            refine reg_call 11 43 29 #[.slice (some ⟨gr8, 0, none⟩) ([] ++ L ++ [0]).length cr8, .slice (some ⟨gr7, 0, none⟩) 1 1] (by kernel_rfl) (by kernel_rfl) ?_
            refine (S3 _ _ _ (by omega) (KV _ h0) f8.rs (f10.bss1 (RBV _ h0))).mono ?_
            rintro e wz ⟨rfl, hbz⟩
            have h0 := below_then h0 hbz
            refine ⟨_, rfl, h0, ?_⟩
            simp only [Act.put, List.setIfInBounds_toArray, List.set_cons_zero, List.set_cons_succ]
            refine reg_take 13 45 (.bool true) (by kernel_rfl) (fun w' _ => (exec_eql_arr (P := Tryd.prog) (k := .u8) (n := 32) f f (x := .tmp 43) (y := .tmp 44) (ty := 26) (t := 26) (by kernel_rfl) (by kernel_rfl) (by kernel_rfl) Tryd.underlying26 Tryd.underlying5 (by kernel_rfl) (by kernel_rfl)).trans (by rw [sameArr_refl])) h0 ?_
            simp only [Act.put, List.setIfInBounds_toArray, List.set_cons_zero, List.set_cons_succ]
            refine reg_take 14 46 (.bool true) (by kernel_rfl) (fun _ _ => by kernel_rfl) h0 ?_
            simp only [Act.put, List.setIfInBounds_toArray, List.set_cons_zero, List.set_cons_succ]
            refine reg_take 15 6 (.bool true) (by kernel_rfl) (fun _ _ => by kernel_rfl) h0 ?_
            simp only [Act.put, List.setIfInBounds_toArray, List.set_cons_zero, List.set_cons_succ]
            refine reg_done (by kernel_rfl) (HF.out _ _ ?_)
            have h0 := B2.out.trans ((KV _ h0).mono B2.out.size)
            clear HF
            go_wp2_with fail
            go_ret
            exact ⟨rfl, h0⟩
        · intro wr9 gr9 hBgr9 hg hz kq gr h0 hr
          have f6 := f6.kq gr (by simp)
          have hl6 := f6.2.1
          have f10 : Blk wr9 gr9 #[.slice ba b.length bc] 24 := ⟨_, hr⟩
          have hl10 := f10.lt
          simp only [Act.put, List.setIfInBounds_toArray, List.set_cons_zero, List.set_cons_succ]
          refine reg_one 7 (by kernel_rfl) (by kernel_rfl) (q_lay 39 (fun g => .slice (some ⟨g, 0, none⟩) 1 1) (([0] : List Nat).map bv).toArray 5 (by kernel_rfl) h0 (Nat.le_refl _) (by kernel_rfl) ?_)
          intro wr10 gr10 hBgr10 hg hz kq gr h0 hr
          have f6 := f6.kq gr (by simp)
          have hl6 := f6.2.1
          have f10 := f10.kq kq (by simp)
          have hl10 := f10.lt
          have f7 : Blk wr10 gr10 (([0] : List Nat).map bv).toArray 5 := ⟨_, hr⟩
          have hl7 := f7.lt
          simp only [Act.put, List.setIfInBounds_toArray, List.set_cons_zero, List.set_cons_succ]
          refine reg_one 8 (by kernel_rfl) (by kernel_rfl) (q_append 40 (.tmp 38) (.tmp 39) gr3 cr3 ([] ++ L) (.slice (some ⟨gr10, 0, none⟩) 1 1) ([0]) (by kernel_rfl) (by kernel_rfl) (by kernel_rfl) (by kernel_rfl) f6 (f7.bs (allB_of _ (by decide)) (by decide) rfl) (by simp; omega) h0 (Nat.le_refl _) ?_)
          intro wr11 gr11 cr11 hor kq gr h0 f8
          have hz := kq.2.1
          have f7 := f7.kq kq (by intro e; injection e; omega)
          have hl7 := f7.lt
          have f10 := f10.kq kq (by intro e; injection e; omega)
          have hl10 := f10.lt
          have hl8 := f8.2.1
          simp only [Act.put, List.setIfInBounds_toArray, List.set_cons_zero, List.set_cons_succ]
          refine reg_call 11 43 29 #[.slice (some ⟨gr11, 0, none⟩) ([] ++ L ++ [0]).length cr11, .slice (some ⟨gr9, 0, none⟩) 1 1] (by kernel_rfl) (by kernel_rfl) ?_
          refine (S3 _ _ _ (by omega) (KV _ h0) f8.rs (f10.bss1 (RBV _ h0))).mono ?_
          rintro e wz ⟨rfl, hbz⟩
          have h0 := below_then h0 hbz
          refine ⟨_, rfl, h0, ?_⟩
          simp only [Act.put, List.setIfInBounds_toArray, List.set_cons_zero, List.set_cons_succ]
          refine reg_take 13 45 (.bool true) (by kernel_rfl) (fun w' _ => (exec_eql_arr (P := Tryd.prog) (k := .u8) (n := 32) f f (x := .tmp 43) (y := .tmp 44) (ty := 26) (t := 26) (by kernel_rfl) (by kernel_rfl) (by kernel_rfl) Tryd.underlying26 Tryd.underlying5 (by kernel_rfl) (by kernel_rfl)).trans (by rw [sameArr_refl])) h0 ?_
          simp only [Act.put, List.setIfInBounds_toArray, List.set_cons_zero, List.set_cons_succ]
          refine reg_take 14 46 (.bool true) (by kernel_rfl) (fun _ _ => by kernel_rfl) h0 ?_
          simp only [Act.put, List.setIfInBounds_toArray, List.set_cons_zero, List.set_cons_succ]
          refine reg_take 15 6 (.bool true) (by kernel_rfl) (fun _ _ => by kernel_rfl) h0 ?_
          simp only [Act.put, List.setIfInBounds_toArray, List.set_cons_zero, List.set_cons_succ]
          refine reg_done (by kernel_rfl) (HF.out _ _ ?_)
          have h0 := B2.out.trans ((KV _ h0).mono B2.out.size)
          clear HF
          go_wp2_with fail
          go_ret
          exact ⟨rfl, h0⟩
      · intro wr12 gr12 hBgr12 hg hz kq gr h0 hr
        have f4 := f4.kq gr (by simp)
        have hl4 := f4.2.1
        have f7 : Blk wr12 gr12 (([0] : List Nat).map bv).toArray 5 := ⟨_, hr⟩
        have hl7 := f7.lt
        simp only [Act.put, List.setIfInBounds_toArray, List.set_cons_zero, List.set_cons_succ]
        refine reg_two 6 10 (by kernel_rfl) (by kernel_rfl) (q_append 38 (.tmp 36) (.tmp 37) gr2 0 ([]) (.slice ka L.length kc) (L) (by kernel_rfl) (by kernel_rfl) (by kernel_rfl) (by kernel_rfl) f4 (RKV _ h0) (by simp; omega) h0 (Nat.le_refl _) ?_) (q_lay 42 (fun g => .slice (some ⟨g, 0, none⟩) 1 1) #[.slice ba b.length bc] 24 (by kernel_rfl) h0 (Nat.le_refl _) (by kernel_rfl) ?_)
        · intro wr13 gr13 cr13 hor kq gr h0 f6
          have hz := kq.2.1
          have f7 := f7.kq kq (by intro e; injection e; omega)
          have hl7 := f7.lt
          have hl6 := f6.2.1
          simp only [Act.put, List.setIfInBounds_toArray, List.set_cons_zero, List.set_cons_succ]
          refine reg_two 8 10 (by kernel_rfl) (by kernel_rfl) (q_append 40 (.tmp 38) (.tmp 39) gr13 cr13 ([] ++ L) (.slice (some ⟨gr12, 0, none⟩) 1 1) ([0]) (by kernel_rfl) (by kernel_rfl) (by kernel_rfl) (by kernel_rfl) f6 (f7.bs (allB_of _ (by decide)) (by decide) rfl) (by simp; omega) h0 (Nat.le_refl _) ?_) (q_lay 42 (fun g => .slice (some ⟨g, 0, none⟩) 1 1) #[.slice ba b.length bc] 24 (by kernel_rfl) h0 (Nat.le_refl _) (by kernel_rfl) ?_)
          · intro wr14 gr14 cr14 hor kq gr h0 f8
            have hz := kq.2.1
            have f7 := f7.kq kq (by intro e; injection e; omega)
            have hl7 := f7.lt
            have hl8 := f8.2.1
            simp only [Act.put, List.setIfInBounds_toArray, List.set_cons_zero, List.set_cons_succ]
            refine reg_one 10 (by kernel_rfl) (by kernel_rfl) (q_lay 42 (fun g => .slice (some ⟨g, 0, none⟩) 1 1) #[.slice ba b.length bc] 24 (by kernel_rfl) h0 (Nat.le_refl _) (by kernel_rfl) ?_)
            intro wr15 gr15 hBgr15 hg hz kq gr h0 hr
            have f7 := f7.kq kq (by simp)
            have hl7 := f7.lt
            have f8 := f8.kq gr (by simp)
            have hl8 := f8.2.1
            have f10 : Blk wr15 gr15 #[.slice ba b.length bc] 24 := ⟨_, hr⟩
            have hl10 := f10.lt
            simp only [Act.put, List.setIfInBounds_toArray, List.set_cons_zero, List.set_cons_succ]
            refine reg_call 11 43 29 #[.slice (some ⟨gr14, 0, none⟩) ([] ++ L ++ [0]).length cr14, .slice (some ⟨gr15, 0, none⟩) 1 1] (by kernel_rfl) (by kernel_rfl) ?_
            refine (S3 _ _ _ (by omega) (KV _ h0) f8.rs (f10.bss1 (RBV _ h0))).mono ?_
            rintro e wz ⟨rfl, hbz⟩
            have h0 := below_then h0 hbz
            refine ⟨_, rfl, h0, ?_⟩
            simp only [Act.put, List.setIfInBounds_toArray, List.set_cons_zero, List.set_cons_succ]
            refine reg_take 13 45 (.bool true) (by kernel_rfl) (fun w' _ => (exec_eql_arr (P := Tryd.prog) (k := .u8) (n := 32) f f (x := .tmp 43) (y := .tmp 44) (ty := 26) (t := 26) (by kernel_rfl) (by kernel_rfl) (by kernel_rfl) Tryd.underlying26 Tryd.underlying5 (by kernel_rfl) (by kernel_rfl)).trans (by rw [sameArr_refl])) h0 ?_
            simp only [Act.put, List.setIfInBounds_toArray, List.set_cons_zero, List.set_cons_succ]
            refine reg_take 14 46 (.bool true) (by kernel_rfl) (fun _ _ => by kernel_rfl) h0 ?_
            simp only [Act.put, List.setIfInBounds_toArray, List.set_cons_zero, List.set_cons_succ]
            refine reg_take 15 6 (.bool true) (by kernel_rfl) (fun _ _ => by kernel_rfl) h0 ?_
            simp only [Act.put, List.setIfInBounds_toArray, List.set_cons_zero, List.set_cons_succ]
            refine reg_done (by kernel_rfl) (HF.out _ _ ?_)
            have h0 := B2.out.trans ((KV _ h0).mono B2.out.size)
            clear HF
            go_wp2_with fail
            go_ret
            exact ⟨rfl, h0⟩
          · intro wr16 gr16 hBgr16 hg hz kq gr h0 hr
            have f6 := f6.kq gr (by simp)
            have hl6 := f6.2.1
            have f7 := f7.kq kq (by simp)
            have hl7 := f7.lt
            have f10 : Blk wr16 gr16 #[.slice ba b.length bc] 24 := ⟨_, hr⟩
            have hl10 := f10.lt
            simp only [Act.put, List.setIfInBounds_toArray, List.set_cons_zero, List.set_cons_succ]
            refine reg_one 8 (by kernel_rfl) (by kernel_rfl) (q_append 40 (.tmp 38) (.tmp 39) gr13 cr13 ([] ++ L) (.slice (some ⟨gr12, 0, none⟩) 1 1) ([0]) (by kernel_rfl) (by kernel_rfl) (by kernel_rfl) (by kernel_rfl) f6 (f7.bs (allB_of _ (by decide)) (by decide) rfl) (by simp; omega) h0 (Nat.le_refl _) ?_)
            intro wr17 gr17 cr17 hor kq gr h0 f8
            have hz := kq.2.1
            have f7 := f7.kq kq (by intro e; injection e; omega)
            have hl7 := f7.lt
            have f10 := f10.kq kq (by intro e; injection e; omega)
            have hl10 := f10.lt
            have hl8 := f8.2.1
            simp only [Act.put, List.setIfInBounds_toArray, List.set_cons_zero, List.set_cons_succ]
            refine reg_call 11 43 29 #[.slice (some ⟨gr17, 0, none⟩) ([] ++ L ++ [0]).length cr17, .slice (some ⟨gr16, 0, none⟩) 1 1] (by kernel_rfl) (by kernel_rfl) ?_
            refine (S3 _ _ _ (by omega) (KV _ h0) f8.rs (f10.bss1 (RBV _ h0))).mono ?_
            rintro e wz ⟨rfl, hbz⟩
            have h0 := below_then h0 hbz
            refine ⟨_, rfl, h0, ?_⟩
            simp only [Act.put, List.setIfInBounds_toArray, List.set_cons_zero, List.set_cons_succ]
            refine reg_take 13 45 (.bool true) (by kernel_rfl) (fun w' _ => (exec_eql_arr (P := Tryd.prog) (k := .u8) (n := 32) f f (x := .tmp 43) (y := .tmp 44) (ty := 26) (t := 26) (by kernel_rfl) (by kernel_rfl) (by kernel_rfl) Tryd.underlying26 Tryd.underlying5 (by kernel_rfl) (by kernel_rfl)).trans (by rw [sameArr_refl])) h0 ?_
            simp only [Act.put, List.setIfInBounds_toArray, List.set_cons_zero, List.set_cons_succ]
            refine reg_take 14 46 (.bool true) (by kernel_rfl) (fun _ _ => by kernel_rfl) h0 ?_
            simp only [Act.put, List.setIfInBounds_toArray, List.set_cons_zero, List.set_cons_succ]
            refine reg_take 15 6 (.bool true) (by kernel_rfl) (fun _ _ => by kernel_rfl) h0 ?_
            simp only [Act.put, List.setIfInBounds_toArray, List.set_cons_zero, List.set_cons_succ]
            refine reg_done (by kernel_rfl) (HF.out _ _ ?_)
            have h0 := B2.out.trans ((KV _ h0).mono B2.out.size)
            clear HF
            go_wp2_with fail
            go_ret
            exact ⟨rfl, h0⟩
        · intro wr18 gr18 hBgr18 hg hz kq gr h0 hr
          have f4 := f4.kq gr (by simp)
          have hl4 := f4.2.1
          have f7 := f7.kq kq (by simp)
          have hl7 := f7.lt
          have f10 : Blk wr18 gr18 #[.slice ba b.length bc] 24 := ⟨_, hr⟩
          have hl10 := f10.lt
          simp only [Act.put, List.setIfInBounds_toArray, List.set_cons_zero, List.set_cons_succ]
          refine reg_one 6 (by kernel_rfl) (by kernel_rfl) (q_append 38 (.tmp 36) (.tmp 37) gr2 0 ([]) (.slice ka L.length kc) (L) (by kernel_rfl) (by kernel_rfl) (by kernel_rfl) (by kernel_rfl) f4 (RKV _ h0) (by simp; omega) h0 (Nat.le_refl _) ?_)
          intro wr19 gr19 cr19 hor kq gr h0 f6
          have hz := kq.2.1
          have f7 := f7.kq kq (by intro e; injection e; omega)
          have hl7 := f7.lt
          have f10 := f10.kq kq (by intro e; injection e; omega)
          have hl10 := f10.lt
          have hl6 := f6.2.1
          simp only [Act.put, List.setIfInBounds_toArray, List.set_cons_zero, List.set_cons_succ]
          refine reg_one 8 (by kernel_rfl) (by kernel_rfl) (q_append 40 (.tmp 38) (.tmp 39) gr19 cr19 ([] ++ L) (.slice (some ⟨gr12, 0, none⟩) 1 1) ([0]) (by kernel_rfl) (by kernel_rfl) (by kernel_rfl) (by kernel_rfl) f6 (f7.bs (allB_of _ (by decide)) (by decide) rfl) (by simp; omega) h0 (Nat.le_refl _) ?_)
          intro wr20 gr20 cr20 hor kq gr h0 f8
          have hz := kq.2.1
          have f7 := f7.kq kq (by intro e; injection e; omega)
          have hl7 := f7.lt
          have f10 := f10.kq kq (by intro e; injection e; omega)
          have hl10 := f10.lt
          have hl8 := f8.2.1
          simp only [Act.put, List.setIfInBounds_toArray, List.set_cons_zero, List.set_cons_succ]
          refine reg_call 11 43 29 #[.slice (some ⟨gr20, 0, none⟩) ([] ++ L ++ [0]).length cr20, .slice (some ⟨gr18, 0, none⟩) 1 1] (by kernel_rfl) (by kernel_rfl) ?_
          refine (S3 _ _ _ (by omega) (KV _ h0) f8.rs (f10.bss1 (RBV _ h0))).mono ?_
          rintro e wz ⟨rfl, hbz⟩
          have h0 := below_then h0 hbz
          refine ⟨_, rfl, h0, ?_⟩
          simp only [Act.put, List.setIfInBounds_toArray, List.set_cons_zero, List.set_cons_succ]
          refine reg_take 13 45 (.bool true) (by kernel_rfl) (fun w' _ => (exec_eql_arr (P := Tryd.prog) (k := .u8) (n := 32) f f (x := .tmp 43) (y := .tmp 44) (ty := 26) (t := 26) (by kernel_rfl) (by kernel_rfl) (by kernel_rfl) Tryd.underlying26 Tryd.underlying5 (by kernel_rfl) (by kernel_rfl)).trans (by rw [sameArr_refl])) h0 ?_
          simp only [Act.put, List.setIfInBounds_toArray, List.set_cons_zero, List.set_cons_succ]
          refine reg_take 14 46 (.bool true) (by kernel_rfl) (fun _ _ => by kernel_rfl) h0 ?_
          simp only [Act.put, List.setIfInBounds_toArray, List.set_cons_zero, List.set_cons_succ]
          refine reg_take 15 6 (.bool true) (by kernel_rfl) (fun _ _ => by kernel_rfl) h0 ?_
          simp only [Act.put, List.setIfInBounds_toArray, List.set_cons_zero, List.set_cons_succ]
          refine reg_done (by kernel_rfl) (HF.out _ _ ?_)
          have h0 := B2.out.trans ((KV _ h0).mono B2.out.size)
          clear HF
          go_wp2_with fail
          go_ret
          exact ⟨rfl, h0⟩
      · intro wr21 gr21 hBgr21 hg hz kq gr h0 hr
        have f4 := f4.kq gr (by simp)
        have hl4 := f4.2.1
        have f10 : Blk wr21 gr21 #[.slice ba b.length bc] 24 := ⟨_, hr⟩
        have hl10 := f10.lt
        simp only [Act.put, List.setIfInBounds_toArray, List.set_cons_zero, List.set_cons_succ]
        refine reg_two 6 7 (by kernel_rfl) (by kernel_rfl) (q_append 38 (.tmp 36) (.tmp 37) gr2 0 ([]) (.slice ka L.length kc) (L) (by kernel_rfl) (by kernel_rfl) (by kernel_rfl) (by kernel_rfl) f4 (RKV _ h0) (by simp; omega) h0 (Nat.le_refl _) ?_) (q_lay 39 (fun g => .slice (some ⟨g, 0, none⟩) 1 1) (([0] : List Nat).map bv).toArray 5 (by kernel_rfl) h0 (Nat.le_refl _) (by kernel_rfl) ?_)
        · intro wr22 gr22 cr22 hor kq gr h0 f6
          have hz := kq.2.1
          have f10 := f10.kq kq (by intro e; injection e; omega)
          have hl10 := f10.lt
          have hl6 := f6.2.1
          simp only [Act.put, List.setIfInBounds_toArray, List.set_cons_zero, List.set_cons_succ]
          refine reg_one 7 (by kernel_rfl) (by kernel_rfl) (q_lay 39 (fun g => .slice (some ⟨g, 0, none⟩) 1 1) (([0] : List Nat).map bv).toArray 5 (by kernel_rfl) h0 (Nat.le_refl _) (by kernel_rfl) ?_)
          intro wr23 gr23 hBgr23 hg hz kq gr h0 hr
          have f6 := f6.kq gr (by simp)
          have hl6 := f6.2.1
          have f10 := f10.kq kq (by simp)
          have hl10 := f10.lt
          have f7 : Blk wr23 gr23 (([0] : List Nat).map bv).toArray 5 := ⟨_, hr⟩
          have hl7 := f7.lt
          simp only [Act.put, List.setIfInBounds_toArray, List.set_cons_zero, List.set_cons_succ]
          refine reg_one 8 (by kernel_rfl) (by kernel_rfl) (q_append 40 (.tmp 38) (.tmp 39) gr22 cr22 ([] ++ L) (.slice (some ⟨gr23, 0, none⟩) 1 1) ([0]) (by kernel_rfl) (by kernel_rfl) (by kernel_rfl) (by kernel_rfl) f6 (f7.bs (allB_of _ (by decide)) (by decide) rfl) (by simp; omega) h0 (Nat.le_refl _) ?_)
          intro wr24 gr24 cr24 hor kq gr h0 f8
          have hz := kq.2.1
          have f7 := f7.kq kq (by intro e; injection e; omega)
          have hl7 := f7.lt
          have f10 := f10.kq kq (by intro e; injection e; omega)
          have hl10 := f10.lt
          have hl8 := f8.2.1
          simp only [Act.put, List.setIfInBounds_toArray, List.set_cons_zero, List.set_cons_succ]
          refine reg_call 11 43 29 #[.slice (some ⟨gr24, 0, none⟩) ([] ++ L ++ [0]).length cr24, .slice (some ⟨gr21, 0, none⟩) 1 1] (by kernel_rfl) (by kernel_rfl) ?_
          refine (S3 _ _ _ (by omega) (KV _ h0) f8.rs (f10.bss1 (RBV _ h0))).mono ?_
          rintro e wz ⟨rfl, hbz⟩
          have h0 := below_then h0 hbz
          refine ⟨_, rfl, h0, ?_⟩
          simp only [Act.put, List.setIfInBounds_toArray, List.set_cons_zero, List.set_cons_succ]
          refine reg_take 13 45 (.bool true) (by kernel_rfl) (fun w' _ => (exec_eql_arr (P := Tryd.prog) (k := .u8) (n := 32) f f (x := .tmp 43) (y := .tmp 44) (ty := 26) (t := 26) (by kernel_rfl) (by kernel_rfl) (by kernel_rfl) Tryd.underlying26 Tryd.underlying5 (by kernel_rfl) (by kernel_rfl)).trans (by rw [sameArr_refl])) h0 ?_
          simp only [Act.put, List.setIfInBounds_toArray, List.set_cons_zero, List.set_cons_succ]
          refine reg_take 14 46 (.bool true) (by kernel_rfl) (fun _ _ => by kernel_rfl) h0 ?_
          simp only [Act.put, List.setIfInBounds_toArray, List.set_cons_zero, List.set_cons_succ]
          refine reg_take 15 6 (.bool true) (by kernel_rfl) (fun _ _ => by kernel_rfl) h0 ?_
          simp only [Act.put, List.setIfInBounds_toArray, List.set_cons_zero, List.set_cons_succ]
          refine reg_done (by kernel_rfl) (HF.out _ _ ?_)
          have h0 := B2.out.trans ((KV _ h0).mono B2.out.size)
          clear HF
          go_wp2_with fail
          go_ret
          exact ⟨rfl, h0⟩
        · intro wr25 gr25 hBgr25 hg hz kq gr h0 hr
          have f4 := f4.kq gr (by simp)
          have hl4 := f4.2.1
          have f10 := f10.kq kq (by simp)
          have hl10 := f10.lt
          have f7 : Blk wr25 gr25 (([0] : List Nat).map bv).toArray 5 := ⟨_, hr⟩
          have hl7 := f7.lt
          simp only [Act.put, List.setIfInBounds_toArray, List.set_cons_zero, List.set_cons_succ]
          refine reg_one 6 (by kernel_rfl) (by kernel_rfl) (q_append 38 (.tmp 36) (.tmp 37) gr2 0 ([]) (.slice ka L.length kc) (L) (by kernel_rfl) (by kernel_rfl) (by kernel_rfl) (by kernel_rfl) f4 (RKV _ h0) (by simp; omega) h0 (Nat.le_refl _) ?_)
          intro wr26 gr26 cr26 hor kq gr h0 f6
          have hz := kq.2.1
          have f7 := f7.kq kq (by intro e; injection e; omega)
          have hl7 := f7.lt
          have f10 := f10.kq kq (by intro e; injection e; omega)
          have hl10 := f10.lt
          have hl6 := f6.2.1
          simp only [Act.put, List.setIfInBounds_toArray, List.set_cons_zero, List.set_cons_succ]
          refine reg_one 8 (by kernel_rfl) (by kernel_rfl) (q_append 40 (.tmp 38) (.tmp 39) gr26 cr26 ([] ++ L) (.slice (some ⟨gr25, 0, none⟩) 1 1) ([0]) (by kernel_rfl) (by kernel_rfl) (by kernel_rfl) (by kernel_rfl) f6 (f7.bs (allB_of _ (by decide)) (by decide) rfl) (by simp; omega) h0 (Nat.le_refl _) ?_)
          intro wr27 gr27 cr27 hor kq gr h0 f8
          have hz := kq.2.1
          have f7 := f7.kq kq (by intro e; injection e; omega)
          have hl7 := f7.lt
          have f10 := f10.kq kq (by intro e; injection e; omega)
          have hl10 := f10.lt
          have hl8 := f8.2.1
          simp only [Act.put, List.setIfInBounds_toArray, List.set_cons_zero, List.set_cons_succ]
          refine reg_call 11 43 29 #[.slice (some ⟨gr27, 0, none⟩) ([] ++ L ++ [0]).length cr27, .slice (some ⟨gr21, 0, none⟩) 1 1] (by kernel_rfl) (by kernel_rfl) ?_
          refine (S3 _ _ _ (by omega) (KV _ h0) f8.rs (f10.bss1 (RBV _ h0))).mono ?_
          rintro e wz ⟨rfl, hbz⟩
          have h0 := below_then h0 hbz
          refine ⟨_, rfl, h0, ?_⟩
          simp only [Act.put, List.setIfInBounds_toArray, List.set_cons_zero, List.set_cons_succ]
          refine reg_take 13 45 (.bool true) (by kernel_rfl) (fun w' _ => (exec_eql_arr (P := Tryd.prog) (k := .u8) (n := 32) f f (x := .tmp 43) (y := .tmp 44) (ty := 26) (t := 26) (by kernel_rfl) (by kernel_rfl) (by kernel_rfl) Tryd.underlying26 Tryd.underlying5 (by kernel_rfl) (by kernel_rfl)).trans (by rw [sameArr_refl])) h0 ?_
          simp only [Act.put, List.setIfInBounds_toArray, List.set_cons_zero, List.set_cons_succ]
          refine reg_take 14 46 (.bool true) (by kernel_rfl) (fun _ _ => by kernel_rfl) h0 ?_
          simp only [Act.put, List.setIfInBounds_toArray, List.set_cons_zero, List.set_cons_succ]
          refine reg_take 15 6 (.bool true) (by kernel_rfl) (fun _ _ => by kernel_rfl) h0 ?_
          simp only [Act.put, List.setIfInBounds_toArray, List.set_cons_zero, List.set_cons_succ]
          refine reg_done (by kernel_rfl) (HF.out _ _ ?_)
          have h0 := B2.out.trans ((KV _ h0).mono B2.out.size)
          clear HF
          go_wp2_with fail
          go_ret
          exact ⟨rfl, h0⟩
    · intro wr28 gr28 hBgr28 hg hz kq gr h0 hr
      have f7 : Blk wr28 gr28 (([0] : List Nat).map bv).toArray 5 := ⟨_, hr⟩
      have hl7 := f7.lt
      simp only [Act.put, List.setIfInBounds_toArray, List.set_cons_zero, List.set_cons_succ]
      refine reg_two 4 10 (by kernel_rfl) (by kernel_rfl) (q_lay 36 (fun g => .slice (some ⟨g, 0, none⟩) 0 0) (([] : List Nat).map bv).toArray 5 (by kernel_rfl) h0 (Nat.le_refl _) (by kernel_rfl) ?_) (q_lay 42 (fun g => .slice (some ⟨g, 0, none⟩) 1 1) #[.slice ba b.length bc] 24 (by kernel_rfl) h0 (Nat.le_refl _) (by kernel_rfl) ?_)
      · intro wr29 gr29 hBgr29 hg hz kq gr h0 hr
        have f7 := f7.kq kq (by simp)
        have hl7 := f7.lt
        have f4 := OwnAt.of_raw (l := []) hr (allB_of _ (by decide)) hBgr29 (by decide) rfl
        have hl4 := f4.2.1
        simp only [Act.put, List.setIfInBounds_toArray, List.set_cons_zero, List.set_cons_succ]
        refine reg_two 6 10 (by kernel_rfl) (by kernel_rfl) (q_append 38 (.tmp 36) (.tmp 37) gr29 0 ([]) (.slice ka L.length kc) (L) (by kernel_rfl) (by kernel_rfl) (by kernel_rfl) (by kernel_rfl) f4 (RKV _ h0) (by simp; omega) h0 (Nat.le_refl _) ?_) (q_lay 42 (fun g => .slice (some ⟨g, 0, none⟩) 1 1) #[.slice ba b.length bc] 24 (by kernel_rfl) h0 (Nat.le_refl _) (by kernel_rfl) ?_)
        · intro wr30 gr30 cr30 hor kq gr h0 f6
          have hz := kq.2.1
          have f7 := f7.kq kq (by intro e; injection e; omega)
          have hl7 := f7.lt
          have hl6 := f6.2.1
          simp only [Act.put, List.setIfInBounds_toArray, List.set_cons_zero, List.set_cons_succ]
          refine reg_two 8 10 (by kernel_rfl) (by kernel_rfl) (q_append 40 (.tmp 38) (.tmp 39) gr30 cr30 ([] ++ L) (.slice (some ⟨gr28, 0, none⟩) 1 1) ([0]) (by kernel_rfl) (by kernel_rfl) (by kernel_rfl) (by kernel_rfl) f6 (f7.bs (allB_of _ (by decide)) (by decide) rfl) (by simp; omega) h0 (Nat.le_refl _) ?_) (q_lay 42 (fun g => .slice (some ⟨g, 0, none⟩) 1 1) #[.slice ba b.length bc] 24 (by kernel_rfl) h0 (Nat.le_refl _) (by kernel_rfl) ?_)
          · intro wr31 gr31 cr31 hor kq gr h0 f8
            have hz := kq.2.1
            have f7 := f7.kq kq (by intro e; injection e; omega)
            have hl7 := f7.lt
            have hl8 := f8.2.1
            simp only [Act.put, List.setIfInBounds_toArray, List.set_cons_zero, List.set_cons_succ]
            refine reg_one 10 (by kernel_rfl) (by kernel_rfl) (q_lay 42 (fun g => .slice (some ⟨g, 0, none⟩) 1 1) #[.slice ba b.length bc] 24 (by kernel_rfl) h0 (Nat.le_refl _) (by kernel_rfl) ?_)
            intro wr32 gr32 hBgr32 hg hz kq gr h0 hr
            have f7 := f7.kq kq (by simp)
            have hl7 := f7.lt
            have f8 := f8.kq gr (by simp)
            have hl8 := f8.2.1
            have f10 : Blk wr32 gr32 #[.slice ba b.length bc] 24 := ⟨_, hr⟩
            have hl10 := f10.lt
            simp only [Act.put, List.setIfInBounds_toArray, List.set_cons_zero, List.set_cons_succ]
            refine reg_call 11 43 29 #[.slice (some ⟨gr31, 0, none⟩) ([] ++ L ++ [0]).length cr31, .slice (some ⟨gr32, 0, none⟩) 1 1] (by kernel_rfl) (by kernel_rfl) ?_
            refine (S3 _ _ _ (by omega) (KV _ h0) f8.rs (f10.bss1 (RBV _ h0))).mono ?_
            rintro e wz ⟨rfl, hbz⟩
            have h0 := below_then h0 hbz
            refine ⟨_, rfl, h0, ?_⟩
            simp only [Act.put, List.setIfInBounds_toArray, List.set_cons_zero, List.set_cons_succ]
            refine reg_take 13 45 (.bool true) (by kernel_rfl) (fun w' _ => (exec_eql_arr (P := Tryd.prog) (k := .u8) (n := 32) f f (x := .tmp 43) (y := .tmp 44) (ty := 26) (t := 26) (by kernel_rfl) (by kernel_rfl) (by kernel_rfl) Tryd.underlying26 Tryd.underlying5 (by kernel_rfl) (by kernel_rfl)).trans (by rw [sameArr_refl])) h0 ?_
            simp only [Act.put, List.setIfInBounds_toArray, List.set_cons_zero, List.set_cons_succ]
            refine reg_take 14 46 (.bool true) (by kernel_rfl) (fun _ _ => by kernel_rfl) h0 ?_
            simp only [Act.put, List.setIfInBounds_toArray, List.set_cons_zero, List.set_cons_succ]
            refine reg_take 15 6 (.bool true) (by kernel_rfl) (fun _ _ => by kernel_rfl) h0 ?_
            simp only [Act.put, List.setIfInBounds_toArray, List.set_cons_zero, List.set_cons_succ]
            refine reg_done (by kernel_rfl) (HF.out _ _ ?_)
            have h0 := B2.out.trans ((KV _ h0).mono B2.out.size)
            clear HF
            go_wp2_with fail
            go_ret
            exact ⟨rfl, h0⟩
          · intro wr33 gr33 hBgr33 hg hz kq gr h0 hr
            have f6 := f6.kq gr (by simp)
            have hl6 := f6.2.1
            have f7 := f7.kq kq (by simp)
            have hl7 := f7.lt
            have f10 : Blk wr33 gr33 #[.slice ba b.length bc] 24 := ⟨_, hr⟩
            have hl10 := f10.lt
            simp only [Act.put, List.setIfInBounds_toArray, List.set_cons_zero, List.set_cons_succ]
            refine reg_one 8 (by kernel_rfl) (by kernel_rfl) (q_append 40 (.tmp 38) (.tmp 39) gr30 cr30 ([] ++ L) (.slice (some ⟨gr28, 0, none⟩) 1 1) ([0]) (by kernel_rfl) (by kernel_rfl) (by kernel_rfl) (by kernel_rfl) f6 (f7.bs (allB_of _ (by decide)) (by decide) rfl) (by simp; omega) h0 (Nat.le_refl _) ?_)
            intro wr34 gr34 cr34 hor kq gr h0 f8
            have hz := kq.2.1
            have f7 := f7.kq kq (by intro e; injection e; omega)
            have hl7 := f7.lt
            have f10 := f10.kq kq (by intro e; injection e; omega)
            have hl10 := f10.lt
            have hl8 := f8.2.1
            simp only [Act.put, List.setIfInBounds_toArray, List.set_cons_zero, List.set_cons_succ]
            refine reg_call 11 43 29 #[.slice (some ⟨gr34, 0, none⟩) ([] ++ L ++ [0]).length cr34, .slice (some ⟨gr33, 0, none⟩) 1 1] (by kernel_rfl) (by kernel_rfl) ?_
            refine (S3 _ _ _ (by omega) (KV _ h0) f8.rs (f10.bss1 (RBV _ h0))).mono ?_
            rintro e wz ⟨rfl, hbz⟩
            have h0 := below_then h0 hbz
            refine ⟨_, rfl, h0, ?_⟩
            simp only [Act.put, List.setIfInBounds_toArray, List.set_cons_zero, List.set_cons_succ]
            refine reg_take 13 45 (.bool true) (by kernel_rfl) (fun w' _ => (exec_eql_arr (P := Tryd.prog) (k := .u8) (n := 32) f f (x := .tmp 43) (y := .tmp 44) (ty := 26) (t := 26) (by kernel_rfl) (by kernel_rfl) (by kernel_rfl) Tryd.underlying26 Tryd.underlying5 (by kernel_rfl) (by kernel_rfl)).trans (by rw [sameArr_refl])) h0 ?_
            simp only [Act.put, List.setIfInBounds_toArray, List.set_cons_zero, List.set_cons_succ]
            refine reg_take 14 46 (.bool true) (by kernel_rfl) (fun _ _ => by kernel_rfl) h0 ?_
            simp only [Act.put, List.setIfInBounds_toArray, List.set_cons_zero, List.set_cons_succ]
            refine reg_take 15 6 (.bool true) (by kernel_rfl) (fun _ _ => by kernel_rfl) h0 ?_
            simp only [Act.put, List.setIfInBounds_toArray, List.set_cons_zero, List.set_cons_succ]
            refine reg_done (by kernel_rfl) (HF.out _ _ ?_)
            have h0 := B2.out.trans ((KV _ h0).mono B2.out.size)
            clear HF
            go_wp2_with fail
            go_ret
            exact ⟨rfl, h0⟩
        · intro wr35 gr35 hBgr35 hg hz kq gr h0 hr
          have f4 := f4.kq gr (by simp)
          have hl4 := f4.2.1
          have f7 := f7.kq kq (by simp)
          have hl7 := f7.lt
          have f10 : Blk wr35 gr35 #[.slice ba b.length bc] 24 := ⟨_, hr⟩
          have hl10 := f10.lt
          simp only [Act.put, List.setIfInBounds_toArray, List.set_cons_zero, List.set_cons_succ]
          refine reg_one 6 (by kernel_rfl) (by kernel_rfl) (q_append 38 (.tmp 36) (.tmp 37) gr29 0 ([]) (.slice ka L.length kc) (L) (by kernel_rfl) (by kernel_rfl) (by kernel_rfl) (by kernel_rfl) f4 (RKV _ h0) (by simp; omega) h0 (Nat.le_refl _) ?_)
          intro wr36 gr36 cr36 hor kq gr h0 f6
          have hz := kq.2.1
          have f7 := f7.kq kq (by intro e; injection e; omega)
          have hl7 := f7.lt
          have f10 := f10.kq kq (by intro e; injection e; omega)
          have hl10 := f10.lt
          have hl6 := f6.2.1
          simp only [Act.put, List.setIfInBounds_toArray, List.set_cons_zero, List.set_cons_succ]
          refine reg_one 8 (by kernel_rfl) (by kernel_rfl) (q_append 40 (.tmp 38) (.tmp 39) gr36 cr36 ([] ++ L) (.slice (some ⟨gr28, 0, none⟩) 1 1) ([0]) (by kernel_rfl) (by kernel_rfl) (by kernel_rfl) (by kernel_rfl) f6 (f7.bs (allB_of _ (by decide)) (by decide) rfl) (by simp; omega) h0 (Nat.le_refl _) ?_)
          intro wr37 gr37 cr37 hor kq gr h0 f8
          have hz := kq.2.1
          have f7 := f7.kq kq (by intro e; injection e; omega)
          have hl7 := f7.lt
          have f10 := f10.kq kq (by intro e; injection e; omega)
          have hl10 := f10.lt
          have hl8 := f8.2.1
          simp only [Act.put, List.setIfInBounds_toArray, List.set_cons_zero, List.set_cons_succ]
          refine reg_call 11 43 29 #[.slice (some ⟨gr37, 0, none⟩) ([] ++ L ++ [0]).length cr37, .slice (some ⟨gr35, 0, none⟩) 1 1] (by kernel_rfl) (by kernel_rfl) ?_
          refine (S3 _ _ _ (by omega) (KV _ h0) f8.rs (f10.bss1 (RBV _ h0))).mono ?_
          rintro e wz ⟨rfl, hbz⟩
          have h0 := below_then h0 hbz
          refine ⟨_, rfl, h0, ?_⟩
          simp only [Act.put, List.setIfInBounds_toArray, List.set_cons_zero, List.set_cons_succ]
          refine reg_take 13 45 (.bool true) (by kernel_rfl) (fun w' _ => (exec_eql_arr (P := Tryd.prog) (k := .u8) (n := 32) f f (x := .tmp 43) (y := .tmp 44) (ty := 26) (t := 26) (by kernel_rfl) (by kernel_rfl) (by kernel_rfl) Tryd.underlying26 Tryd.underlying5 (by kernel_rfl) (by kernel_rfl)).trans (by rw [sameArr_refl])) h0 ?_
          simp only [Act.put, List.setIfInBounds_toArray, List.set_cons_zero, List.set_cons_succ]
          refine reg_take 14 46 (.bool true) (by kernel_rfl) (fun _ _ => by kernel_rfl) h0 ?_
          simp only [Act.put, List.setIfInBounds_toArray, List.set_cons_zero, List.set_cons_succ]
          refine reg_take 15 6 (.bool true) (by kernel_rfl) (fun _ _ => by kernel_rfl) h0 ?_
          simp only [Act.put, List.setIfInBounds_toArray, List.set_cons_zero, List.set_cons_succ]
          refine reg_done (by kernel_rfl) (HF.out _ _ ?_)
          have h0 := B2.out.trans ((KV _ h0).mono B2.out.size)
          clear HF
          go_wp2_with fail
          go_ret
          exact ⟨rfl, h0⟩
      · intro wr38 gr38 hBgr38 hg hz kq gr h0 hr
        have f7 := f7.kq kq (by simp)
        have hl7 := f7.lt
        have f10 : Blk wr38 gr38 #[.slice ba b.length bc] 24 := ⟨_, hr⟩
        have hl10 := f10.lt
        simp only [Act.put, List.setIfInBounds_toArray, List.set_cons_zero, List.set_cons_succ]
        refine reg_one 4 (by kernel_rfl) (by kernel_rfl) (q_lay 36 (fun g => .slice (some ⟨g, 0, none⟩) 0 0) (([] : List Nat).map bv).toArray 5 (by kernel_rfl) h0 (Nat.le_refl _) (by kernel_rfl) ?_)
        intro wr39 gr39 hBgr39 hg hz kq gr h0 hr
        have f7 := f7.kq kq (by simp)
        have hl7 := f7.lt
        have f10 := f10.kq kq (by simp)
        have hl10 := f10.lt
        have f4 := OwnAt.of_raw (l := []) hr (allB_of _ (by decide)) hBgr39 (by decide) rfl
        have hl4 := f4.2.1
        simp only [Act.put, List.setIfInBounds_toArray, List.set_cons_zero, List.set_cons_succ]
        refine reg_one 6 (by kernel_rfl) (by kernel_rfl) (q_append 38 (.tmp 36) (.tmp 37) gr39 0 ([]) (.slice ka L.length kc) (L) (by kernel_rfl) (by kernel_rfl) (by kernel_rfl) (by kernel_rfl) f4 (RKV _ h0) (by simp; omega) h0 (Nat.le_refl _) ?_)
        intro wr40 gr40 cr40 hor kq gr h0 f6
        have hz := kq.2.1
        have f7 := f7.kq kq (by intro e; injection e; omega)
        have hl7 := f7.lt
        have f10 := f10.kq kq (by intro e; injection e; omega)
        have hl10 := f10.lt
        have hl6 := f6.2.1
        simp only [Act.put, List.setIfInBounds_toArray, List.set_cons_zero, List.set_cons_succ]
        refine reg_one 8 (by kernel_rfl) (by kernel_rfl) (q_append 40 (.tmp 38) (.tmp 39) gr40 cr40 ([] ++ L) (.slice (some ⟨gr28, 0, none⟩) 1 1) ([0]) (by kernel_rfl) (by kernel_rfl) (by kernel_rfl) (by kernel_rfl) f6 (f7.bs (allB_of _ (by decide)) (by decide) rfl) (by simp; omega) h0 (Nat.le_refl _) ?_)
        intro wr41 gr41 cr41 hor kq gr h0 f8
        have hz := kq.2.1
        have f7 := f7.kq kq (by intro e; injection e; omega)
        have hl7 := f7.lt
        have f10 := f10.kq kq (by intro e; injection e; omega)
        have hl10 := f10.lt
        have hl8 := f8.2.1
        simp only [Act.put, List.setIfInBounds_toArray, List.set_cons_zero, List.set_cons_succ]
        refine reg_call 11 43 29 #[.slice (some ⟨gr41, 0, none⟩) ([] ++ L ++ [0]).length cr41, .slice (some ⟨gr38, 0, none⟩) 1 1] (by kernel_rfl) (by kernel_rfl) ?_
        refine (S3 _ _ _ (by omega) (KV _ h0) f8.rs (f10.bss1 (RBV _ h0))).mono ?_
        rintro e wz ⟨rfl, hbz⟩
        have h0 := below_then h0 hbz
        refine ⟨_, rfl, h0, ?_⟩
        simp only [Act.put, List.setIfInBounds_toArray, List.set_cons_zero, List.set_cons_succ]
        refine reg_take 13 45 (.bool true) (by kernel_rfl) (fun w' _ => (exec_eql_arr (P := Tryd.prog) (k := .u8) (n := 32) f f (x := .tmp 43) (y := .tmp 44) (ty := 26) (t := 26) (by kernel_rfl) (by kernel_rfl) (by kernel_rfl) Tryd.underlying26 Tryd.underlying5 (by kernel_rfl) (by kernel_rfl)).trans (by rw [sameArr_refl])) h0 ?_
        simp only [Act.put, List.setIfInBounds_toArray, List.set_cons_zero, List.set_cons_succ]
        refine reg_take 14 46 (.bool true) (by kernel_rfl) (fun _ _ => by kernel_rfl) h0 ?_
        simp only [Act.put, List.setIfInBounds_toArray, List.set_cons_zero, List.set_cons_succ]
        refine reg_take 15 6 (.bool true) (by kernel_rfl) (fun _ _ => by kernel_rfl) h0 ?_
        simp only [Act.put, List.setIfInBounds_toArray, List.set_cons_zero, List.set_cons_succ]
        refine reg_done (by kernel_rfl) (HF.out _ _ ?_)
        have h0 := B2.out.trans ((KV _ h0).mono B2.out.size)
        clear HF
        go_wp2_with fail
        go_ret
        exact ⟨rfl, h0⟩
    · intro wr42 gr42 hBgr42 hg hz kq gr h0 hr
      have f10 : Blk wr42 gr42 #[.slice ba b.length bc] 24 := ⟨_, hr⟩
      have hl10 := f10.lt
      simp only [Act.put, List.setIfInBounds_toArray, List.set_cons_zero, List.set_cons_succ]
      refine reg_two 4 7 (by kernel_rfl) (by kernel_rfl) (q_lay 36 (fun g => .slice (some ⟨g, 0, none⟩) 0 0) (([] : List Nat).map bv).toArray 5 (by kernel_rfl) h0 (Nat.le_refl _) (by kernel_rfl) ?_) (q_lay 39 (fun g => .slice (some ⟨g, 0, none⟩) 1 1) (([0] : List Nat).map bv).toArray 5 (by kernel_rfl) h0 (Nat.le_refl _) (by kernel_rfl) ?_)
      · intro wr43 gr43 hBgr43 hg hz kq gr h0 hr
        have f10 := f10.kq kq (by simp)
        have hl10 := f10.lt
        have f4 := OwnAt.of_raw (l := []) hr (allB_of _ (by decide)) hBgr43 (by decide) rfl
        have hl4 := f4.2.1
        simp only [Act.put, List.setIfInBounds_toArray, List.set_cons_zero, List.set_cons_succ]
        refine reg_two 6 7 (by kernel_rfl) (by kernel_rfl) (q_append 38 (.tmp 36) (.tmp 37) gr43 0 ([]) (.slice ka L.length kc) (L) (by kernel_rfl) (by kernel_rfl) (by kernel_rfl) (by kernel_rfl) f4 (RKV _ h0) (by simp; omega) h0 (Nat.le_refl _) ?_) (q_lay 39 (fun g => .slice (some ⟨g, 0, none⟩) 1 1) (([0] : List Nat).map bv).toArray 5 (by kernel_rfl) h0 (Nat.le_refl _) (by kernel_rfl) ?_)
        · intro wr44 gr44 cr44 hor kq gr h0 f6
          have hz := kq.2.1
          have f10 := f10.kq kq (by intro e; injection e; omega)
          have hl10 := f10.lt
          have hl6 := f6.2.1
          simp only [Act.put, List.setIfInBounds_toArray, List.set_cons_zero, List.set_cons_succ]
          refine reg_one 7 (by kernel_rfl) (by kernel_rfl) (q_lay 39 (fun g => .slice (some ⟨g, 0, none⟩) 1 1) (([0] : List Nat).map bv).toArray 5 (by kernel_rfl) h0 (Nat.le_refl _) (by kernel_rfl) ?_)
          intro wr45 gr45 hBgr45 hg hz kq gr h0 hr
          have f6 := f6.kq gr (by simp)
          have hl6 := f6.2.1
          have f10 := f10.kq kq (by simp)
          have hl10 := f10.lt
          have f7 : Blk wr45 gr45 (([0] : List Nat).map bv).toArray 5 := ⟨_, hr⟩
          have hl7 := f7.lt
          simp only [Act.put, List.setIfInBounds_toArray, List.set_cons_zero, List.set_cons_succ]
          refine reg_one 8 (by kernel_rfl) (by kernel_rfl) (q_append 40 (.tmp 38) (.tmp 39) gr44 cr44 ([] ++ L) (.slice (some ⟨gr45, 0, none⟩) 1 1) ([0]) (by kernel_rfl) (by kernel_rfl) (by kernel_rfl) (by kernel_rfl) f6 (f7.bs (allB_of _ (by decide)) (by decide) rfl) (by simp; omega) h0 (Nat.le_refl _) ?_)
          intro wr46 gr46 cr46 hor kq gr h0 f8
          have hz := kq.2.1
          have f7 := f7.kq kq (by intro e; injection e; omega)
          have hl7 := f7.lt
          have f10 := f10.kq kq (by intro e; injection e; omega)
          have hl10 := f10.lt
          have hl8 := f8.2.1
          simp only [Act.put, List.setIfInBounds_toArray, List.set_cons_zero, List.set_cons_succ]
          refine reg_call 11 43 29 #[.slice (some ⟨gr46, 0, none⟩) ([] ++ L ++ [0]).length cr46, .slice (some ⟨gr42, 0, none⟩) 1 1] (by kernel_rfl) (by kernel_rfl) ?_
          refine (S3 _ _ _ (by omega) (KV _ h0) f8.rs (f10.bss1 (RBV _ h0))).mono ?_
          rintro e wz ⟨rfl, hbz⟩
          have h0 := below_then h0 hbz
          refine ⟨_, rfl, h0, ?_⟩
          simp only [Act.put, List.setIfInBounds_toArray, List.set_cons_zero, List.set_cons_succ]
          refine reg_take 13 45 (.bool true) (by kernel_rfl) (fun w' _ => (exec_eql_arr (P := Tryd.prog) (k := .u8) (n := 32) f f (x := .tmp 43) (y := .tmp 44) (ty := 26) (t := 26) (by kernel_rfl) (by kernel_rfl) (by kernel_rfl) Tryd.underlying26 Tryd.underlying5 (by kernel_rfl) (by kernel_rfl)).trans (by rw [sameArr_refl])) h0 ?_
          simp only [Act.put, List.setIfInBounds_toArray, List.set_cons_zero, List.set_cons_succ]
          refine reg_take 14 46 (.bool true) (by kernel_rfl) (fun _ _ => by kernel_rfl) h0 ?_
          simp only [Act.put, List.setIfInBounds_toArray, List.set_cons_zero, List.set_cons_succ]
          refine reg_take 15 6 (.bool true) (by kernel_rfl) (fun _ _ => by kernel_rfl) h0 ?_
          simp only [Act.put, List.setIfInBounds_toArray, List.set_cons_zero, List.set_cons_succ]
          refine reg_done (by kernel_rfl) (HF.out _ _ ?_)
          have h0 := B2.out.trans ((KV _ h0).mono B2.out.size)
          clear HF
          go_wp2_with fail
          go_ret
          exact ⟨rfl, h0⟩
        · intro wr47 gr47 hBgr47 hg hz kq gr h0 hr
          have f4 := f4.kq gr (by simp)
          have hl4 := f4.2.1
          have f10 := f10.kq kq (by simp)
          have hl10 := f10.lt
          have f7 : Blk wr47 gr47 (([0] : List Nat).map bv).toArray 5 := ⟨_, hr⟩
          have hl7 := f7.lt
          simp only [Act.put, List.setIfInBounds_toArray, List.set_cons_zero, List.set_cons_succ]
          refine reg_one 6 (by kernel_rfl) (by kernel_rfl) (q_append 38 (.tmp 36) (.tmp 37) gr43 0 ([]) (.slice ka L.length kc) (L) (by kernel_rfl) (by kernel_rfl) (by kernel_rfl) (by kernel_rfl) f4 (RKV _ h0) (by simp; omega) h0 (Nat.le_refl _) ?_)
          intro wr48 gr48 cr48 hor kq gr h0 f6
          have hz := kq.2.1
          have f7 := f7.kq kq (by intro e; injection e; omega)
          have hl7 := f7.lt
          have f10 := f10.kq kq (by intro e; injection e; omega)
          have hl10 := f10.lt
          have hl6 := f6.2.1
          simp only [Act.put, List.setIfInBounds_toArray, List.set_cons_zero, List.set_cons_succ]
          refine reg_one 8 (by kernel_rfl) (by kernel_rfl) (q_append 40 (.tmp 38) (.tmp 39) gr48 cr48 ([] ++ L) (.slice (some ⟨gr47, 0, none⟩) 1 1) ([0]) (by kernel_rfl) (by kernel_rfl) (by kernel_rfl) (by kernel_rfl) f6 (f7.bs (allB_of _ (by decide)) (by decide) rfl) (by simp; omega) h0 (Nat.le_refl _) ?_)
          intro wr49 gr49 cr49 hor kq gr h0 f8
          have hz := kq.2.1
          have f7 := f7.kq kq (by intro e; injection e; omega)
          have hl7 := f7.lt
          have f10 := f10.kq kq (by intro e; injection e; omega)
          have hl10 := f10.lt
          have hl8 := f8.2.1
          simp only [Act.put, List.setIfInBounds_toArray, List.set_cons_zero, List.set_cons_succ]
          refine reg_call 11 43 29 #[.slice (some ⟨gr49, 0, none⟩) ([] ++ L ++ [0]).length cr49, .slice (some ⟨gr42, 0, none⟩) 1 1] (by kernel_rfl) (by kernel_rfl) ?_
          refine (S3 _ _ _ (by omega) (KV _ h0) f8.rs (f10.bss1 (RBV _ h0))).mono ?_
          rintro e wz ⟨rfl, hbz⟩
          have h0 := below_then h0 hbz
          refine ⟨_, rfl, h0, ?_⟩
          simp only [Act.put, List.setIfInBounds_toArray, List.set_cons_zero, List.set_cons_succ]
          refine reg_take 13 45 (.bool true) (by kernel_rfl) (fun w' _ => (exec_eql_arr (P := Tryd.prog) (k := .u8) (n := 32) f f (x := .tmp 43) (y := .tmp 44) (ty := 26) (t := 26) (by kernel_rfl) (by kernel_rfl) (by kernel_rfl) Tryd.underlying26 Tryd.underlying5 (by kernel_rfl) (by kernel_rfl)).trans (by rw [sameArr_refl])) h0 ?_
          simp only [Act.put, List.setIfInBounds_toArray, List.set_cons_zero, List.set_cons_succ]
          refine reg_take 14 46 (.bool true) (by kernel_rfl) (fun _ _ => by kernel_rfl) h0 ?_
          simp only [Act.put, List.setIfInBounds_toArray, List.set_cons_zero, List.set_cons_succ]
          refine reg_take 15 6 (.bool true) (by kernel_rfl) (fun _ _ => by kernel_rfl) h0 ?_
          simp only [Act.put, List.setIfInBounds_toArray, List.set_cons_zero, List.set_cons_succ]
          refine reg_done (by kernel_rfl) (HF.out _ _ ?_)
          have h0 := B2.out.trans ((KV _ h0).mono B2.out.size)
          clear HF
          go_wp2_with fail
          go_ret
          exact ⟨rfl, h0⟩
      · intro wr50 gr50 hBgr50 hg hz kq gr h0 hr
        have f10 := f10.kq kq (by simp)
        have hl10 := f10.lt
        have f7 : Blk wr50 gr50 (([0] : List Nat).map bv).toArray 5 := ⟨_, hr⟩
        have hl7 := f7.lt
        simp only [Act.put, List.setIfInBounds_toArray, List.set_cons_zero, List.set_cons_succ]
        refine reg_one 4 (by kernel_rfl) (by kernel_rfl) (q_lay 36 (fun g => .slice (some ⟨g, 0, none⟩) 0 0) (([] : List Nat).map bv).toArray 5 (by kernel_rfl) h0 (Nat.le_refl _) (by kernel_rfl) ?_)
        intro wr51 gr51 hBgr51 hg hz kq gr h0 hr
        have f7 := f7.kq kq (by simp)
        have hl7 := f7.lt
        have f10 := f10.kq kq (by simp)
        have hl10 := f10.lt
        have f4 := OwnAt.of_raw (l := []) hr (allB_of _ (by decide)) hBgr51 (by decide) rfl
        have hl4 := f4.2.1
        simp only [Act.put, List.setIfInBounds_toArray, List.set_cons_zero, List.set_cons_succ]
        refine reg_one 6 (by kernel_rfl) (by kernel_rfl) (q_append 38 (.tmp 36) (.tmp 37) gr51 0 ([]) (.slice ka L.length kc) (L) (by kernel_rfl) (by kernel_rfl) (by kernel_rfl) (by kernel_rfl) f4 (RKV _ h0) (by simp; omega) h0 (Nat.le_refl _) ?_)
        intro wr52 gr52 cr52 hor kq gr h0 f6
        have hz := kq.2.1
        have f7 := f7.kq kq (by intro e; injection e; omega)
        have hl7 := f7.lt
        have f10 := f10.kq kq (by intro e; injection e; omega)
        have hl10 := f10.lt
        have hl6 := f6.2.1
        simp only [Act.put, List.setIfInBounds_toArray, List.set_cons_zero, List.set_cons_succ]
        refine reg_one 8 (by kernel_rfl) (by kernel_rfl) (q_append 40 (.tmp 38) (.tmp 39) gr52 cr52 ([] ++ L) (.slice (some ⟨gr50, 0, none⟩) 1 1) ([0]) (by kernel_rfl) (by kernel_rfl) (by kernel_rfl) (by kernel_rfl) f6 (f7.bs (allB_of _ (by decide)) (by decide) rfl) (by simp; omega) h0 (Nat.le_refl _) ?_)
        intro wr53 gr53 cr53 hor kq gr h0 f8
        have hz := kq.2.1
        have f7 := f7.kq kq (by intro e; injection e; omega)
        have hl7 := f7.lt
        have f10 := f10.kq kq (by intro e; injection e; omega)
        have hl10 := f10.lt
        have hl8 := f8.2.1
        simp only [Act.put, List.setIfInBounds_toArray, List.set_cons_zero, List.set_cons_succ]
        refine reg_call 11 43 29 #[.slice (some ⟨gr53, 0, none⟩) ([] ++ L ++ [0]).length cr53, .slice (some ⟨gr42, 0, none⟩) 1 1] (by kernel_rfl) (by kernel_rfl) ?_
        refine (S3 _ _ _ (by omega) (KV _ h0) f8.rs (f10.bss1 (RBV _ h0))).mono ?_
        rintro e wz ⟨rfl, hbz⟩
        have h0 := below_then h0 hbz
        refine ⟨_, rfl, h0, ?_⟩
        simp only [Act.put, List.setIfInBounds_toArray, List.set_cons_zero, List.set_cons_succ]
        refine reg_take 13 45 (.bool true) (by kernel_rfl) (fun w' _ => (exec_eql_arr (P := Tryd.prog) (k := .u8) (n := 32) f f (x := .tmp 43) (y := .tmp 44) (ty := 26) (t := 26) (by kernel_rfl) (by kernel_rfl) (by kernel_rfl) Tryd.underlying26 Tryd.underlying5 (by kernel_rfl) (by kernel_rfl)).trans (by rw [sameArr_refl])) h0 ?_
        simp only [Act.put, List.setIfInBounds_toArray, List.set_cons_zero, List.set_cons_succ]
        refine reg_take 14 46 (.bool true) (by kernel_rfl) (fun _ _ => by kernel_rfl) h0 ?_
        simp only [Act.put, List.setIfInBounds_toArray, List.set_cons_zero, List.set_cons_succ]
        refine reg_take 15 6 (.bool true) (by kernel_rfl) (fun _ _ => by kernel_rfl) h0 ?_
        simp only [Act.put, List.setIfInBounds_toArray, List.set_cons_zero, List.set_cons_succ]
        refine reg_done (by kernel_rfl) (HF.out _ _ ?_)
        have h0 := B2.out.trans ((KV _ h0).mono B2.out.size)
        clear HF
        go_wp2_with fail
        go_ret
        exact ⟨rfl, h0⟩

theorem macKeys_walk (w : World) (s : Int) (ws : (Lit.int .u64 s).wf = true) (n : Int) (wn : (Lit.int .u8 n).wf = true) (v : Value) (l : List Nat) (h : Rs w v l) (hK : Consts w Sha.tab) :
    Calls Tryd.prog 11 #[.int .u64 s, .int .u8 n, v] w (RetBool true w) := by
  have h1 := bounds_u8 wn
  have h2 := bounds_u64 ws
  obtain ⟨a, rfl⟩ := Int.eq_ofNat_of_zero_le h1.1
  exact macKeys_core s (by omega) a (by omega) w v l h hK

/-! ### THE ROW's STEP -/
namespace macKeysF
theorem own : ownKnob Tryd.prog.godebug = none := by kernel_rfl
theorem laidOut : laidOutB Tryd.prog = true := by kernel_rfl
theorem gT : Tryd.prog.globalNamed "toll/sha.constants" = some 0 := by kernel_rfl
theorem gTType : (Tryd.prog.globals[0]?).map (·.type) = some 37 := by kernel_rfl
theorem door_met (os : Os) (args : Array Value) : laidMetH Tryd.prog Rows.macKeysRow.laid ((World.doorLaid Tryd.prog 400 os).forCall (fun _ _ => 0) ⟨#[], args, []⟩).memory :=
  laidMetH_of_parts3 (fuel := 8) (laidMet_of_run' 8 (by kernel_rfl) (by kernel_rfl)) (by kernel_rfl) (by kernel_rfl)
theorem of_laid {W : World} (h : laidMetH Tryd.prog Rows.macKeysRow.laid W) : Consts W Sha.tab := fun i hi => by
  rw [MakeChecks.laidMetH_plain _ _ _ (by kernel_rfl)] at h
  have hT := Lib.tabIs_of_head (k := .u32) (zs := Sha.tableL.map fun n : Nat => (n : Int)) gT gTType Tryd.underlying37 Tryd.underlying31 (by kernel_rfl) (by kernel_rfl) h
  have hl : i < Sha.tableL.length := hi
  rw [hT.cell gT i (by simpa using hl)]
  simp [Sha.tab, List.getD, hl]
set_option maxRecDepth 100000 in
theorem lifted (os : Os) (started : os.Started) (H : Type) (enc : TypeId × Value → H) :
    ReturnsInHanded {} Tryd.checked os 11 .any (fun w args => (Rows.macKeysSpec.pre enc Tryd.prog Tryd.f11 [] false w args ∧ laidMetH Tryd.prog Rows.macKeysRow.laid w) ∧ sizedMet enc Tryd.prog Tryd.f11 (OpenSpec.ofChange Rows.macKeysSpec) false w args)
      (Rows.macKeysSpec.post enc Tryd.prog Tryd.f11 false true false false) := by
  refine returnsInHanded_of_change_and (C := Tryd.checked) (X := fun w _ => laidMetH Tryd.prog Rows.macKeysRow.laid w) (fun _ _ _ hh h => h.of_heap hh) own started (by kernel_rfl) Tryd.func11
    (ChangeSpec.witness_shaped (enc := enc) (C := Tryd.checked) (os := os) (X := fun w _ => laidMetH Tryd.prog Rows.macKeysRow.laid w) false (World.doorLaid Tryd.prog 400 os) #[.int .u64 0, .int .u8 0, .slice none 0 0] 8 rfl (World.shaped_of_RefB (by kernel_rfl) (by kernel_rfl)) (by kernel_rfl) (by kernel_rfl) (by kernel_rfl) (door_met os _)) ?_
  intro W base args ds gs before hval0 hW _ _ hL _
  have hK := of_laid hL
  have hval : ∀ (j : Nat) t v, Tryd.f11.params[j]? = some t → args[j]? = some v → Value.okWide Tryd.prog W .any base t v := hval0
  have hW' := hW
  obtain ⟨p, q, hA0, hV, rfl, _, _⟩ := hW
  have hA : DataW.TrodAll enc Tryd.prog W 0 (fun _ => true) true Tryd.f11.params.toList args.toList ds p := hA0
  rw [Tryd.params11] at hA hval
  obtain ⟨v0, vs0, d0, ds0, p0, q0, hargs, rfl, rfl, h0, r0⟩ := trodAll_cons hA
  obtain ⟨v1, vs1, d1, ds1, p1, q1, rfl, rfl, rfl, h1, r1⟩ := trodAll_cons r0
  obtain ⟨v2, vs2, d2, ds2, p2, q2, rfl, rfl, rfl, h2, r2⟩ := trodAll_cons r1
  obtain ⟨rfl, rfl, rfl⟩ := trodAll_nil r2
  obtain rfl : args = #[v0, v1, v2] := by cases args; simp_all
  obtain ⟨rfl, rfl⟩ := trodVars_none hV
  have k0 := h0
  have lt0 : ∀ x ∈ p0, x.block < W.heap.size := by obtain ⟨m, hm⟩ := k0; exact DataW.trod_lt m _ _ _ hm
  obtain ⟨a0, rfl, _, _, w0⟩ := open_int Tryd.underlying30 (hval 0 30 v0 rfl rfl) h0
  have k1 := h1
  have lt1 : ∀ x ∈ p1, x.block < W.heap.size := by obtain ⟨m, hm⟩ := k1; exact DataW.trod_lt m _ _ _ hm
  obtain ⟨a1, rfl, _, _, w1⟩ := open_int Tryd.underlying5 (hval 1 5 v1 rfl rfl) h1
  have k2 := h2
  have lt2 : ∀ x ∈ p2, x.block < W.heap.size := by obtain ⟨m, hm⟩ := k2; exact DataW.trod_lt m _ _ _ hm
  obtain ⟨a2, len2, cap2, rfl⟩ := okWide_slice Tryd.underlying24 (hval 2 24 v2 rfl rfl)
  obtain ⟨z2, w2⟩ := open_bytes Tryd.underlying24 Tryd.underlying5 (by kernel_rfl) h2
  refine (macKeys_walk W a0 w0 a1 w1 _ z2 w2 hK).mono fun e W' ⟨he, bel⟩ => ?_
  subst he
  exact ⟨_, rfl, _, _, _, [], _, [], hW', trodAll_mk1 (shut_bool Tryd.underlying4 _), (trodAll_cons_mk (Below.trod laidOut (by kernel_rfl) (of_decide_eq_true (by kernel_rfl)) k0 bel lt0) (trodAll_cons_mk (Below.trod laidOut (by kernel_rfl) (of_decide_eq_true (by kernel_rfl)) k1 bel lt1) (trodAll_cons_mk (Below.trod laidOut (by kernel_rfl) (of_decide_eq_true (by kernel_rfl)) k2 bel lt2) trodAll_mk0))), rfl, bel.frame _, fun h => by cases h⟩
theorem over : Rows.macKeysRow.holds Tryd.pinned (OpenSpec.ofChange Rows.macKeysSpec) :=
  OpenClaim.holds_of_wide 11 Tryd.f11 rfl rfl rfl rfl rfl rfl rfl ⟨rfl, rfl, rfl, rfl, rfl⟩ rfl rfl rfl rfl rfl (by kernel_rfl) Tryd.func11 (by kernel_rfl)
    (of_decide_eq_true (by kernel_rfl)) (by unfold Func.isWrapper; first | (rw [if_pos (by decide +kernel)]; kernel_rfl) | (rw [if_neg (by decide +kernel)]; exact ⟨rfl, rfl⟩))
    (fun os started H enc _ => lifted os started H enc)
end macKeysF
/-- The row. -/
theorem macKeys_row : Rows.MacKeysSaid := macKeysF.over
/-- The statement: the card. -/
theorem macKeys_holds : Rows.MacKeysCardSaid :=
  Claim7.holds_tied_plain_at .later [] [.data] true Rows.macKeysCard.stood.harness false
    macKeys_row (fun _ h => by cases h) (by kernel_rfl) (fun _ h => by cases h) macKeys_row_tie rfl ⟨rfl, rfl⟩ (by kernel_rfl) rfl
    (fun f fn hf hfn => by
      obtain rfl : f = 11 := Option.some.inj ((show Tryd.prog.funcNamed "toll/tolllaw05.MacKeys" = some 11 by kernel_rfl).symm.trans hf) |>.symm
      obtain rfl : fn = Tryd.f11 := (Option.some.inj (Tryd.func11.symm.trans hfn)).symm
      exact ⟨by kernel_rfl, fun j t ht => by
        rw [Tryd.params11] at ht
        have hm : t ∈ [30, 5, 24] := by simpa using Array.mem_of_getElem? ht
        have hall : ([30, 5, 24].all fun u => !Tryd.prog.wantsStandIn u) = true := by kernel_rfl
        exact (show Tryd.prog.wantsStandIn t = false by simpa using List.all_eq_true.1 hall t hm)⟩)
    (by kernel_rfl)
#print axioms macKeys_holds
end Go.Proofs.YtgalddnblciciaaDoor
