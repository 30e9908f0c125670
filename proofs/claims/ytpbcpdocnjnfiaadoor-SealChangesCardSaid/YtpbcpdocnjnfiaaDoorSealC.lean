/- Layer 9: Seal of the program. -/
import Derived.Test.YtpbcpdocnjnfiaaDoorSealB
namespace Go.Proofs.YtpbcpdocnjnfiaaDoor
open Go.RowKit Go.Deep

theorem two_rows0 (w : World) (C1 C2 : Array Value) (t1 t2 : TypeId) : ((w.alloc (.cells C1 t1)).alloc (.cells C2 t2)).heap[w.heap.size]? = some (.cells C1 t1 (0, 0)) :=
  (Below.heap_alloc (w.alloc (.cells C1 t1)) _ _ (by simp)).trans (heap_alloc_new w _)
theorem two_rows1 (w : World) (C1 C2 X : Array Value) (t1 t2 : TypeId) : (((w.alloc (.cells C1 t1)).alloc (.cells C2 t2)).setRow w.heap.size X).heap[w.heap.size + 1]? = some (.cells C2 t2 (0, 0)) := by
  have h := heap_alloc_new (w.alloc (.cells C1 t1)) (.cells C2 t2)
  rw [World.size_alloc] at h
  have e : (((w.alloc (.cells C1 t1)).alloc (.cells C2 t2)).setRow w.heap.size X).heap[w.heap.size + 1]? = ((w.alloc (.cells C1 t1)).alloc (.cells C2 t2)).heap[w.heap.size + 1]? := by
    unfold World.setRow
    rw [Array.getElem?_modify, if_neg (by omega)]
  rw [e, h]
theorem Rs.pre {w : World} {a : Option Addr} {n cap : Nat} {l : List Nat} (h : Rs w (.slice a n cap) l) {m : Nat} (hm : m ≤ l.length) : Rs w (.slice a m cap) (l.take m) := by
  have hl : (l.take m).length = m := by rw [List.length_take]; omega
  refine ⟨fun x hx => h.1 x (List.mem_of_mem_take hx), by have := h.2.1; omega, ?_⟩
  rcases h.2.2 with ⟨hv, rfl⟩ | ⟨x, c, hv, hc, hcell⟩
  · simp only [Value.slice.injEq] at hv
    obtain ⟨rfl, rfl, rfl⟩ := hv
    have : m = 0 := by simpa using hm
    subst this
    exact .inl ⟨rfl, by simp⟩
  · simp only [Value.slice.injEq] at hv
    obtain ⟨rfl, rfl, rfl⟩ := hv
    refine .inr ⟨x, cap, by rw [hl], by omega, fun i hi => ?_⟩
    rw [hl] at hi
    rw [hcell i (by omega)]
    simp [hi]
/-- Two arrays that were laid and stored. -/
theorem two_laid (w : World) (C1 C2 : Array Value) (t1 t2 : TypeId) (n m : Nat) (f g : Nat → Nat) :
    isArr ((((w.alloc (.cells C1 t1)).alloc (.cells C2 t2)).setRow w.heap.size (arr .u8 n f)).setRow (w.heap.size + 1) (arr .u8 m g)) w.heap.size t1 .u8 n f ∧
    isArr ((((w.alloc (.cells C1 t1)).alloc (.cells C2 t2)).setRow w.heap.size (arr .u8 n f)).setRow (w.heap.size + 1) (arr .u8 m g)) (w.heap.size + 1) t2 .u8 m g ∧
    Below w.heap.size w ((((w.alloc (.cells C1 t1)).alloc (.cells C2 t2)).setRow w.heap.size (arr .u8 n f)).setRow (w.heap.size + 1) (arr .u8 m g)) := by
  refine ⟨setRow_other (setRow_heap _ _ _ _ _ _ (two_rows0 w C1 C2 t1 t2)) (by omega) _, setRow_heap _ _ _ _ _ _ (two_rows1 w C1 C2 _ t1 t2), ?_⟩
  exact below_setRow (below_setRow (((Below.refl _ w).alloc (Nat.le_refl _) _).alloc (by simp) _) (Nat.le_refl _) _) (by omega) _
attribute [local irreducible] wpAnyH in
set_option maxRecDepth 100000 in
set_option maxHeartbeats 2000000 in
theorem seal_any (key nonce : Nat → Nat) (u : Nat) (v : Value) (l : List Nat) (w : World) (hk : Aes.B8 key) (hn : Aes.B8 nonce) (hu : u < 256) (hv : Rs w v l) (hl : l.length ≤ 1000000) (hK : Consts w Sha.tab) :
    Calls Tryd.prog 9 #[.agg (arr .u8 16 key), .int .u8 (u : Int), .agg (arr .u8 8 nonce), v] w (RetOwn (Sea.sld key u nonce l) w) := by
  have HK := Lib.hid hK; clear hK
  have HB := Lib.hid hk; clear hk
  have HN := Lib.hid hn; clear hn
  obtain ⟨a, cap, rfl⟩ := hv.form
  have HV := Lib.hid hv; clear hv
  have hsz := arr_size .u8 16 key
  have hsz2 := arr_size .u8 8 nonce
  have A0 := (isArr_new w 22 .u8 16 key).alloc (.cells (arr .u8 8 nonce) 23)
  have A1 := isArr_new (w.alloc (.cells (arr .u8 16 key) 22)) 23 .u8 8 nonce
  simp only [World.size_alloc] at A1
  have B0 := below_of_only (only_alloc (only_alloc (only_refl w none) (.cells (arr .u8 16 key) 22)) (.cells (arr .u8 8 nonce) 23))
  go_enter Tryd.func9, Tryd.ntmps9
  go_upto_region 2 with (first
    | refine wpList_load_row rfl _ _ rfl w.heap.size rfl _ _ (0, 0) _ A0 rfl rfl (info16s _) ?_
    | (go_at_call 15; go_must (refine (keys_any key _ HB.out (HK.out.below B0)).mono ?_; rintro e w1 ⟨rfl, hb1⟩))
    | refine wpList_store_rowTo rfl _ _ _ rfl rfl w1.heap.size _ rfl rfl _ _ (two_rows0 w1 _ _ _ _) (info16s _) (by rw [arr_size]; rfl) (arr_one _ _ _) ?_
    | refine wpList_store_rowTo rfl _ _ _ rfl rfl (w1.heap.size + 1) _ rfl rfl _ _ (two_rows1 w1 _ _ _ _ _) (info32s _) (by rw [arr_size]; rfl) (arr_one _ _ _) ?_)
  have T := two_laid w1 (Array.replicate 16 (.int .u8 0)) (Array.replicate 32 (.int .u8 0)) 22 36 16 32 (Sea.ek key) (Sea.mf key)
  have N1 := A1.below hb1 A1.lt
  have HV1 := HV.out.below (B0.trans (hb1.mono B0.size))
  have B1 := B0.trans (hb1.mono B0.size)
  generalize hW : World.setRow _ (w1.heap.size + 1) _ = V
  have T : isArr V w1.heap.size 22 .u8 16 (Sea.ek key) ∧ isArr V (w1.heap.size + 1) 36 .u8 32 (Sea.mf key) ∧ Below w1.heap.size w1 V := by rw [← hW]; exact T
  clear hW
  obtain ⟨E0, M0, hbV⟩ := T
  have NV := N1.below hbV N1.lt
  have HVV := HV1.below hbV
  have BV := B1.trans (hbV.mono B1.size)
  clear A0 A1 B0 hb1 N1 HV1 B1 hbV hsz hsz2
  obtain ⟨gE, hgE⟩ : ∃ g, g = w1.heap.size := ⟨_, rfl⟩
  obtain ⟨gM, hgM⟩ : ∃ g, g = w1.heap.size + 1 := ⟨_, rfl⟩
  rw [← hgM] at M0 ⊢
  rw [← hgE] at E0 ⊢
  clear hgE hgM
  obtain ⟨gN, hgN⟩ : ∃ g, g = w.heap.size + 1 := ⟨_, rfl⟩
  rw [← hgN] at NV ⊢
  clear hgN
  have hNs : Rs V (.slice (some ⟨gN, 0, none⟩) 8 8) (Sea.nl 8 nonce) := (NV.bs HN.out (by omega)).rs
  refine wp_reg Tryd.f9 2 8 (fun w' => Below V.heap.size V w') (by kernel_rfl) (by kernel_rfl) (by kernel_rfl) (below_drewN (Below.refl _ _) 1) (fun K hK h0 => ?_)
  refine reg_cast (listed' := #[false, false, false, false, false, false, false, false]) (by kernel_rfl) rfl ?_
  have HF := Lib.hid hK; clear hK
  refine reg_take 0 18 (.slice (some ⟨gN, 0, none⟩) 8 8) (by kernel_rfl) (fun _ _ => by kernel_rfl) h0 ?_
  simp only [Act.put, List.setIfInBounds_toArray, List.set_cons_zero, List.set_cons_succ]
  refine reg_load 1 19 (by kernel_rfl) _ (.tmp 9) (by kernel_rfl) ⟨gE, 0, none⟩ (by kernel_rfl) (arr .u8 16 (Sea.ek key)) _ (fun w' hw' => (E0.below hw' E0.lt).cells) rfl rfl (info16s _) h0 ?_
  simp only [Act.put, List.setIfInBounds_toArray, List.set_cons_zero, List.set_cons_succ]
  refine reg_load 2 20 (by kernel_rfl) _ (.tmp 6) (by kernel_rfl) ⟨gN, 0, none⟩ (by kernel_rfl) (arr .u8 8 nonce) _ (fun w' hw' => (NV.below hw' NV.lt).cells) rfl rfl (info8s _) h0 ?_
  simp only [Act.put, List.setIfInBounds_toArray, List.set_cons_zero, List.set_cons_succ]
  refine reg_take 3 21 (.slice a l.length cap) (by kernel_rfl) (fun _ _ => by kernel_rfl) h0 ?_
  simp only [Act.put, List.setIfInBounds_toArray, List.set_cons_zero, List.set_cons_succ]
  refine reg_call 4 22 18 #[.agg (arr .u8 16 (Sea.ek key)), .agg (arr .u8 8 nonce), .slice a l.length cap] (by kernel_rfl) (by kernel_rfl) ?_
  refine (ctrcrypt_any (Sea.ek key) nonce _ l (V.drewN 1) (Sea.ek_b8 key) HN.out (HVV.below h0) (by omega)).mono ?_
  rintro e w6 ⟨v6, rfl, o6, hb6⟩
  have h6 : Below V.heap.size V w6 := h0.trans hb6
  refine ⟨_, rfl, h6, ?_⟩
  simp only [Act.put, List.setIfInBounds_toArray, List.set_cons_zero, List.set_cons_succ]
  refine reg_one 5 (by kernel_rfl) (by kernel_rfl) (HStep.lists2 (some 23) (by kernel_rfl) (by kernel_rfl) (.tmp 18) (.tmp 22) _ _ (Sea.nl 8 nonce) _ (by kernel_rfl) rfl rfl (hNs.below h6) o6.bs.rs (fun w' k => h6.trans (k.mono h6.size)) ?_)
  intro w7 v7 hb7 hbss
  have h7 := h6.trans (hb7.mono h6.size)
  simp only [Act.put, List.setIfInBounds_toArray, List.set_cons_zero, List.set_cons_succ]
  have hjl : (Wir.join [Sea.nl 8 nonce, Ctr.crypt (Sea.ek key) nonce 0 l]).length = 8 + l.length := by
    unfold Wir.join; simp [Sea.nl_length, Ctr.crypt_length]
  refine reg_call 6 24 17 #[v7] (by kernel_rfl) (by kernel_rfl) ?_
  refine (join_any v7 _ w7 hbss (by omega)).mono ?_
  rintro e w8 ⟨v8, rfl, o8, hb8⟩
  have h8 := h7.trans (hb8.mono h7.size)
  refine ⟨_, rfl, h8, ?_⟩
  simp only [Act.put, List.setIfInBounds_toArray, List.set_cons_zero, List.set_cons_succ]
  refine reg_take 7 11 v8 (by kernel_rfl) (fun _ _ => by kernel_rfl) h8 ?_
  simp only [Act.put, List.setIfInBounds_toArray, List.set_cons_zero, List.set_cons_succ]
  refine reg_done (by kernel_rfl) (HF.out _ _ ?_)
  have hfr : Wir.join [Sea.nl 8 nonce, Ctr.crypt (Sea.ek key) nonce 0 l] = Sea.front key nonce l := by unfold Wir.join Sea.front; simp
  rw [hfr] at o8
  have O8 := o8.bs.rs
  have M8 := M0.below h8 M0.lt
  have B8 := BV.trans (h8.mono BV.size)
  clear HF h0 h6 h7 h8 hb6 hb7 hb8 o6 o8 hbss E0 M0 NV HVV BV hNs K hjl hfr
  obtain ⟨a8, c8, rfl⟩ := O8.form
  have hMs : Rs w8 (.slice (some ⟨gM, 0, none⟩) 32 32) (Sea.mk key) := by
    have := (M8.bs (Sea.mf_b8 key) (by omega)).rs
    rwa [show (List.range 32).map (Sea.mf key) = Sea.mk key from Sea.nl_mf key] at this
  have X1 := (own_built w8 0 [u] (AllB.one hu) (Nat.zero_le _) (by simp)).bs.rs
  have hfl := Sea.front_length key nonce l
  have hb2 := bss_two X1 (O8.below ((Below.refl _ w8).alloc (Nat.le_refl _) (.cells ([u].map bv).toArray 5)))
  simp only [World.size_alloc] at hb2
  have hB9 : Below w8.heap.size w8 ((w8.alloc (.cells ([u].map bv).toArray 5)).alloc (.cells #[.slice (some ⟨w8.heap.size, 0, none⟩) 1 1, .slice a8 (Sea.front key nonce l).length c8] 24)) := ((Below.refl _ w8).alloc (Nat.le_refl _) _).alloc (by simp) _
  have hmsg : Wir.join [[u], Sea.front key nonce l] = u :: Sea.front key nonce l := by unfold Wir.join; simp
  have HC8 := Lib.hid (HK.out.below (B8.trans (hB9.mono B8.size)))
  have HMS := Lib.hid (hMs.below hB9)
  have HB2 := Lib.hid hb2
  have HB9 := Lib.hid hB9
  have HX := Lib.hid X1
  have HO8 := Lib.hid (O8.below hB9)
  have HLN := Lib.hid (show (Wir.join [[u], Sea.front key nonce l]).length ≤ 140737488354000 by rw [hmsg]; simp; omega)
  have HMG := Lib.hid hmsg
  have HFL := Lib.hid hfl
  clear hMs hb2 hB9 X1 O8 hmsg hfl
  go_upto_region 4 with (first
    | (go_at_call 19; go_must (refine (macsum_any (Sea.mk key) _ _ [[u], Sea.front key nonce l] _ HMS.out (by rw [Sea.mk_length]; omega) HB2.out HLN.out (by simp) HC8.out).mono ?_; rintro e w9 ⟨rfl, hb9⟩; rw [HMG.out]))
    | refine wpList_store_rowTo rfl _ _ _ rfl rfl w9.heap.size _ rfl rfl _ _ (heap_alloc_new _ _) (info32s _) (by rw [arr_size]; rfl) (arr_one _ _ _) ?_)
  generalize hW : World.setRow _ w9.heap.size _ = V2
  have C2 : isArr V2 w9.heap.size 36 .u8 32 (Mac.hm (Sea.mk key) (u :: Sea.front key nonce l)) := by rw [← hW]; exact setRow_heap _ _ _ _ _ _ (heap_alloc_new _ _)
  have hV2 : Below w9.heap.size w9 V2 := by rw [← hW]; exact below_setRow ((Below.refl _ _).alloc (Nat.le_refl _) _) (Nat.le_refl _) _
  clear hW
  have B9 := (B8.trans (HB9.out.mono B8.size)).trans (hb9.mono (Nat.le_trans B8.size HB9.out.size))
  have B10 := B9.trans (hV2.mono B9.size)
  have F10 := (HO8.out.below hb9).below hV2
  obtain ⟨gC, hgC⟩ : ∃ g, g = w9.heap.size := ⟨_, rfl⟩
  rw [← hgC] at C2 ⊢
  clear hgC HO8 HB9 HB2 HX HMS HC8 HLN HMG hb9 hV2 B9 M8 B8
  have hCs : Rs V2 (.slice (some ⟨gC, 0, none⟩) 16 32) (Sea.code key u (Sea.front key nonce l)) := by
    have h := ((C2.bs (fun i => Mac.hm_lt _ _ i) (by omega)).rs).pre (m := 16) (by simp)
    have e : ((List.range 32).map (Mac.hm (Sea.mk key) (u :: Sea.front key nonce l))).take 16 = Sea.code key u (Sea.front key nonce l) := by
      unfold Sea.code Sea.nl
      rw [← List.map_take, List.take_range]; rfl
    rwa [e] at h
  have hb2 := Lib.hid (bss_two F10 hCs)
  have hj : Wir.join [Sea.front key nonce l, Sea.code key u (Sea.front key nonce l)] = Sea.sld key u nonce l := by unfold Wir.join Sea.sld; simp
  have hjl : (Wir.join [Sea.front key nonce l, Sea.code key u (Sea.front key nonce l)]).length ≤ 140737488355328 := by rw [hj, Sea.seal_length]; omega
  have HJ := Lib.hid hj
  have HJL := Lib.hid hjl
  clear hCs hj hjl C2 F10
  go_wp2_with (go_at_call 17; go_must (refine (join_any _ [Sea.front key nonce l, Sea.code key u (Sea.front key nonce l)] _ hb2.out HJL.out).mono ?_; rintro e w11 ⟨v11, rfl, o11, hb11⟩; rw [HJ.out] at o11))
  go_ret
  refine ⟨_, rfl, o11.mono (Nat.le_trans B10.size (by simp)), (B10.alloc B10.size _).trans (hb11.mono (Nat.le_trans B10.size (by simp)))⟩
end Go.Proofs.YtpbcpdocnjnfiaaDoor
