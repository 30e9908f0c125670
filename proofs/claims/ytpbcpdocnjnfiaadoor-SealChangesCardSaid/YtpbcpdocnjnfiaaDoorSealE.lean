/- Layer 9: Seal of the reference. -/
import Derived.Test.YtpbcpdocnjnfiaaDoorSealD
namespace Go.Proofs.YtpbcpdocnjnfiaaDoor
open Go.RowKit Go.Deep

theorem ek_def (key : Nat → Nat) : Sea.ek key = fun i => (Mac.dn (Sea.nl 16 key) (lb Sea.encS) 16).getD i 0 := rfl
/-- Bytes as an array that is loaded. -/
theorem bs_cells {w : World} {v : Value} {l : List Nat} (h : Bs w v l) (n : Nat) (hl : n ≤ l.length) (hn : 0 < n) : ∃ g off c, v = .slice (some ⟨g, off, none⟩) l.length c ∧ l.length ≤ c ∧ ∀ j u, (arr .u8 n (fun i => l.getD i 0))[j]? = some u → w.cell? ((⟨g, off, none⟩ : Addr).add j) = some u := by
  rcases h.cases with ⟨_, rfl⟩ | ⟨g, off, gc, rfl, hc1, _, _, hc⟩
  · simp at hl; omega
  · have HC := cells_of (o := 0) (n := n) hc (by omega)
    have hf : (fun i => l.getD (0 + i) 0) = fun i => l.getD i 0 := by funext i; rw [Nat.zero_add]
    rw [hf, Nat.add_zero] at HC
    exact ⟨g, off, gc, rfl, hc1, HC⟩
theorem exec_bytes_none (o : Oper) (a : Act) (w : World) (ho : o.op = .buildSlice 24 0 #[]) :
    (execOp a.eval o).run Tryd.prog w = .ok (.value (.slice (some ⟨w.heap.size, 0, none⟩) 0 0)) (w.alloc (.cells #[] 5)) := by
  unfold execOp
  simp only [ho]
  have hz : ((Tryd.prog).info? 5).map (·.size) = some 1 := by kernel_rfl
  have hu := Tryd.underlying24
  go_simp
attribute [local irreducible] wpAnyH in
set_option maxRecDepth 100000 in
set_option maxHeartbeats 2000000 in
theorem refseal_any (key nonce : Nat → Nat) (u : Nat) (v : Value) (l : List Nat) (w : World) (hk : Aes.B8 key) (hn : Aes.B8 nonce) (hu : u < 256) (hv : Rs w v l) (hl : l.length ≤ 1000000) :
    Calls Tryd.prog 11 #[.agg (arr .u8 16 key), .int .u8 (u : Int), .agg (arr .u8 8 nonce), v] w (RetOwn (Sea.sld key u nonce l) w) := by
  have HB := Lib.hid hk; clear hk
  have HN := Lib.hid hn; clear hn
  obtain ⟨a, cap, rfl⟩ := hv.form
  have HV := Lib.hid hv; clear hv
  have hsz := arr_size .u8 16 key
  have hsz2 := arr_size .u8 8 nonce
  have hat : ∀ (ad : Option Addr) cp wx, (Instr.arrayAt 22 (.slice ad 16 cp)).run Tryd.prog wx = .ok (.pointer ad) wx := fun ad cp wx => run_arrayAt wx 22 5 16 ad 16 cp Tryd.underlying22 (Nat.le_refl _)
  have A0 := (isArr_new w 22 .u8 16 key).alloc (.cells (arr .u8 8 nonce) 23)
  have A1 := isArr_new (w.alloc (.cells (arr .u8 16 key) 22)) 23 .u8 8 nonce
  simp only [World.size_alloc] at A1
  have B0 := below_of_only (only_alloc (only_alloc (only_refl w none) (.cells (arr .u8 16 key) 22)) (.cells (arr .u8 8 nonce) 23))
  have hKs := Lib.hid (A0.bs HB.out (by omega)).rs
  go_enter Tryd.func11, Tryd.ntmps11
  go_upto_region 2 with (first
    | (go_at_call 16; go_must (refine (refderive_in (Sea.nl 16 key) _ Sea.encS 16 _ (by omega) hKs.out (by rw [Sea.nl_length]; omega) (by decide)).mono ?_; rintro e w1 ⟨v1, rfl, o1, hb1⟩; have hln := Mac.dn_length (Sea.nl 16 key) (lb Sea.encS) 16; obtain ⟨g, off, gc, rfl, hc1, hc⟩ := bs_cells o1.bs 16 (by omega) (by omega); rw [hln]; rw [← ek_def] at hc; have HC := Lib.hid hc; clear hc hln hc1 o1))
    | refine wpList_load_arr rfl _ _ rfl ⟨g, off, none⟩ rfl _ _ HC.out rfl rfl (info16s _) ?_
    | refine wpList_store_rowTo rfl _ _ _ rfl rfl w1.heap.size _ rfl rfl _ _ (heap_alloc_new _ _) (info16s _) (by rw [arr_size]; rfl) (arr_one _ _ _) ?_)
  generalize hW : World.setRow _ w1.heap.size _ = V2
  have E2 : isArr V2 w1.heap.size 22 .u8 16 (Sea.ek key) := by rw [← hW]; exact setRow_heap _ _ _ _ _ _ (heap_alloc_new _ _)
  have hV2 : Below w1.heap.size w1 V2 := by rw [← hW]; exact below_setRow ((Below.refl _ _).alloc (Nat.le_refl _) _) (Nat.le_refl _) _
  clear hW
  have B1 := B0.trans (hb1.mono B0.size)
  have B2 := B1.trans (hV2.mono B1.size)
  have K2 := Lib.hid ((hKs.out.below hb1).below hV2)
  have N2 := (A1.below hb1 A1.lt).below hV2 (A1.below hb1 A1.lt).lt
  obtain ⟨gE, hgE⟩ : ∃ g, g = w1.heap.size := ⟨_, rfl⟩
  rw [← hgE] at E2 ⊢
  obtain ⟨gN, hgN⟩ : ∃ g, g = w.heap.size + 1 := ⟨_, rfl⟩
  rw [← hgN] at N2 ⊢
  clear hgE hgN HC hb1 hV2 B1 B0 A0 A1 hKs hat hsz hsz2
  go_upto_region 3 with (go_at_call 16; go_must (refine (refderive_in (Sea.nl 16 key) _ Sea.proS 32 _ (by omega) K2.out (by rw [Sea.nl_length]; omega) (by decide)).mono ?_; rintro e w3 ⟨v3, rfl, o3, hb3⟩))
  have M3 : Rs w3 v3 (Sea.mk key) := o3.bs.rs
  have E3 := E2.below hb3 E2.lt
  have N3 := N2.below hb3 N2.lt
  have B3 := B2.trans (hb3.mono B2.size)
  have hV3 := HV.out.below B3
  clear o3 hb3 K2 E2 N2 B2
  obtain ⟨ma, mc, rfl⟩ := M3.form
  rw [Sea.mk_length] at M3 ⊢
  have hNs : Rs w3 (.slice (some ⟨gN, 0, none⟩) 8 8) (Sea.nl 8 nonce) := (N3.bs HN.out (by omega)).rs
  refine wp_reg Tryd.f11 3 9 (fun w' => Below w3.heap.size w3 w') (by kernel_rfl) (by kernel_rfl) (by kernel_rfl) (below_drewN (Below.refl _ _) 1) (fun K hK h0 => ?_)
  refine reg_cast (listed' := #[false, false, false, false, false, false, false, false, false]) (by kernel_rfl) rfl ?_
  have HF := Lib.hid hK; clear hK
  refine reg_take 1 20 (.slice (some ⟨gN, 0, none⟩) 8 8) (by kernel_rfl) (fun _ _ => by kernel_rfl) h0 ?_
  simp only [Act.put, List.setIfInBounds_toArray, List.set_cons_zero, List.set_cons_succ]
  refine reg_load 3 22 (by kernel_rfl) _ (.tmp 9) (by kernel_rfl) ⟨gE, 0, none⟩ (by kernel_rfl) (arr .u8 16 (Sea.ek key)) _ (fun w' hw' => (E3.below hw' E3.lt).cells) rfl rfl (info16s _) h0 ?_
  simp only [Act.put, List.setIfInBounds_toArray, List.set_cons_zero, List.set_cons_succ]
  refine reg_load 4 23 (by kernel_rfl) _ (.tmp 6) (by kernel_rfl) ⟨gN, 0, none⟩ (by kernel_rfl) (arr .u8 8 nonce) _ (fun w' hw' => (N3.below hw' N3.lt).cells) rfl rfl (info8s _) h0 ?_
  simp only [Act.put, List.setIfInBounds_toArray, List.set_cons_zero, List.set_cons_succ]
  refine reg_take 5 24 (.slice a l.length cap) (by kernel_rfl) (fun _ _ => by kernel_rfl) h0 ?_
  simp only [Act.put, List.setIfInBounds_toArray, List.set_cons_zero, List.set_cons_succ]
  have hL : Below w3.heap.size w3 ((w3.drewN 1).alloc (.cells #[] 5)) := h0.alloc (Nat.le_refl _) _
  have O0 : Own ((w3.drewN 1).alloc (.cells #[] 5)) w3.heap.size (.slice (some ⟨(w3.drewN 1).heap.size, 0, none⟩) 0 0) [] := own_built (w3.drewN 1) w3.heap.size [] AllB.nil (Nat.le_refl _) (by simp)
  refine reg_one 0 (by kernel_rfl) (by kernel_rfl) (HStep.value (some 19) (by kernel_rfl) (by kernel_rfl) _ _ (exec_bytes_none _ _ _ (by kernel_rfl)) hL ?_)
  simp only [Act.put, List.setIfInBounds_toArray, List.set_cons_zero, List.set_cons_succ]
  refine reg_one 2 (by kernel_rfl) (by kernel_rfl) (HStep.of_law #[] (by kernel_rfl) fun K' hK' => ?_)
  refine wpList_append_rs rfl (.tmp 19) (.tmp 20) (by kernel_rfl) w3.heap.size _ [] (by kernel_rfl) O0 _ (Sea.nl 8 nonce) (by kernel_rfl) (hNs.below hL) (by simp [Sea.nl_length]) hL.size ?_
  intro v4 w4 o4 hg4
  have h4 : Below w3.heap.size w3 w4 := below_only hL (Nat.le_refl _) hg4 (fun q hq => (O0.lt q hq).1)
  refine hK' _ _ h4 ?_
  rw [show ({ opn (reg Tryd.f11 3) 2 with guard := none } : Oper).dst = some 21 from by kernel_rfl]
  clear hK' K'
  simp only [Act.put, List.setIfInBounds_toArray, List.set_cons_zero, List.set_cons_succ]
  refine reg_call 6 25 20 #[.agg (arr .u8 16 (Sea.ek key)), .agg (arr .u8 8 nonce), .slice a l.length cap] (by kernel_rfl) (by kernel_rfl) ?_
  refine (refcrypt_any (Sea.ek key) nonce _ l w4 (Sea.ek_b8 key) HN.out (hV3.below h4) (by omega)).mono ?_
  rintro e w5 ⟨v5, rfl, o5, hb5⟩
  have h5 : Below w3.heap.size w3 w5 := h4.trans (hb5.mono h4.size)
  have O5 := o4.below hb5
  refine ⟨_, rfl, h5, ?_⟩
  simp only [Act.put, List.setIfInBounds_toArray, List.set_cons_zero, List.set_cons_succ]
  refine reg_one 7 (by kernel_rfl) (by kernel_rfl) (HStep.of_law #[] (by kernel_rfl) fun K' hK' => ?_)
  refine wpList_append_rs rfl (.tmp 21) (.tmp 25) (by kernel_rfl) w3.heap.size _ _ rfl O5 _ _ rfl o5.bs.rs (by simp [Sea.nl_length, Ctr.crypt_length]; omega) h5.size ?_
  intro v6 w6 o6 hg6
  have h6 : Below w3.heap.size w3 w6 := below_only h5 (Nat.le_refl _) hg6 (fun q hq => (O5.lt q hq).1)
  refine hK' _ _ h6 ?_
  rw [show ({ opn (reg Tryd.f11 3) 7 with guard := none } : Oper).dst = some 26 from by kernel_rfl]
  clear hK' K'
  simp only [Act.put, List.setIfInBounds_toArray, List.set_cons_zero, List.set_cons_succ]
  refine reg_take 8 11 v6 (by kernel_rfl) (fun _ _ => by kernel_rfl) h6 ?_
  simp only [Act.put, List.setIfInBounds_toArray, List.set_cons_zero, List.set_cons_succ]
  refine reg_done (by kernel_rfl) (HF.out _ _ ?_)
  have hfr : [] ++ Sea.nl 8 nonce ++ Ctr.crypt (Sea.ek key) nonce 0 l = Sea.front key nonce l := rfl
  rw [hfr] at o6
  have M6 := M3.below h6
  have B6 := B3.trans (h6.mono B3.size)
  have O6 := o6.mono (base' := w.heap.size) B3.size
  clear HF h0 hL O0 o4 hg4 h4 o5 hb5 h5 O5 o6 hg6 h6 M3 E3 N3 B3 hV3 hNs hfr K
  obtain ⟨a6, c6, rfl⟩ := O6.form
  have hs6 := B6.size
  have hfl := Sea.front_length key nonce l
  have hfm : (u :: Sea.front key nonce l).length ≤ 140737488354000 := by simp; omega
  have hf2 : [u].length + (Sea.front key nonce l).length ≤ 140737488355328 := by simp; omega
  have HFL := Lib.hid hfl; clear hfl
  have OU := own_built w6 w.heap.size [u] (AllB.one hu) hs6 (by simp)
  have OU6 := own_built w6 w6.heap.size [u] (AllB.one hu) (Nat.le_refl _) (by simp)
  have BU := B6.alloc hs6 (.cells ([u].map bv).toArray 5)
  have hsz7 : w.heap.size ≤ (w6.alloc (.cells ([u].map bv).toArray 5)).heap.size := Nat.le_trans hs6 (by simp)
  go_upto_region 5 with (first
    | (at_builtin; go_must (refine wpList_append_rs rfl _ _ rfl w.heap.size (.slice (some ⟨w6.heap.size, 0, none⟩) 1 1) [u] rfl OU _ (Sea.front key nonce l) rfl (O6.alloc _).bs.rs hf2 hsz7 ?_; intro v7 w7 o7 hg7; have o7 : Own w7 w.heap.size v7 (u :: Sea.front key nonce l) := o7; have O7 := (O6.alloc (.cells ([u].map bv).toArray 5)).only hg7 (.inr (fun e => Nat.lt_irrefl _ (O6.lt _ e).2)); have M7 := M6.below (below_only ((Below.refl _ w6).alloc (Nat.le_refl _) (.cells ([u].map bv).toArray 5)) (Nat.le_refl _) hg7 (fun q hq => (OU6.lt q hq).1)); have B7 := below_only BU (Nat.le_refl _) hg7 (fun q hq => (OU.lt q hq).1)))
    | (go_at_call 21; go_must (refine (refmac_any (Sea.mk key) (u :: Sea.front key nonce l) _ _ w7 M7 (by rw [Sea.mk_length]; omega) o7.bs.rs hfm).mono ?_; rintro e w9 ⟨rfl, hb9⟩))
    | refine wpList_store_rowTo rfl _ _ _ rfl rfl w9.heap.size _ rfl rfl _ _ (heap_alloc_new _ _) (info32s _) (by rw [arr_size]; rfl) (arr_one _ _ _) ?_)
  generalize hW : World.setRow _ w9.heap.size _ = V3
  have C2 : isArr V3 w9.heap.size 36 .u8 32 (Mac.hm (Sea.mk key) (u :: Sea.front key nonce l)) := by rw [← hW]; exact setRow_heap _ _ _ _ _ _ (heap_alloc_new _ _)
  have hV3 : Below w9.heap.size w9 V3 := by rw [← hW]; exact below_setRow ((Below.refl _ _).alloc (Nat.le_refl _) _) (Nat.le_refl _) _
  clear hW
  have B9 := B7.trans (hb9.mono B7.size)
  have B10 := B9.trans (hV3.mono B9.size)
  have O10 := (O7.below hb9).below hV3
  obtain ⟨gC, hgC⟩ : ∃ g, g = w9.heap.size := ⟨_, rfl⟩
  rw [← hgC] at C2 ⊢
  clear hgC B7 B9 hb9 hV3 O7 M7 o7 hg7 OU OU6 BU hsz7 hs6 hf2 hfm
  have hCs : Rs V3 (.slice (some ⟨gC, 0, none⟩) 16 32) (Sea.code key u (Sea.front key nonce l)) := by
    have h := ((C2.bs (fun i => Mac.hm_lt _ _ i) (by omega)).rs).pre (m := 16) (by simp)
    have e : ((List.range 32).map (Mac.hm (Sea.mk key) (u :: Sea.front key nonce l))).take 16 = Sea.code key u (Sea.front key nonce l) := by
      unfold Sea.code Sea.nl
      rw [← List.map_take, List.take_range]; rfl
    rwa [e] at h
  have hcl : (Sea.code key u (Sea.front key nonce l)).length = 16 := Sea.nl_length _ _
  have hlen : (Sea.front key nonce l).length + (Sea.code key u (Sea.front key nonce l)).length ≤ 140737488355328 := by rw [hcl, HFL.out]; omega
  clear hcl
  go_wp2_with (at_builtin; go_must (refine wpList_append_rs rfl _ _ rfl w.heap.size (.slice a6 (Sea.front key nonce l).length c6) (Sea.front key nonce l) rfl O10 _ (Sea.code key u (Sea.front key nonce l)) rfl hCs hlen B10.size ?_; intro v11 w11 o11 hg11))
  go_ret
  exact ⟨_, rfl, o11, below_only B10 (Nat.le_refl _) hg11 (fun q hq => (O10.lt q hq).1)⟩
end Go.Proofs.YtpbcpdocnjnfiaaDoor
