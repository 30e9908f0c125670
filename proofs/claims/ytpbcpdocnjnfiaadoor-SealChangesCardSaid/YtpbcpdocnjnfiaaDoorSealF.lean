/- Layer 9: Open of the reference. -/
import Derived.Test.YtpbcpdocnjnfiaaDoorSealE
namespace Go.Proofs.YtpbcpdocnjnfiaaDoor
open Go.RowKit Go.Deep

theorem cells_non {w : World} {b off cap : Nat} {s : List Nat} (h : Rs w (.slice (some ⟨b, off, none⟩) s.length cap) s) (hl : 8 ≤ s.length) : ∀ j u, (arr .u8 8 (Sea.non s))[j]? = some u → w.cell? ((⟨b, off, none⟩ : Addr).add j) = some u := by
  obtain ⟨b', off', e, hc⟩ := h.at (k := 0) (by omega)
  cases e
  have HC := cells_of (o := 0) (n := 8) hc (by omega)
  have hf : (fun i => s.getD (0 + i) 0) = Sea.non s := by funext i; rw [Nat.zero_add]; rfl
  rwa [hf, Nat.add_zero] at HC
attribute [local irreducible] wpAnyH in
set_option maxRecDepth 100000 in
set_option maxHeartbeats 2000000 in
theorem refopen_any (key : Nat → Nat) (u : Nat) (v : Value) (s : List Nat) (w : World) (hk : Aes.B8 key) (hu : u < 256) (hv : Rs w v s) (hl : s.length ≤ 1000000) :
    Calls Tryd.prog 14 #[.agg (arr .u8 16 key), .int .u8 (u : Int), v] w (RetPut (Sea.refOp key u s) w) := by
  have HB := Lib.hid hk; clear hk
  have hsz := arr_size .u8 16 key
  have A0 := isArr_new w 22 .u8 16 key
  have B0 := below_of_only (only_alloc (only_refl w none) (.cells (arr .u8 16 key) 22))
  by_cases h24 : s.length < 24
  · obtain ⟨a, cap, rfl⟩ := hv.form
    clear hv
    go_enter Tryd.func14, Tryd.ntmps14
    go_wp2_with fail
    all_goals first | omega | skip
    go_ret2
    exact ⟨B0, .inl ⟨by unfold Sea.refOp; rw [if_pos h24], rfl⟩⟩
  · have h0 : 0 < s.length := by omega
    obtain ⟨a, cap, rfl⟩ := hv.form
    obtain ⟨b, off, rfl, _⟩ := hv.at h0
    obtain ⟨hcap, hmax⟩ := hv.caps
    have HV := Lib.hid hv; clear hv
    have HV1 := Lib.hid (HV.out.below B0)
    have HS := Lib.hid (cells_non HV1.out (by omega))
    have hs8 : 8 ≤ cap := by omega
    have hat16 : ∀ (ad : Option Addr) cp wx, (Instr.arrayAt 22 (.slice ad 16 cp)).run Tryd.prog wx = .ok (.pointer ad) wx := fun ad cp wx => run_arrayAt wx 22 5 16 ad 16 cp Tryd.underlying22 (Nat.le_refl _)
    have hat8 : ∀ (ad : Option Addr) cp wx, (Instr.arrayAt 23 (.slice ad 8 cp)).run Tryd.prog wx = .ok (.pointer ad) wx := fun ad cp wx => run_arrayAt wx 23 5 8 ad 8 cp Tryd.underlying23 (Nat.le_refl _)
    have hslen : (s.length : Int) < 24 ↔ False := by constructor; omega; exact False.elim
    go_enter Tryd.func14, Tryd.ntmps14
    go_upto_region 4 with (first
      | refine wpList_load_arr rfl _ _ rfl ⟨b, off, none⟩ rfl _ _ HS.out rfl rfl (info8s _) ?_
      | refine wpList_store_rowTo rfl _ _ _ rfl rfl (w.heap.size + 1) _ rfl rfl _ _ (by have := heap_alloc_new (w.alloc (.cells (arr .u8 16 key) 22)) (.cells (Array.replicate 8 (.int .u8 0)) 23); rw [World.size_alloc] at this; exact this) (info8s _) (by rw [arr_size]; rfl) (arr_one _ _ _) ?_)
    generalize hW : World.setRow _ (w.heap.size + 1) _ = V1
    have N1 : isArr V1 (w.heap.size + 1) 23 .u8 8 (Sea.non s) := by
      rw [← hW]
      have := heap_alloc_new (w.alloc (.cells (arr .u8 16 key) 22)) (.cells (Array.replicate 8 (.int .u8 0)) 23)
      rw [World.size_alloc] at this
      exact setRow_heap _ _ _ _ _ _ this
    have A1 : isArr V1 w.heap.size 22 .u8 16 key := by rw [← hW]; exact setRow_other (A0.alloc _) (by omega) _
    have B1 : Below w.heap.size w V1 := by rw [← hW]; exact below_setRow (B0.alloc B0.size _) (by omega) _
    clear hW HS A0 B0 HV1 hs8 hat8 hslen
    obtain ⟨gN, hgN⟩ : ∃ g, g = w.heap.size + 1 := ⟨_, rfl⟩
    rw [← hgN] at N1 ⊢
    clear hgN
    have hKs := Lib.hid (A1.bs HB.out (by omega)).rs
    go_upto_region 5 with (first
      | (go_at_call 16; go_must (refine (refderive_in (Sea.nl 16 key) _ Sea.encS 16 _ (by omega) hKs.out (by rw [Sea.nl_length]; omega) (by decide)).mono ?_; rintro x w2 ⟨v2, rfl, o2, hb2⟩; have hln := Mac.dn_length (Sea.nl 16 key) (lb Sea.encS) 16; obtain ⟨g, goff, gc, rfl, hc1, hc⟩ := bs_cells o2.bs 16 (by omega) (by omega); rw [hln]; rw [← ek_def] at hc; have HC := Lib.hid hc; clear hc hln hc1 o2))
      | refine wpList_load_arr rfl _ _ rfl ⟨g, goff, none⟩ rfl _ _ HC.out rfl rfl (info16s _) ?_
      | refine wpList_store_rowTo rfl _ _ _ rfl rfl w2.heap.size _ rfl rfl _ _ (heap_alloc_new _ _) (info16s _) (by rw [arr_size]; rfl) (arr_one _ _ _) ?_)
    generalize hW : World.setRow _ w2.heap.size _ = V
    have EV : isArr V w2.heap.size 22 .u8 16 (Sea.ek key) := by rw [← hW]; exact setRow_heap _ _ _ _ _ _ (heap_alloc_new _ _)
    have hV2 : Below w2.heap.size w2 V := by rw [← hW]; exact below_setRow ((Below.refl _ _).alloc (Nat.le_refl _) _) (Nat.le_refl _) _
    clear hW
    have B2 := B1.trans (hb2.mono B1.size)
    have BV := B2.trans (hV2.mono B2.size)
    have NV := (N1.below hb2 N1.lt).below hV2 (N1.below hb2 N1.lt).lt
    have AV := (A1.below hb2 A1.lt).below hV2 (A1.below hb2 A1.lt).lt
    obtain ⟨gE, hgE⟩ : ∃ g, g = w2.heap.size := ⟨_, rfl⟩
    rw [← hgE] at EV ⊢
    have HVV := HV.out.below BV
    clear hgE HC hb2 hV2 B1 B2 A1 N1 hKs hat16 hsz
    obtain ⟨e, he⟩ : ∃ e, e = s.length - 16 := ⟨_, rfl⟩
    have hei : IntKind.i64.wrap ((s.length : Int) - 16) = (e : Int) := by simp only [IntKind.wrap_i64]; omega
    have he8 : 8 ≤ e := by omega
    have hel : e ≤ s.length := by omega
    have hfr : s.take e = Sea.fr s := by unfold Sea.fr; rw [he]
    have hfl : (Sea.fr s).length = e := by rw [← hfr, List.length_take]; omega
    have P9 := HVV.part 8 e cap he8 hel (by omega) hmax
    rw [hfr] at P9
    have hsn : ∀ i, Sea.non s i < 256 := fun i => HV.out.1.get i
    refine wp_reg Tryd.f14 5 9 (fun w' => Below V.heap.size V w') (by kernel_rfl) (by kernel_rfl) (by kernel_rfl) (below_drewN (Below.refl _ _) 1) (fun K hK h0 => ?_)
    refine reg_cast (listed' := #[false, false, false, false, false, false, false, false, false]) (by kernel_rfl) rfl ?_
    have HF := Lib.hid hK; clear hK
    refine reg_load 0 22 (by kernel_rfl) _ (.tmp 9) (by kernel_rfl) ⟨gE, 0, none⟩ (by kernel_rfl) (arr .u8 16 (Sea.ek key)) _ (fun w' hw' => (EV.below hw' EV.lt).cells) rfl rfl (info16s _) h0 ?_
    simp only [Act.put, List.setIfInBounds_toArray, List.set_cons_zero, List.set_cons_succ]
    refine reg_load 1 23 (by kernel_rfl) _ (.tmp 8) (by kernel_rfl) ⟨gN, 0, none⟩ (by kernel_rfl) (arr .u8 8 (Sea.non s)) _ (fun w' hw' => (NV.below hw' NV.lt).cells) rfl rfl (info8s _) h0 ?_
    simp only [Act.put, List.setIfInBounds_toArray, List.set_cons_zero, List.set_cons_succ]
    refine reg_take 2 24 (.slice (some ⟨b, off, none⟩) s.length cap) (by kernel_rfl) (fun _ _ => by kernel_rfl) h0 ?_
    simp only [Act.put, List.setIfInBounds_toArray, List.set_cons_zero, List.set_cons_succ]
    refine reg_take 3 25 (.slice (some ⟨b, off, none⟩) s.length cap) (by kernel_rfl) (fun _ _ => by kernel_rfl) h0 ?_
    simp only [Act.put, List.setIfInBounds_toArray, List.set_cons_zero, List.set_cons_succ]
    refine reg_take 4 26 (.int .i64 s.length) (by kernel_rfl) (fun _ _ => by kernel_rfl) h0 ?_
    simp only [Act.put, List.setIfInBounds_toArray, List.set_cons_zero, List.set_cons_succ]
    refine reg_take 5 27 (.int .i64 e) (by kernel_rfl) (fun _ _ => by rw [← hei]; kernel_rfl) h0 ?_
    simp only [Act.put, List.setIfInBounds_toArray, List.set_cons_zero, List.set_cons_succ]
    refine reg_take 6 28 (.slice (partA b off 8 cap) (e - 8) (cap - 8)) (by kernel_rfl) (fun _ _ => exec_part2 (x := .tmp 24) (y := .const (.int .i64 8)) (z := .tmp 27) (b := b) (off := off) (len := s.length) (cap := cap) (i := 8) (j := e) (by kernel_rfl) (by kernel_rfl) (by kernel_rfl) (by kernel_rfl) he8 (by omega)) h0 ?_
    simp only [Act.put, List.setIfInBounds_toArray, List.set_cons_zero, List.set_cons_succ]
    refine reg_call 7 29 20 #[.agg (arr .u8 16 (Sea.ek key)), .agg (arr .u8 8 (Sea.non s)), .slice (partA b off 8 cap) (e - 8) (cap - 8)] (by kernel_rfl) (by kernel_rfl) ?_
    refine (refcrypt_any (Sea.ek key) (Sea.non s) _ ((Sea.fr s).drop 8) (V.drewN 1) (Sea.ek_b8 key) hsn (P9.below h0) (by rw [List.length_drop]; omega)).mono ?_
    rintro x w6 ⟨v6, rfl, o6, hb6⟩
    have h6 : Below V.heap.size V w6 := h0.trans hb6
    refine ⟨_, rfl, h6, ?_⟩
    simp only [Act.put, List.setIfInBounds_toArray, List.set_cons_zero, List.set_cons_succ]
    refine reg_take 8 10 v6 (by kernel_rfl) (fun _ _ => by kernel_rfl) h6 ?_
    simp only [Act.put, List.setIfInBounds_toArray, List.set_cons_zero, List.set_cons_succ]
    refine reg_done (by kernel_rfl) (HF.out _ _ ?_)
    have A6 := AV.below h6 AV.lt
    have N6 := NV.below h6 NV.lt
    have B6 := BV.trans (h6.mono BV.size)
    have O6 := o6.mono (base' := w.heap.size) (Nat.le_trans BV.size h0.size)
    have hcl : (Ctr.crypt (Sea.ek key) (Sea.non s) 0 ((Sea.fr s).drop 8)).length ≤ 1000000 := by rw [Ctr.crypt_length, List.length_drop]; omega
    have HN8 : Aes.B8 (Sea.non s) := hsn
    have HVF := Lib.hid (HV.out.below B6)
    have HRO := Lib.hid (show Sea.refOp key u s = if Sea.sld key u (Sea.non s) (Ctr.crypt (Sea.ek key) (Sea.non s) 0 ((Sea.fr s).drop 8)) = s then some (Ctr.crypt (Sea.ek key) (Sea.non s) 0 ((Sea.fr s).drop 8)) else none by unfold Sea.refOp; rw [if_neg h24])
    clear HF h0 h6 hb6 o6 EV NV AV BV HVV P9 hfr hfl hei he8 hel he K
    have R6 := Lib.hid O6.bs.rs
    have HCL := Lib.hid hcl; clear hcl
    generalize Ctr.crypt (Sea.ek key) (Sea.non s) 0 ((Sea.fr s).drop 8) = L at *
    obtain ⟨a6, c6, rfl⟩ := O6.form
    go_wp2_with (first
      | refine wpList_load_row rfl _ _ rfl w.heap.size rfl _ _ (0, 0) _ A6 rfl rfl (info16s _) ?_
      | refine wpList_load_row rfl _ _ rfl gN rfl _ _ (0, 0) _ N6 rfl rfl (info8s _) ?_
      | (go_at_call 11; go_must (refine (refseal_any key (Sea.non s) u _ L w6 HB.out HN8 hu R6.out HCL.out).mono ?_; rintro x w7 ⟨v7, rfl, o7, hb7⟩)))
    refine (same_any _ _ (Sea.sld key u (Sea.non s) L) s w7 o7.bs.rs (HVF.out.below hb7)).mono ?_
    rintro x w8 ⟨rfl, hb8⟩
    have B7 := B6.trans (hb7.mono B6.size)
    have B8 := B7.trans (hb8.mono B7.size)
    have O8 := (O6.below hb7).below hb8
    clear hb7 hb8 B6 B7 O6 A6 N6 o7
    by_cases hsame : Sea.sld key u (Sea.non s) L = s
    · have hr := HRO.out
      rw [if_pos hsame] at hr
      have HR := Lib.hid hr
      rw [sameB_yes hsame]
      clear hsame hr HRO
      go_wp2_with fail
      go_ret2
      exact ⟨B8, .inr ⟨L, _, HR.out, rfl, O8⟩⟩
    · have hr := HRO.out
      rw [if_neg hsame] at hr
      have HR := Lib.hid hr
      rw [sameB_no hsame]
      clear hsame hr HRO
      go_wp2_with fail
      go_ret2
      exact ⟨B8, .inl ⟨HR.out, rfl⟩⟩
end Go.Proofs.YtpbcpdocnjnfiaaDoor
