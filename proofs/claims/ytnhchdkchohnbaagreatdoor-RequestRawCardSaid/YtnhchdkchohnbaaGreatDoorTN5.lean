/- Merged by program out of: SealE SealF SealG SealH. -/
import Derived.Test.YtnhchdkchohnbaaGreatDoorTM1
import Derived.Test.YtnhchdkchohnbaaGreatDoorTM2
import Derived.Test.YtnhchdkchohnbaaGreatDoorTM3
import Derived.Test.YtnhchdkchohnbaaGreatDoorTM4
import Derived.Test.YtnhchdkchohnbaaGreatDoorTM5
import Derived.Test.YtnhchdkchohnbaaGreatDoorTM6
import Derived.Test.YtnhchdkchohnbaaGreatDoorTM7
import Derived.Test.YtnhchdkchohnbaaGreatDoorTM8
import Derived.Test.YtnhchdkchohnbaaGreatDoorTM9
import Derived.Test.YtnhchdkchohnbaaGreatDoorTN1
import Derived.Test.YtnhchdkchohnbaaGreatDoorTN2
import Derived.Test.YtnhchdkchohnbaaGreatDoorTN3
import Derived.Test.YtnhchdkchohnbaaGreatDoorTN4
/- Layer 9: Seal of the reference. -/
namespace Go.Proofs.YtnhchdkchohnbaaGreatDoor
open Go.RowKit Go.Deep

theorem ek_def (key : Nat → Nat) : Sea.ek key = fun i => (Mac.dn (Sea.nl 16 key) (lb Sea.encS) 16).getD i 0 := rfl
theorem bs_cells {w : World} {v : Value} {l : List Nat} (h : Bs w v l) (n : Nat) (hl : n ≤ l.length) (hn : 0 < n) : ∃ g off c, v = .slice (some ⟨g, off, none⟩) l.length c ∧ l.length ≤ c ∧ ∀ j u, (arr .u8 n (fun i => l.getD i 0))[j]? = some u → w.cell? ((⟨g, off, none⟩ : Addr).add j) = some u := by
  rcases h.cases with ⟨_, rfl⟩ | ⟨g, off, gc, rfl, hc1, _, _, hc⟩
  · simp at hl; omega
  · have HC := cells_of (o := 0) (n := n) hc (by omega)
    have hf : (fun i => l.getD (0 + i) 0) = fun i => l.getD i 0 := by funext i; rw [Nat.zero_add]
    rw [hf, Nat.add_zero] at HC
    exact ⟨g, off, gc, rfl, hc1, HC⟩
theorem exec_bytes_none (o : Oper) (a : Act) (w : World) (ho : o.op = .buildSlice 24 0 #[]) :
    (execOp a.eval o).run Tryz.prog w = .ok (.value (.slice (some ⟨w.heap.size, 0, none⟩) 0 0)) (w.alloc (.cells #[] 5)) := by
  unfold execOp
  simp only [ho]
  have hz : ((Tryz.prog).info? 5).map (·.size) = some 1 := by kernel_rfl
  have hu := Tryz.underlying24
  go_simp
attribute [local irreducible] wpAnyH in
set_option maxRecDepth 100000 in
set_option maxHeartbeats 2000000 in
theorem refseal_any (key nonce : Nat → Nat) (u : Nat) (v : Value) (l : List Nat) (w : World) (hk : Aes.B8 key) (hn : Aes.B8 nonce) (hu : u < 256) (hv : Rs w v l) (hl : l.length ≤ 1000000) :
    Calls Tryz.prog 8 #[.agg (arr .u8 16 key), .int .u8 (u : Int), .agg (arr .u8 8 nonce), v] w (RetOwn (Sea.sld key u nonce l) w) := by
  have HB := Lib.hid hk; clear hk
  have HN := Lib.hid hn; clear hn
  obtain ⟨a, cap, rfl⟩ := hv.form
  have HV := Lib.hid hv; clear hv
  have hsz := arr_size .u8 16 key
  have hsz2 := arr_size .u8 8 nonce
  have hat : ∀ (ad : Option Addr) cp wx, (Instr.arrayAt 22 (.slice ad 16 cp)).run Tryz.prog wx = .ok (.pointer ad) wx := fun ad cp wx => run_arrayAt wx 22 5 16 ad 16 cp Tryz.underlying22 (Nat.le_refl _)
  have A0 := (isArr_new w 22 .u8 16 key).alloc (.cells (arr .u8 8 nonce) 23)
  have A1 := isArr_new (w.alloc (.cells (arr .u8 16 key) 22)) 23 .u8 8 nonce
  simp only [World.size_alloc] at A1
  have B0 := below_of_only (only_alloc (only_alloc (only_refl w none) (.cells (arr .u8 16 key) 22)) (.cells (arr .u8 8 nonce) 23))
  have hKs := Lib.hid (A0.bs HB.out (by omega)).rs
  go_enter Tryz.func8, Tryz.ntmps8
  go_upto_region 2 with (first
    | (go_at_call 33; go_must (refine (refderive_in (Sea.nl 16 key) _ Sea.encS 16 _ (by omega) hKs.out (by rw [Sea.nl_length]; omega) (by decide)).mono ?_; rintro e w1 ⟨v1, rfl, o1, hb1⟩; have hln := Mac.dn_length (Sea.nl 16 key) (lb Sea.encS) 16; obtain ⟨g, off, gc, rfl, hc1, hc⟩ := bs_cells o1.bs 16 (by omega) (by omega); rw [hln]; rw [← ek_def] at hc; have HC := Lib.hid hc; clear hc hln hc1 o1))
    | refine wpList_load_arr rfl _ _ rfl ⟨g, off, none⟩ rfl _ _ HC.out rfl rfl (info16s _) ?_
    | refine wpList_store_rowTo rfl _ _ _ rfl rfl w1.heap.size _ rfl rfl _ _ (heap_alloc_new _ _) (info16s _) (by rw [arr_size]; rfl) (arr_one _ _ _) ?_)
  generalize hW : World.setRow _ w1.heap.size _ = V2
  have E2 : isArr V2 w1.heap.size 22 .u8 16 (Sea.ek key) := by rw [← hW]; exact setRow_heap _ _ _ _ _ _ (heap_alloc_new _ _)
  have hV2 : Below w1.heap.size w1 V2 := by rw [← hW]; exact below_setRow ((Below.refl _ _).alloc (Nat.le_refl _) _) (Nat.le_refl _) _
  clear hW
  have B1 := B0.trans (hb1.mono B0.size)
  have B2 := B1.trans (hV2.mono B1.size)
  have K2 := Lib.hid ((hKs.out.below hb1).below hV2)
  have N2 := (A1.below hb1 A1.lt).below hV2 (A1.below hb1 A1.lt).lt
  obtain ⟨gE, hgE⟩ : ∃ g, g = w1.heap.size := ⟨_, rfl⟩
  rw [← hgE] at E2 ⊢
  obtain ⟨gN, hgN⟩ : ∃ g, g = w.heap.size + 1 := ⟨_, rfl⟩
  rw [← hgN] at N2 ⊢
  clear hgE hgN HC hb1 hV2 B1 B0 A0 A1 hKs hat hsz hsz2
  go_upto_region 3 with (go_at_call 33; go_must (refine (refderive_in (Sea.nl 16 key) _ Sea.proS 32 _ (by omega) K2.out (by rw [Sea.nl_length]; omega) (by decide)).mono ?_; rintro e w3 ⟨v3, rfl, o3, hb3⟩))
  have M3 : Rs w3 v3 (Sea.mk key) := o3.bs.rs
  have E3 := E2.below hb3 E2.lt
  have N3 := N2.below hb3 N2.lt
  have B3 := B2.trans (hb3.mono B2.size)
  have hV3 := HV.out.below B3
  clear o3 hb3 K2 E2 N2 B2
  obtain ⟨ma, mc, rfl⟩ := M3.form
  rw [Sea.mk_length] at M3 ⊢
  have hNs : Rs w3 (.slice (some ⟨gN, 0, none⟩) 8 8) (Sea.nl 8 nonce) := (N3.bs HN.out (by omega)).rs
  refine wp_reg Tryz.f8 3 9 (fun w' => Below w3.heap.size w3 w') (by kernel_rfl) (by kernel_rfl) (by kernel_rfl) (below_drewN (Below.refl _ _) 1) (fun K hK h0 => ?_)
  refine reg_cast (listed' := #[false, false, false, false, false, false, false, false, false]) (by kernel_rfl) rfl ?_
  have HF := Lib.hid hK; clear hK
  refine reg_take 1 20 (.slice (some ⟨gN, 0, none⟩) 8 8) (by kernel_rfl) (fun _ _ => by kernel_rfl) h0 ?_
  simp only [Act.put, List.setIfInBounds_toArray, List.set_cons_zero, List.set_cons_succ]
  refine reg_load 3 22 (by kernel_rfl) _ (.tmp 9) (by kernel_rfl) ⟨gE, 0, none⟩ (by kernel_rfl) (arr .u8 16 (Sea.ek key)) _ (fun w' hw' => (E3.below hw' E3.lt).cells) rfl rfl (info16s _) h0 ?_
  simp only [Act.put, List.setIfInBounds_toArray, List.set_cons_zero, List.set_cons_succ]
  refine reg_load 4 23 (by kernel_rfl) _ (.tmp 6) (by kernel_rfl) ⟨gN, 0, none⟩ (by kernel_rfl) (arr .u8 8 nonce) _ (fun w' hw' => (N3.below hw' N3.lt).cells) rfl rfl (info8s _) h0 ?_
  simp only [Act.put, List.setIfInBounds_toArray, List.set_cons_zero, List.set_cons_succ]
  refine reg_take 5 24 (.slice a l.length cap) (by kernel_rfl) (fun _ _ => by kernel_rfl) h0 ?_
  simp only [Act.put, List.setIfInBounds_toArray, List.set_cons_zero, List.set_cons_succ]
  have hL : Below w3.heap.size w3 ((w3.drewN 1).alloc (.cells #[] 5)) := h0.alloc (Nat.le_refl _) _
  have O0 : Own ((w3.drewN 1).alloc (.cells #[] 5)) w3.heap.size (.slice (some ⟨(w3.drewN 1).heap.size, 0, none⟩) 0 0) [] := own_built (w3.drewN 1) w3.heap.size [] AllB.nil (Nat.le_refl _) (by simp)
  refine reg_one 0 (by kernel_rfl) (by kernel_rfl) (HStep.value (some 19) (by kernel_rfl) (by kernel_rfl) _ _ (exec_bytes_none _ _ _ (by kernel_rfl)) hL ?_)
  simp only [Act.put, List.setIfInBounds_toArray, List.set_cons_zero, List.set_cons_succ]
  refine reg_one 2 (by kernel_rfl) (by kernel_rfl) (HStep.of_law #[] (by kernel_rfl) fun K' hK' => ?_)
  refine wpList_append_rs rfl (.tmp 19) (.tmp 20) (by kernel_rfl) w3.heap.size _ [] (by kernel_rfl) O0 _ (Sea.nl 8 nonce) (by kernel_rfl) (hNs.below hL) (by simp [Sea.nl_length]) hL.size ?_
  intro v4 w4 o4 hg4
  have h4 : Below w3.heap.size w3 w4 := below_only hL (Nat.le_refl _) hg4 (fun q hq => (O0.lt q hq).1)
  refine hK' _ _ h4 ?_
  rw [show ({ opn (reg Tryz.f8 3) 2 with guard := none } : Oper).dst = some 21 from by kernel_rfl]
  clear hK' K'
  simp only [Act.put, List.setIfInBounds_toArray, List.set_cons_zero, List.set_cons_succ]
  refine reg_call 6 25 34 #[.agg (arr .u8 16 (Sea.ek key)), .agg (arr .u8 8 nonce), .slice a l.length cap] (by kernel_rfl) (by kernel_rfl) ?_
  refine (refcrypt_any (Sea.ek key) nonce _ l w4 (Sea.ek_b8 key) HN.out (hV3.below h4) (by omega)).mono ?_
  rintro e w5 ⟨v5, rfl, o5, hb5⟩
  have h5 : Below w3.heap.size w3 w5 := h4.trans (hb5.mono h4.size)
  have O5 := o4.below hb5
  refine ⟨_, rfl, h5, ?_⟩
  simp only [Act.put, List.setIfInBounds_toArray, List.set_cons_zero, List.set_cons_succ]
  refine reg_one 7 (by kernel_rfl) (by kernel_rfl) (HStep.of_law #[] (by kernel_rfl) fun K' hK' => ?_)
  refine wpList_append_rs rfl (.tmp 21) (.tmp 25) (by kernel_rfl) w3.heap.size _ _ rfl O5 _ _ rfl o5.bs.rs (by simp [Sea.nl_length, Ctr.crypt_length]; omega) h5.size ?_
  intro v6 w6 o6 hg6
  have h6 : Below w3.heap.size w3 w6 := below_only h5 (Nat.le_refl _) hg6 (fun q hq => (O5.lt q hq).1)
  refine hK' _ _ h6 ?_
  rw [show ({ opn (reg Tryz.f8 3) 7 with guard := none } : Oper).dst = some 26 from by kernel_rfl]
  clear hK' K'
  simp only [Act.put, List.setIfInBounds_toArray, List.set_cons_zero, List.set_cons_succ]
  refine reg_take 8 11 v6 (by kernel_rfl) (fun _ _ => by kernel_rfl) h6 ?_
  simp only [Act.put, List.setIfInBounds_toArray, List.set_cons_zero, List.set_cons_succ]
  refine reg_done (by kernel_rfl) (HF.out _ _ ?_)
  have hfr : [] ++ Sea.nl 8 nonce ++ Ctr.crypt (Sea.ek key) nonce 0 l = Sea.front key nonce l := rfl
  rw [hfr] at o6
  have M6 := M3.below h6
  have B6 := B3.trans (h6.mono B3.size)
  have O6 := o6.mono (base' := w.heap.size) B3.size
  clear HF h0 hL O0 o4 hg4 h4 o5 hb5 h5 O5 o6 hg6 h6 M3 E3 N3 B3 hV3 hNs hfr K
  obtain ⟨a6, c6, rfl⟩ := O6.form
  have hs6 := B6.size
  have hfl := Sea.front_length key nonce l
  have hfm : (u :: Sea.front key nonce l).length ≤ 140737488354000 := by simp; omega
  have hf2 : [u].length + (Sea.front key nonce l).length ≤ 140737488355328 := by simp; omega
  have HFL := Lib.hid hfl; clear hfl
  have OU := own_built w6 w.heap.size [u] (AllB.one hu) hs6 (by simp)
  have OU6 := own_built w6 w6.heap.size [u] (AllB.one hu) (Nat.le_refl _) (by simp)
  have BU := B6.alloc hs6 (.cells ([u].map bv).toArray 5)
  have hsz7 : w.heap.size ≤ (w6.alloc (.cells ([u].map bv).toArray 5)).heap.size := Nat.le_trans hs6 (by simp)
  go_upto_region 5 with (first
    | (at_builtin; go_must (refine wpList_append_rs rfl _ _ rfl w.heap.size (.slice (some ⟨w6.heap.size, 0, none⟩) 1 1) [u] rfl OU _ (Sea.front key nonce l) rfl (O6.alloc _).bs.rs hf2 hsz7 ?_; intro v7 w7 o7 hg7; have o7 : Own w7 w.heap.size v7 (u :: Sea.front key nonce l) := o7; have O7 := (O6.alloc (.cells ([u].map bv).toArray 5)).only hg7 (.inr (fun e => Nat.lt_irrefl _ (O6.lt _ e).2)); have M7 := M6.below (below_only ((Below.refl _ w6).alloc (Nat.le_refl _) (.cells ([u].map bv).toArray 5)) (Nat.le_refl _) hg7 (fun q hq => (OU6.lt q hq).1)); have B7 := below_only BU (Nat.le_refl _) hg7 (fun q hq => (OU.lt q hq).1)))
    | (go_at_call 35; go_must (refine (refmac_any (Sea.mk key) (u :: Sea.front key nonce l) _ _ w7 M7 (by rw [Sea.mk_length]; omega) o7.bs.rs hfm).mono ?_; rintro e w9 ⟨rfl, hb9⟩))
    | refine wpList_store_rowTo rfl _ _ _ rfl rfl w9.heap.size _ rfl rfl _ _ (heap_alloc_new _ _) (info32s _) (by rw [arr_size]; rfl) (arr_one _ _ _) ?_)
  generalize hW : World.setRow _ w9.heap.size _ = V3
  have C2 : isArr V3 w9.heap.size 68 .u8 32 (Mac.hm (Sea.mk key) (u :: Sea.front key nonce l)) := by rw [← hW]; exact setRow_heap _ _ _ _ _ _ (heap_alloc_new _ _)
  have hV3 : Below w9.heap.size w9 V3 := by rw [← hW]; exact below_setRow ((Below.refl _ _).alloc (Nat.le_refl _) _) (Nat.le_refl _) _
  clear hW
  have B9 := B7.trans (hb9.mono B7.size)
  have B10 := B9.trans (hV3.mono B9.size)
  have O10 := (O7.below hb9).below hV3
  obtain ⟨gC, hgC⟩ : ∃ g, g = w9.heap.size := ⟨_, rfl⟩
  rw [← hgC] at C2 ⊢
  clear hgC B7 B9 hb9 hV3 O7 M7 o7 hg7 OU OU6 BU hsz7 hs6 hf2 hfm
  have hCs : Rs V3 (.slice (some ⟨gC, 0, none⟩) 16 32) (Sea.code key u (Sea.front key nonce l)) := by
    have h := ((C2.bs (fun i => Mac.hm_lt _ _ i) (by omega)).rs).pre (m := 16) (by simp)
    have e : ((List.range 32).map (Mac.hm (Sea.mk key) (u :: Sea.front key nonce l))).take 16 = Sea.code key u (Sea.front key nonce l) := by
      unfold Sea.code Sea.nl
      rw [← List.map_take, List.take_range]; rfl
    rwa [e] at h
  have hcl : (Sea.code key u (Sea.front key nonce l)).length = 16 := Sea.nl_length _ _
  have hlen : (Sea.front key nonce l).length + (Sea.code key u (Sea.front key nonce l)).length ≤ 140737488355328 := by rw [hcl, HFL.out]; omega
  clear hcl
  go_wp2_with (at_builtin; go_must (refine wpList_append_rs rfl _ _ rfl w.heap.size (.slice a6 (Sea.front key nonce l).length c6) (Sea.front key nonce l) rfl O10 _ (Sea.code key u (Sea.front key nonce l)) rfl hCs hlen B10.size ?_; intro v11 w11 o11 hg11))
  go_ret
  exact ⟨_, rfl, o11, below_only B10 (Nat.le_refl _) hg11 (fun q hq => (O10.lt q hq).1)⟩
end Go.Proofs.YtnhchdkchohnbaaGreatDoor
/- Layer 9: Open of the reference. -/
namespace Go.Proofs.YtnhchdkchohnbaaGreatDoor
open Go.RowKit Go.Deep

theorem cells_non {w : World} {b off cap : Nat} {s : List Nat} (h : Rs w (.slice (some ⟨b, off, none⟩) s.length cap) s) (hl : 8 ≤ s.length) : ∀ j u, (arr .u8 8 (Sea.non s))[j]? = some u → w.cell? ((⟨b, off, none⟩ : Addr).add j) = some u := by
  obtain ⟨b', off', e, hc⟩ := h.at (k := 0) (by omega)
  cases e
  have HC := cells_of (o := 0) (n := 8) hc (by omega)
  have hf : (fun i => s.getD (0 + i) 0) = Sea.non s := by funext i; rw [Nat.zero_add]; rfl
  rwa [hf, Nat.add_zero] at HC
attribute [local irreducible] wpAnyH in
set_option maxRecDepth 100000 in
set_option maxHeartbeats 2000000 in
theorem refopen_any (key : Nat → Nat) (u : Nat) (v : Value) (s : List Nat) (w : World) (hk : Aes.B8 key) (hu : u < 256) (hv : Rs w v s) (hl : s.length ≤ 1000000) :
    Calls Tryz.prog 37 #[.agg (arr .u8 16 key), .int .u8 (u : Int), v] w (RetPut (Sea.refOp key u s) w) := by
  have HB := Lib.hid hk; clear hk
  have hsz := arr_size .u8 16 key
  have A0 := isArr_new w 22 .u8 16 key
  have B0 := below_of_only (only_alloc (only_refl w none) (.cells (arr .u8 16 key) 22))
  by_cases h24 : s.length < 24
  · obtain ⟨a, cap, rfl⟩ := hv.form
    clear hv
    go_enter Tryz.func37, Tryz.ntmps37
    go_wp2_with fail
    all_goals first | omega | skip
    go_ret2
    exact ⟨B0, .inl ⟨by unfold Sea.refOp; rw [if_pos h24], rfl⟩⟩
  · have h0 : 0 < s.length := by omega
    obtain ⟨a, cap, rfl⟩ := hv.form
    obtain ⟨b, off, rfl, _⟩ := hv.at h0
    obtain ⟨hcap, hmax⟩ := hv.caps
    have HV := Lib.hid hv; clear hv
    have HV1 := Lib.hid (HV.out.below B0)
    have HS := Lib.hid (cells_non HV1.out (by omega))
    have hs8 : 8 ≤ cap := by omega
    have hat16 : ∀ (ad : Option Addr) cp wx, (Instr.arrayAt 22 (.slice ad 16 cp)).run Tryz.prog wx = .ok (.pointer ad) wx := fun ad cp wx => run_arrayAt wx 22 5 16 ad 16 cp Tryz.underlying22 (Nat.le_refl _)
    have hat8 : ∀ (ad : Option Addr) cp wx, (Instr.arrayAt 23 (.slice ad 8 cp)).run Tryz.prog wx = .ok (.pointer ad) wx := fun ad cp wx => run_arrayAt wx 23 5 8 ad 8 cp Tryz.underlying23 (Nat.le_refl _)
    have hslen : (s.length : Int) < 24 ↔ False := by constructor; omega; exact False.elim
    go_enter Tryz.func37, Tryz.ntmps37
    go_upto_region 4 with (first
      | refine wpList_load_arr rfl _ _ rfl ⟨b, off, none⟩ rfl _ _ HS.out rfl rfl (info8s _) ?_
      | refine wpList_store_rowTo rfl _ _ _ rfl rfl (w.heap.size + 1) _ rfl rfl _ _ (by have := heap_alloc_new (w.alloc (.cells (arr .u8 16 key) 22)) (.cells (Array.replicate 8 (.int .u8 0)) 23); rw [World.size_alloc] at this; exact this) (info8s _) (by rw [arr_size]; rfl) (arr_one _ _ _) ?_)
    generalize hW : World.setRow _ (w.heap.size + 1) _ = V1
    have N1 : isArr V1 (w.heap.size + 1) 23 .u8 8 (Sea.non s) := by
      rw [← hW]
      have := heap_alloc_new (w.alloc (.cells (arr .u8 16 key) 22)) (.cells (Array.replicate 8 (.int .u8 0)) 23)
      rw [World.size_alloc] at this
      exact setRow_heap _ _ _ _ _ _ this
    have A1 : isArr V1 w.heap.size 22 .u8 16 key := by rw [← hW]; exact setRow_other (A0.alloc _) (by omega) _
    have B1 : Below w.heap.size w V1 := by rw [← hW]; exact below_setRow (B0.alloc B0.size _) (by omega) _
    clear hW HS A0 B0 HV1 hs8 hat8 hslen
    obtain ⟨gN, hgN⟩ : ∃ g, g = w.heap.size + 1 := ⟨_, rfl⟩
    rw [← hgN] at N1 ⊢
    clear hgN
    have hKs := Lib.hid (A1.bs HB.out (by omega)).rs
    go_upto_region 5 with (first
      | (go_at_call 33; go_must (refine (refderive_in (Sea.nl 16 key) _ Sea.encS 16 _ (by omega) hKs.out (by rw [Sea.nl_length]; omega) (by decide)).mono ?_; rintro x w2 ⟨v2, rfl, o2, hb2⟩; have hln := Mac.dn_length (Sea.nl 16 key) (lb Sea.encS) 16; obtain ⟨g, goff, gc, rfl, hc1, hc⟩ := bs_cells o2.bs 16 (by omega) (by omega); rw [hln]; rw [← ek_def] at hc; have HC := Lib.hid hc; clear hc hln hc1 o2))
      | refine wpList_load_arr rfl _ _ rfl ⟨g, goff, none⟩ rfl _ _ HC.out rfl rfl (info16s _) ?_
      | refine wpList_store_rowTo rfl _ _ _ rfl rfl w2.heap.size _ rfl rfl _ _ (heap_alloc_new _ _) (info16s _) (by rw [arr_size]; rfl) (arr_one _ _ _) ?_)
    generalize hW : World.setRow _ w2.heap.size _ = V
    have EV : isArr V w2.heap.size 22 .u8 16 (Sea.ek key) := by rw [← hW]; exact setRow_heap _ _ _ _ _ _ (heap_alloc_new _ _)
    have hV2 : Below w2.heap.size w2 V := by rw [← hW]; exact below_setRow ((Below.refl _ _).alloc (Nat.le_refl _) _) (Nat.le_refl _) _
    clear hW
    have B2 := B1.trans (hb2.mono B1.size)
    have BV := B2.trans (hV2.mono B2.size)
    have NV := (N1.below hb2 N1.lt).below hV2 (N1.below hb2 N1.lt).lt
    have AV := (A1.below hb2 A1.lt).below hV2 (A1.below hb2 A1.lt).lt
    obtain ⟨gE, hgE⟩ : ∃ g, g = w2.heap.size := ⟨_, rfl⟩
    rw [← hgE] at EV ⊢
    have HVV := HV.out.below BV
    clear hgE HC hb2 hV2 B1 B2 A1 N1 hKs hat16 hsz
    obtain ⟨e, he⟩ : ∃ e, e = s.length - 16 := ⟨_, rfl⟩
    have hei : IntKind.i64.wrap ((s.length : Int) - 16) = (e : Int) := by simp only [IntKind.wrap_i64]; omega
    have he8 : 8 ≤ e := by omega
    have hel : e ≤ s.length := by omega
    have hfr : s.take e = Sea.fr s := by unfold Sea.fr; rw [he]
    have hfl : (Sea.fr s).length = e := by rw [← hfr, List.length_take]; omega
    have P9 := HVV.part 8 e cap he8 hel (by omega) hmax
    rw [hfr] at P9
    have hsn : ∀ i, Sea.non s i < 256 := fun i => HV.out.1.get i
    refine wp_reg Tryz.f37 5 9 (fun w' => Below V.heap.size V w') (by kernel_rfl) (by kernel_rfl) (by kernel_rfl) (below_drewN (Below.refl _ _) 1) (fun K hK h0 => ?_)
    refine reg_cast (listed' := #[false, false, false, false, false, false, false, false, false]) (by kernel_rfl) rfl ?_
    have HF := Lib.hid hK; clear hK
    refine reg_load 0 22 (by kernel_rfl) _ (.tmp 9) (by kernel_rfl) ⟨gE, 0, none⟩ (by kernel_rfl) (arr .u8 16 (Sea.ek key)) _ (fun w' hw' => (EV.below hw' EV.lt).cells) rfl rfl (info16s _) h0 ?_
    simp only [Act.put, List.setIfInBounds_toArray, List.set_cons_zero, List.set_cons_succ]
    refine reg_load 1 23 (by kernel_rfl) _ (.tmp 8) (by kernel_rfl) ⟨gN, 0, none⟩ (by kernel_rfl) (arr .u8 8 (Sea.non s)) _ (fun w' hw' => (NV.below hw' NV.lt).cells) rfl rfl (info8s _) h0 ?_
    simp only [Act.put, List.setIfInBounds_toArray, List.set_cons_zero, List.set_cons_succ]
    refine reg_take 2 24 (.slice (some ⟨b, off, none⟩) s.length cap) (by kernel_rfl) (fun _ _ => by kernel_rfl) h0 ?_
    simp only [Act.put, List.setIfInBounds_toArray, List.set_cons_zero, List.set_cons_succ]
    refine reg_take 3 25 (.slice (some ⟨b, off, none⟩) s.length cap) (by kernel_rfl) (fun _ _ => by kernel_rfl) h0 ?_
    simp only [Act.put, List.setIfInBounds_toArray, List.set_cons_zero, List.set_cons_succ]
    refine reg_take 4 26 (.int .i64 s.length) (by kernel_rfl) (fun _ _ => by kernel_rfl) h0 ?_
    simp only [Act.put, List.setIfInBounds_toArray, List.set_cons_zero, List.set_cons_succ]
    refine reg_take 5 27 (.int .i64 e) (by kernel_rfl) (fun _ _ => by rw [← hei]; kernel_rfl) h0 ?_
    simp only [Act.put, List.setIfInBounds_toArray, List.set_cons_zero, List.set_cons_succ]
    refine reg_take 6 28 (.slice (partA b off 8 cap) (e - 8) (cap - 8)) (by kernel_rfl) (fun _ _ => exec_part2 (x := .tmp 24) (y := .const (.int .i64 8)) (z := .tmp 27) (b := b) (off := off) (len := s.length) (cap := cap) (i := 8) (j := e) (by kernel_rfl) (by kernel_rfl) (by kernel_rfl) (by kernel_rfl) he8 (by omega)) h0 ?_
    simp only [Act.put, List.setIfInBounds_toArray, List.set_cons_zero, List.set_cons_succ]
    refine reg_call 7 29 34 #[.agg (arr .u8 16 (Sea.ek key)), .agg (arr .u8 8 (Sea.non s)), .slice (partA b off 8 cap) (e - 8) (cap - 8)] (by kernel_rfl) (by kernel_rfl) ?_
    refine (refcrypt_any (Sea.ek key) (Sea.non s) _ ((Sea.fr s).drop 8) (V.drewN 1) (Sea.ek_b8 key) hsn (P9.below h0) (by rw [List.length_drop]; omega)).mono ?_
    rintro x w6 ⟨v6, rfl, o6, hb6⟩
    have h6 : Below V.heap.size V w6 := h0.trans hb6
    refine ⟨_, rfl, h6, ?_⟩
    simp only [Act.put, List.setIfInBounds_toArray, List.set_cons_zero, List.set_cons_succ]
    refine reg_take 8 10 v6 (by kernel_rfl) (fun _ _ => by kernel_rfl) h6 ?_
    simp only [Act.put, List.setIfInBounds_toArray, List.set_cons_zero, List.set_cons_succ]
    refine reg_done (by kernel_rfl) (HF.out _ _ ?_)
    have A6 := AV.below h6 AV.lt
    have N6 := NV.below h6 NV.lt
    have B6 := BV.trans (h6.mono BV.size)
    have O6 := o6.mono (base' := w.heap.size) (Nat.le_trans BV.size h0.size)
    have hcl : (Ctr.crypt (Sea.ek key) (Sea.non s) 0 ((Sea.fr s).drop 8)).length ≤ 1000000 := by rw [Ctr.crypt_length, List.length_drop]; omega
    have HN8 : Aes.B8 (Sea.non s) := hsn
    have HVF := Lib.hid (HV.out.below B6)
    have HRO := Lib.hid (show Sea.refOp key u s = if Sea.sld key u (Sea.non s) (Ctr.crypt (Sea.ek key) (Sea.non s) 0 ((Sea.fr s).drop 8)) = s then some (Ctr.crypt (Sea.ek key) (Sea.non s) 0 ((Sea.fr s).drop 8)) else none by unfold Sea.refOp; rw [if_neg h24])
    clear HF h0 h6 hb6 o6 EV NV AV BV HVV P9 hfr hfl hei he8 hel he K
    have R6 := Lib.hid O6.bs.rs
    have HCL := Lib.hid hcl; clear hcl
    generalize Ctr.crypt (Sea.ek key) (Sea.non s) 0 ((Sea.fr s).drop 8) = L at *
    obtain ⟨a6, c6, rfl⟩ := O6.form
    go_wp2_with (first
      | refine wpList_load_row rfl _ _ rfl w.heap.size rfl _ _ (0, 0) _ A6 rfl rfl (info16s _) ?_
      | refine wpList_load_row rfl _ _ rfl gN rfl _ _ (0, 0) _ N6 rfl rfl (info8s _) ?_
      | (go_at_call 8; go_must (refine (refseal_any key (Sea.non s) u _ L w6 HB.out HN8 hu R6.out HCL.out).mono ?_; rintro x w7 ⟨v7, rfl, o7, hb7⟩)))
    refine (same_any _ _ (Sea.sld key u (Sea.non s) L) s w7 o7.bs.rs (HVF.out.below hb7)).mono ?_
    rintro x w8 ⟨rfl, hb8⟩
    have B7 := B6.trans (hb7.mono B6.size)
    have B8 := B7.trans (hb8.mono B7.size)
    have O8 := (O6.below hb7).below hb8
    clear hb7 hb8 B6 B7 O6 A6 N6 o7
    by_cases hsame : Sea.sld key u (Sea.non s) L = s
    · have hr := HRO.out
      rw [if_pos hsame] at hr
      have HR := Lib.hid hr
      rw [sameB_yes hsame]
      clear hsame hr HRO
      go_wp2_with fail
      go_ret2
      exact ⟨B8, .inr ⟨L, _, HR.out, rfl, O8⟩⟩
    · have hr := HRO.out
      rw [if_neg hsame] at hr
      have HR := Lib.hid hr
      rw [sameB_no hsame]
      clear hsame hr HRO
      go_wp2_with fail
      go_ret2
      exact ⟨B8, .inl ⟨HR.out, rfl⟩⟩
end Go.Proofs.YtnhchdkchohnbaaGreatDoor
/- Layer 9: what the laws' awake leans on, in numbers; a changed code. -/
namespace Go.Proofs.YtnhchdkchohnbaaGreatDoor
open Go.RowKit Go.Deep

def Mac.hmR (key msg : List Nat) : Sha.St := Sha.frcS (Sha.digR (Mac.fr (Mac.p0 key) 54 ++ msg)) fun s => Sha.digR (Mac.fr (Mac.p0 key) 92 ++ (List.range 32).map (Sha.out s))
theorem Mac.hm_eq (key msg : List Nat) : Mac.hm key msg = Sha.out (Mac.hmR key msg) := by
  unfold Mac.hmR Mac.hm
  rw [Sha.frcS_eq, Sha.dig_eq, Mac.dl, Sha.dig_eq]
namespace Sea
def non1 (i : Nat) : Nat := if i = 0 then 1 else 0
def mk7 : List Nat := [200, 143, 206, 79, 77, 212, 163, 250, 24, 116, 217, 34, 5, 106, 138, 215, 167, 255, 15, 101, 245, 114, 254, 143, 112, 169, 13, 238, 191, 51, 174, 179]
set_option maxRecDepth 100000 in
theorem hm3 : Mac.hm mk7 (3 :: nl 8 non1) 0 = 42 := by rw [Mac.hm_eq]; decide +kernel
set_option maxRecDepth 100000 in
theorem hm4 : Mac.hm mk7 (4 :: nl 8 non1) 0 = 105 := by rw [Mac.hm_eq]; decide +kernel
end Sea
end Go.Proofs.YtnhchdkchohnbaaGreatDoor
/- Layer 9: what the laws' awake answers. -/
namespace Go.Proofs.YtnhchdkchohnbaaGreatDoor
open Go.RowKit Go.Deep

end Go.Proofs.YtnhchdkchohnbaaGreatDoor
