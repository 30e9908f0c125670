/- Layer 9: Nonce of the program. -/
import Derived.Test.YtpbcpdocnjnfiaaDoorSealA
namespace Go.Proofs.YtpbcpdocnjnfiaaDoor
open Go.RowKit Go.Deep

theorem results_row_tmp {P : Program} {fn : Func} {p u : Tmp} {ty : TypeId} (h : fn.results = #[.cell p ty, .tmp u]) (tmps : Array Value) (w : World) (g : Nat) (t : TypeId) (cs : Array Value) (fr : Nat × Nat) (d : TypeDesc)
    (hp : tmps.getD p undef = .pointer (some ⟨g, 0, none⟩)) (hg : w.heap[g]? = some (.cells cs t fr))
    (hu : P.underlying ty = some d) (hd : (match d with | .struct _ | .array _ _ => true | _ => false) = true) (hi : (P.info? ty).map (·.size) = some cs.size) :
    (results fn tmps).run P w = .ok (.tuple #[.agg cs, tmps.getD u undef]) w := by
  have hp' : tmps[p]?.getD undef = .pointer (some ⟨g, 0, none⟩) := by simpa using hp
  simp [results, h, hp', asAddr, run_loadVar_row w g t ty cs fr d hg hu hd hi]
/-- The nonce of a string, and whether it is long enough. -/
def Sea.nonI (s : List Nat) (i : Nat) : Nat := if s.length < 24 then 0 else Sea.non s i
set_option maxRecDepth 100000 in
set_option maxHeartbeats 2000000 in
theorem nonce_any (v : Value) (s : List Nat) (w : World) (h : Rs w v s) :
    Calls Tryd.prog 13 #[v] w fun e w' => e = .returned (.tuple #[.agg (arr .u8 8 (Sea.nonI s)), .bool (decide (24 ≤ s.length))]) ∧ Below w.heap.size w w' := by
  obtain ⟨a, cap, rfl⟩ := h.form
  have H := Lib.hid h; clear h
  go_enter Tryd.func13, Tryd.ntmps13
  go_upto_region 2 with fail
  generalize hW : (World.alloc _ _ : World) = V
  have INV : Below w.heap.size w V ∧ isArr V w.heap.size 23 .u8 8 (fun _ => 0) ∧ isArr V (w.heap.size + 1) 23 .u8 8 (fun _ => 0) := by
    rw [← hW, zeros8]
    have a0 := isArr_new w 23 .u8 8 (fun _ => 0)
    have a1 := isArr_new (w.alloc (.cells (arr .u8 8 (fun _ => 0)) 23)) 23 .u8 8 (fun _ => 0)
    simp only [World.size_alloc] at a1
    exact ⟨below_of_only (only_alloc (only_alloc (only_refl w none) _) _), a0.alloc _, a1⟩
  obtain ⟨hB0, A0, A1⟩ := INV
  clear hW
  obtain ⟨g1, hg1⟩ : ∃ g, g = w.heap.size + 1 := ⟨_, rfl⟩
  rw [← hg1] at A1 ⊢
  have l1 : w.heap.size < g1 := by omega
  clear hg1
  by_cases hs : s.length < 24
  · have hf : arr .u8 8 (Sea.nonI s) = arr .u8 8 (fun _ => 0) := by
      have : Sea.nonI s = fun _ => 0 := by funext i; unfold Sea.nonI; rw [if_pos hs]
      rw [this]
    have hd : false = decide (24 ≤ s.length) := (decide_eq_false (by omega : ¬ 24 ≤ s.length)).symm
    have HD := Lib.hid hd; clear hd
    have HF := Lib.hid hf; clear hf
    go_wp2_with (first | refine wpList_load_row rfl _ _ rfl g1 rfl _ _ (0, 0) _ A1 rfl rfl (info8s _) ?_ | (refine wpList_store_row rfl _ _ _ rfl w.heap.size _ rfl rfl _ _ A0 (info8s _) ((arr_size _ _ _).trans (arr_size _ _ _).symm) (arr_one _ _ _) ?_))
    all_goals first | omega | skip
    refine bodyPost_ret (results_row_tmp rfl _ _ w.heap.size _ _ (0, 0) _ rfl (setRow_heap _ w.heap.size _ _ _ (0, 0) A0) rfl rfl (info8s _)) rfl ?_
    rw [HF.out, ← HD.out]
    exact ⟨rfl, below_setRow hB0 (Nat.le_refl _) _⟩
  · have hd : true = decide (24 ≤ s.length) := (decide_eq_true (by omega : 24 ≤ s.length)).symm
    have HD := Lib.hid hd; clear hd
    have HV := H.out.below hB0
    go_wp2_with (first | (refine wpList_copy_rs rfl _ _ rfl g1 8 _ _ rfl A1 _ s rfl HV ?_; intro w7 hA7 hg7; have h7 : Below w.heap.size w w7 := below_only hB0 (Nat.le_refl _) hg7 (fun q hq => by cases hq; omega); have C0 := A0.of_block (hg7.block _ A0.lt (by simp; omega)); have C1 : isArr w7 g1 23 .u8 8 (Sea.nonI s) := hA7.congr fun i hi => by (rw [if_pos (by omega)]; unfold Sea.nonI; rw [if_neg hs]; rfl)) | refine wpList_load_row rfl _ _ rfl g1 rfl _ _ (0, 0) _ C1 rfl rfl (info8s _) ?_ | (refine wpList_store_row rfl _ _ _ rfl w.heap.size _ rfl rfl _ _ C0 (info8s _) ((arr_size _ _ _).trans (arr_size _ _ _).symm) (arr_one _ _ _) ?_))
    all_goals first | omega | skip
    refine bodyPost_ret (results_row_tmp rfl _ _ w.heap.size _ _ (0, 0) _ rfl (setRow_heap _ w.heap.size _ _ _ (0, 0) C0) rfl rfl (info8s _)) rfl ?_
    rw [← HD.out]
    exact ⟨rfl, below_setRow h7 (Nat.le_refl _) _⟩
end Go.Proofs.YtpbcpdocnjnfiaaDoor
