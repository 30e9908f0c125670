/- mac.Key: walked. -/
import Derived.Test.YtgalddnblciciaaDoorMacH
import Derived.Test.YtgalddnblciciaaDoorRegB
namespace Go.Proofs.YtgalddnblciciaaDoor
open Go.RowKit Go.Deep

theorem info16 (f : Nat → Nat) : ((Tryd.prog).info? 57).map (·.size) = some (arr .u8 16 f).size := by rw [arr_size]; rfl
/-- The first 16 bytes that are derived. -/
def Mac.k16 (key lab : List Nat) (i : Nat) : Nat := (Mac.dn key lab 16).getD i 0
attribute [local irreducible] wpAnyH in
set_option maxRecDepth 100000 in
set_option maxHeartbeats 2000000 in
theorem mackey_any (key : List Nat) (kv : Value) (s : ByteArray) (w : World) (hk : Rs w kv key) (hkl : key.length ≤ 140737488354000) (hs : s.size ≤ 140737488353000) (hK : Consts w Sha.tab) :
    Calls Tryd.prog 35 #[kv, .string s] w fun e w' => e = .returned (.agg (arr .u8 16 (Mac.k16 key (lb s)))) ∧ Below w.heap.size w w' := by
  have HK := Lib.hid hK; clear hK
  have HQ := Lib.hid hk; clear hk
  go_enter Tryd.func35, Tryd.ntmps35
  go_upto_region 2 with fail
  generalize hW : (World.alloc _ _ : World) = V
  have INV : Below w.heap.size w V ∧ isArr V w.heap.size 57 .u8 16 (fun _ => 0) ∧ isArr V (w.heap.size + 1) 57 .u8 16 (fun _ => 0) := by
    have z1 : ∀ o : Obj, w.heap.size + 1 = (w.alloc o).heap.size := fun _ => by simp
    have zz : ∀ u : World, isArr (u.alloc (.cells #[.int .u8 0, .int .u8 0, .int .u8 0, .int .u8 0, .int .u8 0, .int .u8 0, .int .u8 0, .int .u8 0, .int .u8 0, .int .u8 0, .int .u8 0, .int .u8 0, .int .u8 0, .int .u8 0, .int .u8 0, .int .u8 0] 57)) u.heap.size 57 .u8 16 (fun _ => 0) := fun u =>
      isArr_lit _ _ _ _ _ _ rfl (fun i hi => by
        obtain rfl | rfl | rfl | rfl | rfl | rfl | rfl | rfl | rfl | rfl | rfl | rfl | rfl | rfl | rfl | rfl : i = 0 ∨ i = 1 ∨ i = 2 ∨ i = 3 ∨ i = 4 ∨ i = 5 ∨ i = 6 ∨ i = 7 ∨ i = 8 ∨ i = 9 ∨ i = 10 ∨ i = 11 ∨ i = 12 ∨ i = 13 ∨ i = 14 ∨ i = 15 := by omega
        all_goals rfl)
    rw [← hW]
    refine ⟨((Below.refl _ _).alloc (Nat.le_refl _) _).alloc (by simp) _, (zz w).alloc _, ?_⟩
    rw [z1]; exact zz _
  have I0 := Lib.hid INV
  clear hW INV
  obtain ⟨g, hg⟩ : ∃ g, g = w.heap.size + 1 := ⟨_, rfl⟩
  rw [← hg] at I0 ⊢
  have hgw : w.heap.size < g := by omega
  have HG := Lib.hid hg; clear hg
  obtain ⟨kx, kn, km, rfl⟩ : ∃ a n c, kv = .slice a n c := by obtain ⟨a, c, e⟩ := HQ.out.form; exact ⟨a, _, c, e⟩
  refine wp_reg Tryd.f35 2 5 (fun w' => Below w.heap.size w w') (by kernel_rfl) (by kernel_rfl) (by kernel_rfl) (below_drewN I0.out.1 1) (fun K hK h0 => ?_)
  refine reg_cast (listed' := #[false, false, false, false, false]) (by kernel_rfl) rfl ?_
  have HF := Lib.hid hK; clear hK
  refine reg_take 0 6 (.slice (some ⟨g, 0, none⟩) 16 16) (by kernel_rfl) (fun _ _ => by kernel_rfl) h0 ?_
  simp only [Act.put, List.setIfInBounds_toArray, List.set_cons_zero, List.set_cons_succ]
  refine reg_take 1 7 (.slice kx kn km) (by kernel_rfl) (fun _ _ => by kernel_rfl) h0 ?_
  simp only [Act.put, List.setIfInBounds_toArray, List.set_cons_zero, List.set_cons_succ]
  refine reg_take 2 8 (.string s) (by kernel_rfl) (fun _ _ => by kernel_rfl) h0 ?_
  simp only [Act.put, List.setIfInBounds_toArray, List.set_cons_zero, List.set_cons_succ]
  refine reg_call 3 9 33 #[.slice kx kn km, .string s, .int .i64 16] (by kernel_rfl) (by kernel_rfl) ?_
  refine (derive_in key _ s 16 _ (by omega) (HQ.out.below h0) hkl hs (HK.out.below h0)).mono ?_
  rintro e w6 ⟨v6, rfl, ho6, hb6⟩
  have h1 : Below w.heap.size w w6 := h0.trans (hb6.mono h0.size)
  have hA := (I0.out.2.2.drewN 1).below hb6 I0.out.2.2.lt
  have hR := (I0.out.2.1.drewN 1).below hb6 I0.out.2.1.lt
  have hln := Mac.dn_length key (lb s) 16
  refine ⟨_, rfl, h1, ?_⟩
  simp only [Act.put, List.setIfInBounds_toArray, List.set_cons_zero, List.set_cons_succ]
  refine reg_one 4 (by kernel_rfl) (by kernel_rfl) (HStep.of_law #[] (by kernel_rfl) fun K' hK' => ?_)
  refine wpList_copy_rs rfl (.tmp 6) (.tmp 9) (by kernel_rfl) g 16 _ _ (by kernel_rfl) hA v6 _ (by kernel_rfl) ho6.bs.rs ?_
  intro w7 hA7 hg7
  have h7 : Below w.heap.size w w7 := below_only h1 (Nat.le_refl _) hg7 (fun q hq => by cases hq; omega)
  have hR7 := hR.of_block (hg7.block _ hR.lt (by simp; omega))
  have hA8 : isArr w7 g 57 .u8 16 (Mac.k16 key (lb s)) := hA7.congr fun i hi => by rw [if_pos (by omega)]; rfl
  refine hK' _ _ h7 ?_
  have hd : (opn (reg Tryd.f35 2) 4).dst = some 10 := by kernel_rfl
  rw [show ({ opn (reg Tryd.f35 2) 4 with guard := none } : Oper).dst = some 10 from hd]
  refine reg_done (by kernel_rfl) (HF.out _ _ ?_)
  simp only [Act.put, List.setIfInBounds_toArray, List.set_cons_zero, List.set_cons_succ]
  clear HF h0 h1 hA hR hA7 hg7 I0
  go_wp2_with (first | refine wpList_load_row rfl _ _ rfl g rfl _ _ (0, 0) _ hA8 rfl rfl (info16 _) ?_ | (refine wpList_store_row rfl _ _ _ rfl w.heap.size _ rfl rfl _ _ hR7 (info16 _) ((arr_size _ _ _).trans (arr_size _ _ _).symm) (arr_one _ _ _) ?_))
  exact bodyPost_ret (results_cell_row rfl _ _ w.heap.size _ _ (0, 0) _ rfl (setRow_heap _ w.heap.size _ _ _ (0, 0) hR7) rfl rfl (info16 _)) rfl ⟨rfl, below_setRow h7 (Nat.le_refl _) _⟩
end Go.Proofs.YtgalddnblciciaaDoor
