import Derived.Test.YtgalddnblciciaaDoorMacF
import Derived.Test.YtgalddnblciciaaDoorReg
namespace Go.Proofs.YtgalddnblciciaaDoor
open Go.RowKit Go.Deep

theorem exec_load_u8 {o : Oper} {a : Act} {w : World} (x : Operand) (ad : Addr) (v : Int) (ho : o.op = .load 5 x) (hx : a.eval x = .pointer (some ad)) (hc : w.cell? ad = some (.int .u8 v)) :
    (execOp a.eval o).run Tryd.prog w = .ok (.value (.int .u8 v)) w := by
  unfold execOp
  simp only [ho, hx]
  have hz : ((Tryd.prog).info? 5).map (·.size) = some 1 := by obtain ⟨i0, hi, _, hz1, _⟩ := info_parts info_u8; rw [hi]; simp [hz1]
  go_simp

/-- The array from its second byte on reads as the rest. -/
theorem rs_arr_tail {w : World} {b n : Nat} {t : TypeId} {f : Nat → Nat} (h : isArr w b t .u8 (n + 1) f) (hf : ∀ i, i < n + 1 → f i < 256) (hn : n + 1 ≤ 9223372036854775807) : Rs w (.slice (some ⟨b, 1, none⟩) n n) ((List.range n).map fun i => f (i + 1)) := by
  refine ⟨fun x hx => ?_, by simp; omega, .inr ⟨⟨b, 1, none⟩, n, by rw [List.length_map, List.length_range], by rw [List.length_map, List.length_range]; exact ⟨Nat.le_refl _, by omega⟩, fun i hi => ?_⟩⟩
  · obtain ⟨i, hi, rfl⟩ := List.mem_map.1 hx
    exact hf _ (by simp at hi; omega)
  · have hi' : i < n := by simpa using hi
    rw [Addr.add_lit, Nat.add_comm, h.cell (by omega)]
    simp [List.getD, hi', bv]

attribute [local irreducible] wpAnyH in
set_option maxRecDepth 100000 in
set_option maxHeartbeats 4000000 in
theorem macAwake_any (w : World) (hK : Consts w Sha.tab) : Calls Tryd.prog 28 #[] w (RetBool true w) := by
  have HK := Lib.hid hK; clear hK
  have hi32 : ∀ f, ((Tryd.prog).info? 26).map (·.size) = some (arr .u8 32 f).size := by intro f; rw [arr_size]; rfl
  go_enter Tryd.func28, Tryd.ntmps28
  go_upto_region 2 with (first | (refine wpList_lit rfl _ rfl _ 4 _ Mac.jefe rfl rfl rfl rfl (allB_of _ (by decide)) (by decide) ?_; intro v1 w1 hr1 hb1; obtain ⟨a1, c1, rfl⟩ := hr1.form) | (refine wpList_lit rfl _ rfl _ 16 _ Mac.ask rfl rfl rfl rfl (allB_of _ (by decide)) (by decide) ?_; intro v2 w2 hr2 hb2; obtain ⟨a2, c2, rfl⟩ := hr2.form) | (refine wpList_lit rfl _ rfl _ 12 _ Mac.noth rfl rfl rfl rfl (allB_of _ (by decide)) (by decide) ?_; intro v3 w3 hr3 hb3; obtain ⟨a3, c3, rfl⟩ := hr3.form) | (go_at_call 29; go_must (refine (macsum_any Mac.jefe _ _ [Mac.ask, Mac.noth] _ ((hr1.below (hb2.trans (hb3.mono hb2.size))).below ((Below.refl _ _).alloc (Nat.le_refl _) _)) (by decide) (bss_two (hr2.below hb3) hr3) (by decide) (by decide) (HK.out.below (((hb1.trans (hb2.mono hb1.size)).trans (hb3.mono (Nat.le_trans hb1.size hb2.size))).alloc (Nat.le_trans (Nat.le_trans hb1.size hb2.size) hb3.size) _))).mono ?_; rintro e w4 ⟨rfl, hb4⟩)) | (refine wpList_store_rowTo rfl _ _ _ rfl rfl w4.heap.size _ rfl rfl _ _ (heap_alloc_new _ _) (hi32 _) (by rw [arr_size]; rfl) (arr_one _ _ _) ?_; generalize hV : World.setRow _ w4.heap.size _ = V))
  have hb03 : Below w.heap.size w w3 := (hb1.trans (hb2.mono hb1.size)).trans (hb3.mono (Nat.le_trans hb1.size hb2.size))
  have hb04 : Below w.heap.size w w4 := (hb03.alloc hb03.size _).trans (hb4.mono (by have := hb03.size; simp; omega))
  have hbV : Below w.heap.size w V := by rw [← hV]; exact below_setRow (hb04.alloc hb04.size _) hb04.size _
  have hA : isArr V w4.heap.size 26 .u8 32 (Mac.hm Mac.jefe (Mac.ask ++ Mac.noth)) := by
    rw [← hV]; exact setRow_heap _ _ _ _ _ _ (heap_alloc_new _ _)
  have VB := Lib.hid hbV
  have VA := Lib.hid hA
  clear hV hb1 hb2 hb3 hb4 hb03 hb04 hr1 hr2 hr3 hbV hA
  generalize w4.heap.size = ga at VA ⊢
  have hj : Wir.join [Mac.ask, Mac.noth] = Mac.ask ++ Mac.noth := by simp [Wir.join]
  have LC : ∀ (i c : Nat), i < 32 → Mac.hm Mac.jefe (Mac.ask ++ Mac.noth) i = c → ∀ w', Below V.heap.size V w' → w'.cell? ⟨ga, i, none⟩ = some (.int .u8 (c : Int)) := fun i c hi e w' k => by
    rw [← e]; exact (VA.out.below k VA.out.lt).cell hi
  have RA : ∀ w', Below V.heap.size V w' → Rs w' (.slice (some ⟨ga, 0, none⟩) 32 32) ((List.range 32).map (Mac.hm Mac.jefe (Mac.ask ++ Mac.noth))) := fun w' k => rs_arr (VA.out.below k VA.out.lt) (fun i _ => Mac.hm_lt _ _ i) (by omega)
  have RT : ∀ w', Below V.heap.size V w' → Rs w' (.slice (some ⟨ga, 1, none⟩) 31 31) ((List.range 31).map fun i => Mac.hm Mac.jefe (Mac.ask ++ Mac.noth) (i + 1)) := fun w' k => rs_arr_tail (VA.out.below k VA.out.lt) (fun i _ => Mac.hm_lt _ _ i) (by omega)
  have hsd : sameB ((List.range 32).map (Mac.hm Mac.jefe (Mac.ask ++ Mac.noth))) ((List.range 31).map fun i => Mac.hm Mac.jefe (Mac.ask ++ Mac.noth) (i + 1)) = false := by
    unfold sameB
    rw [decide_eq_false_iff_not]
    intro e
    have := congrArg List.length e
    simp at this
  have R16 : ∀ w', Below V.heap.size V w' → Rs w' (.slice (some ⟨ga, 0, none⟩) 16 32) ((List.range 16).map (Mac.hm Mac.jefe (Mac.ask ++ Mac.noth))) := fun w' k => rs_arr_take (m := 16) (VA.out.below k VA.out.lt) (fun i _ => Mac.hm_lt _ _ i) (by omega) (by omega)
  have R15 : ∀ w', Below V.heap.size V w' → Rs w' (.slice (some ⟨ga, 0, none⟩) 15 32) ((List.range 15).map (Mac.hm Mac.jefe (Mac.ask ++ Mac.noth))) := fun w' k => rs_arr_take (m := 15) (VA.out.below k VA.out.lt) (fun i _ => Mac.hm_lt _ _ i) (by omega) (by omega)
  have ok16 : Mac.ok Mac.jefe ((List.range 16).map (Mac.hm Mac.jefe (Mac.ask ++ Mac.noth))) (Wir.join [Mac.ask ++ Mac.noth]) = true := by
    rw [show Wir.join [Mac.ask ++ Mac.noth] = Mac.ask ++ Mac.noth by simp [Wir.join]]
    unfold Mac.ok
    rw [sameB_yes (by simp)]
    simp
  have ok15 : Mac.ok Mac.jefe ((List.range 15).map (Mac.hm Mac.jefe (Mac.ask ++ Mac.noth))) (Wir.join [Mac.ask ++ Mac.noth]) = false := by
    unfold Mac.ok
    simp
  have L0 := LC 0 91 (by omega) hm_jefe.1
  have L1 := LC 1 220 (by omega) hm_jefe.2.1
  have L2 := LC 2 193 (by omega) hm_jefe.2.2.1
  have L31 := LC 31 67 (by omega) hm_jefe.2.2.2
  refine wp_reg Tryd.f28 2 59 (fun w' => Below V.heap.size V w') (by kernel_rfl) (by kernel_rfl) (by kernel_rfl) (below_drewN (Below.refl _ _) 1) (fun K hK h0 => ?_)
  refine reg_cast (listed' := #[false, false, false, false, false, false, false, false, false, false, false, false, false, false, false, false, false, false, false, false, false, false, false, false, false, false, false, false, false, false, false, false, false, false, false, false, false, false, false, false, false, false, false, false, false, false, false, false, false, false, false, false, false, false, false, false, false, false, false]) (by kernel_rfl) rfl ?_
  have HF := Lib.hid hK; clear hK
  refine reg_take 0 10 (.pointer (some ⟨ga, 0, none⟩)) (by kernel_rfl) (fun _ _ => by kernel_rfl) h0 ?_
  simp only [Act.put, List.setIfInBounds_toArray, List.set_cons_zero, List.set_cons_succ]
  refine reg_take 1 11 (.int .u8 91) (by kernel_rfl) (fun w' k => by have := L0 w' k; exact exec_load_u8 (.tmp 10) ⟨ga, 0, none⟩ _ (by kernel_rfl) (by kernel_rfl) this) h0 ?_
  simp only [Act.put, List.setIfInBounds_toArray, List.set_cons_zero, List.set_cons_succ]
  refine reg_take 2 12 (.bool true) (by kernel_rfl) (fun _ _ => by kernel_rfl) h0 ?_
  simp only [Act.put, List.setIfInBounds_toArray, List.set_cons_zero, List.set_cons_succ]
  refine reg_take 3 13 (.bool true) (by kernel_rfl) (fun _ _ => by kernel_rfl) h0 ?_
  simp only [Act.put, List.setIfInBounds_toArray, List.set_cons_zero, List.set_cons_succ]
  refine reg_take 4 14 (.pointer (some ⟨ga, 1, none⟩)) (by kernel_rfl) (fun _ _ => by kernel_rfl) h0 ?_
  simp only [Act.put, List.setIfInBounds_toArray, List.set_cons_zero, List.set_cons_succ]
  refine reg_take 5 15 (.int .u8 220) (by kernel_rfl) (fun w' k => by have := L1 w' k; exact exec_load_u8 (.tmp 14) ⟨ga, 1, none⟩ _ (by kernel_rfl) (by kernel_rfl) this) h0 ?_
  simp only [Act.put, List.setIfInBounds_toArray, List.set_cons_zero, List.set_cons_succ]
  refine reg_take 6 16 (.bool true) (by kernel_rfl) (fun _ _ => by kernel_rfl) h0 ?_
  simp only [Act.put, List.setIfInBounds_toArray, List.set_cons_zero, List.set_cons_succ]
  refine reg_take 7 17 (.bool true) (by kernel_rfl) (fun _ _ => by kernel_rfl) h0 ?_
  simp only [Act.put, List.setIfInBounds_toArray, List.set_cons_zero, List.set_cons_succ]
  refine reg_take 8 18 (.bool true) (by kernel_rfl) (fun _ _ => by kernel_rfl) h0 ?_
  simp only [Act.put, List.setIfInBounds_toArray, List.set_cons_zero, List.set_cons_succ]
  refine reg_take 9 19 (.pointer (some ⟨ga, 2, none⟩)) (by kernel_rfl) (fun _ _ => by kernel_rfl) h0 ?_
  simp only [Act.put, List.setIfInBounds_toArray, List.set_cons_zero, List.set_cons_succ]
  refine reg_take 10 20 (.int .u8 193) (by kernel_rfl) (fun w' k => by have := L2 w' k; exact exec_load_u8 (.tmp 19) ⟨ga, 2, none⟩ _ (by kernel_rfl) (by kernel_rfl) this) h0 ?_
  simp only [Act.put, List.setIfInBounds_toArray, List.set_cons_zero, List.set_cons_succ]
  refine reg_take 11 21 (.bool true) (by kernel_rfl) (fun _ _ => by kernel_rfl) h0 ?_
  simp only [Act.put, List.setIfInBounds_toArray, List.set_cons_zero, List.set_cons_succ]
  refine reg_take 12 22 (.bool true) (by kernel_rfl) (fun _ _ => by kernel_rfl) h0 ?_
  simp only [Act.put, List.setIfInBounds_toArray, List.set_cons_zero, List.set_cons_succ]
  refine reg_take 13 23 (.bool true) (by kernel_rfl) (fun _ _ => by kernel_rfl) h0 ?_
  simp only [Act.put, List.setIfInBounds_toArray, List.set_cons_zero, List.set_cons_succ]
  refine reg_take 14 24 (.pointer (some ⟨ga, 31, none⟩)) (by kernel_rfl) (fun _ _ => by kernel_rfl) h0 ?_
  simp only [Act.put, List.setIfInBounds_toArray, List.set_cons_zero, List.set_cons_succ]
  refine reg_take 15 25 (.int .u8 67) (by kernel_rfl) (fun w' k => by have := L31 w' k; exact exec_load_u8 (.tmp 24) ⟨ga, 31, none⟩ _ (by kernel_rfl) (by kernel_rfl) this) h0 ?_
  simp only [Act.put, List.setIfInBounds_toArray, List.set_cons_zero, List.set_cons_succ]
  refine reg_take 16 26 (.bool true) (by kernel_rfl) (fun _ _ => by kernel_rfl) h0 ?_
  simp only [Act.put, List.setIfInBounds_toArray, List.set_cons_zero, List.set_cons_succ]
  refine reg_take 17 27 (.bool true) (by kernel_rfl) (fun _ _ => by kernel_rfl) h0 ?_
  simp only [Act.put, List.setIfInBounds_toArray, List.set_cons_zero, List.set_cons_succ]
  refine reg_take 18 28 (.bool true) (by kernel_rfl) (fun _ _ => by kernel_rfl) h0 ?_
  simp only [Act.put, List.setIfInBounds_toArray, List.set_cons_zero, List.set_cons_succ]
  refine reg_take 19 29 (.slice (some ⟨ga, 0, none⟩) 32 32) (by kernel_rfl) (fun _ _ => by kernel_rfl) h0 ?_
  simp only [Act.put, List.setIfInBounds_toArray, List.set_cons_zero, List.set_cons_succ]
  refine reg_take 20 30 (.slice (some ⟨ga, 0, none⟩) 32 32) (by kernel_rfl) (fun _ _ => by kernel_rfl) h0 ?_
  simp only [Act.put, List.setIfInBounds_toArray, List.set_cons_zero, List.set_cons_succ]
  refine reg_call 21 31 32 #[.slice (some ⟨ga, 0, none⟩) 32 32, .slice (some ⟨ga, 0, none⟩) 32 32] (by kernel_rfl) (by kernel_rfl) ?_
  refine (equal_any _ _ _ _ _ (RA _ h0) (RA _ h0)).mono ?_
  rintro e w5 ⟨rfl, rfl⟩
  rw [sameB_yes rfl]
  refine ⟨_, rfl, h0, ?_⟩
  simp only [Act.put, List.setIfInBounds_toArray, List.set_cons_zero, List.set_cons_succ]
  refine reg_take 22 32 (.bool true) (by kernel_rfl) (fun _ _ => by kernel_rfl) h0 ?_
  simp only [Act.put, List.setIfInBounds_toArray, List.set_cons_zero, List.set_cons_succ]
  refine reg_take 23 33 (.bool true) (by kernel_rfl) (fun _ _ => by kernel_rfl) h0 ?_
  simp only [Act.put, List.setIfInBounds_toArray, List.set_cons_zero, List.set_cons_succ]
  refine reg_take 24 34 (.slice (some ⟨ga, 0, none⟩) 32 32) (by kernel_rfl) (fun _ _ => by kernel_rfl) h0 ?_
  simp only [Act.put, List.setIfInBounds_toArray, List.set_cons_zero, List.set_cons_succ]
  refine reg_take 25 35 (.slice (some ⟨ga, 1, none⟩) 31 31) (by kernel_rfl) (fun _ _ => by kernel_rfl) h0 ?_
  simp only [Act.put, List.setIfInBounds_toArray, List.set_cons_zero, List.set_cons_succ]
  refine reg_call 26 36 32 #[.slice (some ⟨ga, 0, none⟩) 32 32, .slice (some ⟨ga, 1, none⟩) 31 31] (by kernel_rfl) (by kernel_rfl) ?_
  refine (equal_any _ _ _ _ _ (RA _ h0) (RT _ h0)).mono ?_
  rintro e w5 ⟨rfl, rfl⟩
  rw [hsd]
  refine ⟨_, rfl, h0, ?_⟩
  simp only [Act.put, List.setIfInBounds_toArray, List.set_cons_zero, List.set_cons_succ]
  refine reg_take 27 37 (.bool true) (by kernel_rfl) (fun _ _ => by kernel_rfl) h0 ?_
  simp only [Act.put, List.setIfInBounds_toArray, List.set_cons_zero, List.set_cons_succ]
  refine reg_take 28 38 (.bool true) (by kernel_rfl) (fun _ _ => by kernel_rfl) h0 ?_
  simp only [Act.put, List.setIfInBounds_toArray, List.set_cons_zero, List.set_cons_succ]
  refine reg_take 29 39 (.bool true) (by kernel_rfl) (fun _ _ => by kernel_rfl) h0 ?_
  simp only [Act.put, List.setIfInBounds_toArray, List.set_cons_zero, List.set_cons_succ]
  refine reg_call 30 40 33 #[.slice none 0 0, .string ⟨#[120]⟩, .int .i64 40] (by kernel_rfl) (by kernel_rfl) ?_
  refine (derive_in [] _ _ 40 _ (by omega) (Bs.nil _).rs (by simp) (by decide) (HK.out.below (VB.out.trans (h0.mono VB.out.size)))).mono ?_
  rintro e w6 ⟨v6, rfl, ho6, hb6⟩
  obtain ⟨a6, c6, rfl⟩ := ho6.form
  rw [Mac.dn_length]
  have h0 := below_then h0 hb6
  refine ⟨_, rfl, h0, ?_⟩
  simp only [Act.put, List.setIfInBounds_toArray, List.set_cons_zero, List.set_cons_succ]
  refine reg_take 31 41 (.int .i64 40) (by kernel_rfl) (fun _ _ => by kernel_rfl) h0 ?_
  simp only [Act.put, List.setIfInBounds_toArray, List.set_cons_zero, List.set_cons_succ]
  refine reg_take 32 42 (.bool true) (by kernel_rfl) (fun _ _ => by kernel_rfl) h0 ?_
  simp only [Act.put, List.setIfInBounds_toArray, List.set_cons_zero, List.set_cons_succ]
  refine reg_take 33 43 (.bool true) (by kernel_rfl) (fun _ _ => by kernel_rfl) h0 ?_
  simp only [Act.put, List.setIfInBounds_toArray, List.set_cons_zero, List.set_cons_succ]
  refine reg_take 34 44 (.bool true) (by kernel_rfl) (fun _ _ => by kernel_rfl) h0 ?_
  simp only [Act.put, List.setIfInBounds_toArray, List.set_cons_zero, List.set_cons_succ]
  refine reg_call 35 45 33 #[.slice none 0 0, .string ⟨#[120]⟩, .int .i64 (-1)] (by kernel_rfl) (by kernel_rfl) ?_
  refine (derive_out _ _ (-1) _ (.inl (by decide))).mono ?_
  rintro e w7 ⟨v7, rfl, ho7, hb7⟩
  obtain ⟨a7, c7, rfl⟩ := ho7.form
  have h0 := below_then h0 hb7
  refine ⟨_, rfl, h0, ?_⟩
  simp only [Act.put, List.setIfInBounds_toArray, List.set_cons_zero, List.set_cons_succ]
  refine reg_take 36 46 (.int .i64 0) (by kernel_rfl) (fun _ _ => by kernel_rfl) h0 ?_
  simp only [Act.put, List.setIfInBounds_toArray, List.set_cons_zero, List.set_cons_succ]
  refine reg_take 37 47 (.bool true) (by kernel_rfl) (fun _ _ => by kernel_rfl) h0 ?_
  simp only [Act.put, List.setIfInBounds_toArray, List.set_cons_zero, List.set_cons_succ]
  refine reg_take 38 48 (.bool true) (by kernel_rfl) (fun _ _ => by kernel_rfl) h0 ?_
  simp only [Act.put, List.setIfInBounds_toArray, List.set_cons_zero, List.set_cons_succ]
  refine reg_take 39 49 (.bool true) (by kernel_rfl) (fun _ _ => by kernel_rfl) h0 ?_
  simp only [Act.put, List.setIfInBounds_toArray, List.set_cons_zero, List.set_cons_succ]
  refine reg_take 42 52 (.slice (some ⟨ga, 0, none⟩) 16 32) (by kernel_rfl) (fun _ _ => by kernel_rfl) h0 ?_
  simp only [Act.put, List.setIfInBounds_toArray, List.set_cons_zero, List.set_cons_succ]
  refine reg_cut (α := Value × Value × Value) 13 #[true, true, true, true, true, true, true, true, true, true, true, true, true, true, true, true, true, true, true, true, true, true, true, true, true, true, true, true, true, true, true, true, true, true, true, true, true, true, true, true, true, true, true, true, true, true, false, false, false, false, false, false, false, false, false, false, false, false, false] (fun a x => (Act.put (Act.put (Act.put (Act.put (Act.put a (some 50) x.1) (some 51) x.1) (some 53) x.2.1) (some 54) x.2.1) (some 55) x.2.2)) (fun x w' => Below V.heap.size V w' ∧ Rs w' x.1 Mac.jefe ∧ Bss w' x.2.2 [Mac.ask ++ Mac.noth]) ?_ (fun cut => ?_)
  · rintro ⟨vA, vB, vL⟩ wc ⟨h0, hA, hL⟩
    simp only [Act.put, List.setIfInBounds_toArray, List.set_cons_zero, List.set_cons_succ]
    refine reg_call 46 56 31 #[vA, .slice (some ⟨ga, 0, none⟩) 16 32, vL] (by kernel_rfl) (by kernel_rfl) ?_
    refine (check_any Mac.jefe _ _ _ _ [Mac.ask ++ Mac.noth] _ hA (by decide) (R16 _ h0) hL (by decide) (by decide) (HK.out.below (VB.out.trans (h0.mono VB.out.size)))).mono ?_
    rintro e w8 ⟨rfl, hb8⟩
    have h0 := below_then h0 hb8
    rw [ok16]
    refine ⟨_, rfl, h0, ?_⟩
    simp only [Act.put, List.setIfInBounds_toArray, List.set_cons_zero, List.set_cons_succ]
    refine reg_take 47 57 (.bool true) (by kernel_rfl) (fun _ _ => by kernel_rfl) h0 ?_
    simp only [Act.put, List.setIfInBounds_toArray, List.set_cons_zero, List.set_cons_succ]
    refine reg_take 48 58 (.bool true) (by kernel_rfl) (fun _ _ => by kernel_rfl) h0 ?_
    simp only [Act.put, List.setIfInBounds_toArray, List.set_cons_zero, List.set_cons_succ]
    refine reg_take 51 61 (.slice (some ⟨ga, 0, none⟩) 15 32) (by kernel_rfl) (fun _ _ => by kernel_rfl) h0 ?_
    simp only [Act.put, List.setIfInBounds_toArray, List.set_cons_zero, List.set_cons_succ]
    refine reg_cut (α := Value × Value × Value) 4 #[true, true, true, true, true, true, true, true, true, true, true, true, true, true, true, true, true, true, true, true, true, true, true, true, true, true, true, true, true, true, true, true, true, true, true, true, true, true, true, true, true, true, true, true, true, true, true, true, true, true, true, true, true, true, true, false, false, false, false] (fun a x => (Act.put (Act.put (Act.put (Act.put (Act.put a (some 59) x.1) (some 60) x.1) (some 62) x.2.1) (some 63) x.2.1) (some 64) x.2.2)) (fun x w' => Below V.heap.size V w' ∧ Rs w' x.1 Mac.jefe ∧ Bss w' x.2.2 [Mac.ask ++ Mac.noth]) ?_ (fun cut => ?_)
    · rintro ⟨vA, vB, vL⟩ wc ⟨h0, hA, hL⟩
      simp only [Act.put, List.setIfInBounds_toArray, List.set_cons_zero, List.set_cons_succ]
      refine reg_call 55 65 31 #[vA, .slice (some ⟨ga, 0, none⟩) 15 32, vL] (by kernel_rfl) (by kernel_rfl) ?_
      refine (check_any Mac.jefe _ _ _ _ [Mac.ask ++ Mac.noth] _ hA (by decide) (R15 _ h0) hL (by decide) (by decide) (HK.out.below (VB.out.trans (h0.mono VB.out.size)))).mono ?_
      rintro e w8 ⟨rfl, hb8⟩
      have h0 := below_then h0 hb8
      rw [ok15]
      refine ⟨_, rfl, h0, ?_⟩
      simp only [Act.put, List.setIfInBounds_toArray, List.set_cons_zero, List.set_cons_succ]
      refine reg_take 56 66 (.bool true) (by kernel_rfl) (fun _ _ => by kernel_rfl) h0 ?_
      simp only [Act.put, List.setIfInBounds_toArray, List.set_cons_zero, List.set_cons_succ]
      refine reg_take 57 67 (.bool true) (by kernel_rfl) (fun _ _ => by kernel_rfl) h0 ?_
      simp only [Act.put, List.setIfInBounds_toArray, List.set_cons_zero, List.set_cons_succ]
      refine reg_take 58 0 (.bool true) (by kernel_rfl) (fun _ _ => by kernel_rfl) h0 ?_
      simp only [Act.put, List.setIfInBounds_toArray, List.set_cons_zero, List.set_cons_succ]
      refine reg_done (by kernel_rfl) (HF.out _ _ ?_)
      have h0 := VB.out.trans (h0.mono VB.out.size)
      clear HF
      go_wp2_with fail
      go_ret
      exact ⟨rfl, h0⟩
    refine reg_two 49 52 (by kernel_rfl) (by kernel_rfl) (k_lit 59 (Mac.jefe) 4 (by kernel_rfl) (by kernel_rfl) (by kernel_rfl) (by kernel_rfl) h0 (Nat.le_refl _) (by kernel_rfl) ?_) (k_lit 62 (Mac.ask ++ Mac.noth) 28 (by kernel_rfl) (by kernel_rfl) (by kernel_rfl) (by kernel_rfl) h0 (Nat.le_refl _) (by kernel_rfl) ?_)
    · intro w101 g101 kp h0 f49
      simp only [Act.put, List.setIfInBounds_toArray, List.set_cons_zero, List.set_cons_succ]
      refine reg_two 50 52 (by kernel_rfl) (by kernel_rfl) (k_mark 60 (.tmp 59) _ _ (by kernel_rfl) (by kernel_rfl) rfl f49 h0 ?_) (k_lit 62 (Mac.ask ++ Mac.noth) 28 (by kernel_rfl) (by kernel_rfl) (by kernel_rfl) (by kernel_rfl) h0 (Nat.le_refl _) (by kernel_rfl) ?_)
      · intro w102 kp h0 f50
        have f49 := f49.kp kp
        simp only [Act.put, List.setIfInBounds_toArray, List.set_cons_zero, List.set_cons_succ]
        refine reg_one 52 (by kernel_rfl) (by kernel_rfl) (k_lit 62 (Mac.ask ++ Mac.noth) 28 (by kernel_rfl) (by kernel_rfl) (by kernel_rfl) (by kernel_rfl) h0 (Nat.le_refl _) (by kernel_rfl) ?_)
        intro w103 g103 kp h0 f52
        have f49 := f49.kp kp
        have f50 := f50.kp kp
        simp only [Act.put, List.setIfInBounds_toArray, List.set_cons_zero, List.set_cons_succ]
        refine reg_one 53 (by kernel_rfl) (by kernel_rfl) (k_mark 63 (.tmp 62) _ _ (by kernel_rfl) (by kernel_rfl) rfl f52 h0 ?_)
        intro w104 kp h0 f53
        have f49 := f49.kp kp
        have f50 := f50.kp kp
        have f52 := f52.kp kp
        simp only [Act.put, List.setIfInBounds_toArray, List.set_cons_zero, List.set_cons_succ]
        refine reg_one 54 (by kernel_rfl) (by kernel_rfl) (k_lists1 64 (.tmp 63) _ _ (by kernel_rfl) (by kernel_rfl) rfl f53 h0 (Nat.le_refl _) ?_)
        intro w105 g105 kp h0 f54
        have f49 := f49.kp kp
        have f50 := f50.kp kp
        have f52 := f52.kp kp
        have f53 := f53.kp kp
        simp only [Act.put, List.setIfInBounds_toArray, List.set_cons_zero, List.set_cons_succ]
        exact reg_cast (by kernel_rfl) (by kernel_rfl) (cut (.slice (some ⟨g101, 0, none⟩) 4 4, .slice (some ⟨g103, 0, none⟩) 28 28, g105) w105 ⟨h0, f50, f54⟩)
      · intro w106 g106 kp h0 f52
        have f49 := f49.kp kp
        simp only [Act.put, List.setIfInBounds_toArray, List.set_cons_zero, List.set_cons_succ]
        refine reg_two 50 53 (by kernel_rfl) (by kernel_rfl) (k_mark 60 (.tmp 59) _ _ (by kernel_rfl) (by kernel_rfl) rfl f49 h0 ?_) (k_mark 63 (.tmp 62) _ _ (by kernel_rfl) (by kernel_rfl) rfl f52 h0 ?_)
        · intro w107 kp h0 f50
          have f49 := f49.kp kp
          have f52 := f52.kp kp
          simp only [Act.put, List.setIfInBounds_toArray, List.set_cons_zero, List.set_cons_succ]
          refine reg_one 53 (by kernel_rfl) (by kernel_rfl) (k_mark 63 (.tmp 62) _ _ (by kernel_rfl) (by kernel_rfl) rfl f52 h0 ?_)
          intro w108 kp h0 f53
          have f49 := f49.kp kp
          have f52 := f52.kp kp
          have f50 := f50.kp kp
          simp only [Act.put, List.setIfInBounds_toArray, List.set_cons_zero, List.set_cons_succ]
          refine reg_one 54 (by kernel_rfl) (by kernel_rfl) (k_lists1 64 (.tmp 63) _ _ (by kernel_rfl) (by kernel_rfl) rfl f53 h0 (Nat.le_refl _) ?_)
          intro w109 g109 kp h0 f54
          have f49 := f49.kp kp
          have f52 := f52.kp kp
          have f50 := f50.kp kp
          have f53 := f53.kp kp
          simp only [Act.put, List.setIfInBounds_toArray, List.set_cons_zero, List.set_cons_succ]
          exact reg_cast (by kernel_rfl) (by kernel_rfl) (cut (.slice (some ⟨g101, 0, none⟩) 4 4, .slice (some ⟨g106, 0, none⟩) 28 28, g109) w109 ⟨h0, f50, f54⟩)
        · intro w110 kp h0 f53
          have f49 := f49.kp kp
          have f52 := f52.kp kp
          simp only [Act.put, List.setIfInBounds_toArray, List.set_cons_zero, List.set_cons_succ]
          refine reg_two 50 54 (by kernel_rfl) (by kernel_rfl) (k_mark 60 (.tmp 59) _ _ (by kernel_rfl) (by kernel_rfl) rfl f49 h0 ?_) (k_lists1 64 (.tmp 63) _ _ (by kernel_rfl) (by kernel_rfl) rfl f53 h0 (Nat.le_refl _) ?_)
          · intro w111 kp h0 f50
            have f49 := f49.kp kp
            have f52 := f52.kp kp
            have f53 := f53.kp kp
            simp only [Act.put, List.setIfInBounds_toArray, List.set_cons_zero, List.set_cons_succ]
            refine reg_one 54 (by kernel_rfl) (by kernel_rfl) (k_lists1 64 (.tmp 63) _ _ (by kernel_rfl) (by kernel_rfl) rfl f53 h0 (Nat.le_refl _) ?_)
            intro w112 g112 kp h0 f54
            have f49 := f49.kp kp
            have f52 := f52.kp kp
            have f53 := f53.kp kp
            have f50 := f50.kp kp
            simp only [Act.put, List.setIfInBounds_toArray, List.set_cons_zero, List.set_cons_succ]
            exact reg_cast (by kernel_rfl) (by kernel_rfl) (cut (.slice (some ⟨g101, 0, none⟩) 4 4, .slice (some ⟨g106, 0, none⟩) 28 28, g112) w112 ⟨h0, f50, f54⟩)
          · intro w113 g113 kp h0 f54
            have f49 := f49.kp kp
            have f52 := f52.kp kp
            have f53 := f53.kp kp
            simp only [Act.put, List.setIfInBounds_toArray, List.set_cons_zero, List.set_cons_succ]
            refine reg_one 50 (by kernel_rfl) (by kernel_rfl) (k_mark 60 (.tmp 59) _ _ (by kernel_rfl) (by kernel_rfl) rfl f49 h0 ?_)
            intro w114 kp h0 f50
            have f49 := f49.kp kp
            have f52 := f52.kp kp
            have f53 := f53.kp kp
            have f54 := f54.kp kp
            simp only [Act.put, List.setIfInBounds_toArray, List.set_cons_zero, List.set_cons_succ]
            exact reg_cast (by kernel_rfl) (by kernel_rfl) (cut (.slice (some ⟨g101, 0, none⟩) 4 4, .slice (some ⟨g106, 0, none⟩) 28 28, g113) w114 ⟨h0, f50, f54⟩)
    · intro w115 g115 kp h0 f52
      simp only [Act.put, List.setIfInBounds_toArray, List.set_cons_zero, List.set_cons_succ]
      refine reg_two 49 53 (by kernel_rfl) (by kernel_rfl) (k_lit 59 (Mac.jefe) 4 (by kernel_rfl) (by kernel_rfl) (by kernel_rfl) (by kernel_rfl) h0 (Nat.le_refl _) (by kernel_rfl) ?_) (k_mark 63 (.tmp 62) _ _ (by kernel_rfl) (by kernel_rfl) rfl f52 h0 ?_)
      · intro w116 g116 kp h0 f49
        have f52 := f52.kp kp
        simp only [Act.put, List.setIfInBounds_toArray, List.set_cons_zero, List.set_cons_succ]
        refine reg_two 50 53 (by kernel_rfl) (by kernel_rfl) (k_mark 60 (.tmp 59) _ _ (by kernel_rfl) (by kernel_rfl) rfl f49 h0 ?_) (k_mark 63 (.tmp 62) _ _ (by kernel_rfl) (by kernel_rfl) rfl f52 h0 ?_)
        · intro w117 kp h0 f50
          have f52 := f52.kp kp
          have f49 := f49.kp kp
          simp only [Act.put, List.setIfInBounds_toArray, List.set_cons_zero, List.set_cons_succ]
          refine reg_one 53 (by kernel_rfl) (by kernel_rfl) (k_mark 63 (.tmp 62) _ _ (by kernel_rfl) (by kernel_rfl) rfl f52 h0 ?_)
          intro w118 kp h0 f53
          have f52 := f52.kp kp
          have f49 := f49.kp kp
          have f50 := f50.kp kp
          simp only [Act.put, List.setIfInBounds_toArray, List.set_cons_zero, List.set_cons_succ]
          refine reg_one 54 (by kernel_rfl) (by kernel_rfl) (k_lists1 64 (.tmp 63) _ _ (by kernel_rfl) (by kernel_rfl) rfl f53 h0 (Nat.le_refl _) ?_)
          intro w119 g119 kp h0 f54
          have f52 := f52.kp kp
          have f49 := f49.kp kp
          have f50 := f50.kp kp
          have f53 := f53.kp kp
          simp only [Act.put, List.setIfInBounds_toArray, List.set_cons_zero, List.set_cons_succ]
          exact reg_cast (by kernel_rfl) (by kernel_rfl) (cut (.slice (some ⟨g116, 0, none⟩) 4 4, .slice (some ⟨g115, 0, none⟩) 28 28, g119) w119 ⟨h0, f50, f54⟩)
        · intro w120 kp h0 f53
          have f52 := f52.kp kp
          have f49 := f49.kp kp
          simp only [Act.put, List.setIfInBounds_toArray, List.set_cons_zero, List.set_cons_succ]
          refine reg_two 50 54 (by kernel_rfl) (by kernel_rfl) (k_mark 60 (.tmp 59) _ _ (by kernel_rfl) (by kernel_rfl) rfl f49 h0 ?_) (k_lists1 64 (.tmp 63) _ _ (by kernel_rfl) (by kernel_rfl) rfl f53 h0 (Nat.le_refl _) ?_)
          · intro w121 kp h0 f50
            have f52 := f52.kp kp
            have f49 := f49.kp kp
            have f53 := f53.kp kp
            simp only [Act.put, List.setIfInBounds_toArray, List.set_cons_zero, List.set_cons_succ]
            refine reg_one 54 (by kernel_rfl) (by kernel_rfl) (k_lists1 64 (.tmp 63) _ _ (by kernel_rfl) (by kernel_rfl) rfl f53 h0 (Nat.le_refl _) ?_)
            intro w122 g122 kp h0 f54
            have f52 := f52.kp kp
            have f49 := f49.kp kp
            have f53 := f53.kp kp
            have f50 := f50.kp kp
            simp only [Act.put, List.setIfInBounds_toArray, List.set_cons_zero, List.set_cons_succ]
            exact reg_cast (by kernel_rfl) (by kernel_rfl) (cut (.slice (some ⟨g116, 0, none⟩) 4 4, .slice (some ⟨g115, 0, none⟩) 28 28, g122) w122 ⟨h0, f50, f54⟩)
          · intro w123 g123 kp h0 f54
            have f52 := f52.kp kp
            have f49 := f49.kp kp
            have f53 := f53.kp kp
            simp only [Act.put, List.setIfInBounds_toArray, List.set_cons_zero, List.set_cons_succ]
            refine reg_one 50 (by kernel_rfl) (by kernel_rfl) (k_mark 60 (.tmp 59) _ _ (by kernel_rfl) (by kernel_rfl) rfl f49 h0 ?_)
            intro w124 kp h0 f50
            have f52 := f52.kp kp
            have f49 := f49.kp kp
            have f53 := f53.kp kp
            have f54 := f54.kp kp
            simp only [Act.put, List.setIfInBounds_toArray, List.set_cons_zero, List.set_cons_succ]
            exact reg_cast (by kernel_rfl) (by kernel_rfl) (cut (.slice (some ⟨g116, 0, none⟩) 4 4, .slice (some ⟨g115, 0, none⟩) 28 28, g123) w124 ⟨h0, f50, f54⟩)
      · intro w125 kp h0 f53
        have f52 := f52.kp kp
        simp only [Act.put, List.setIfInBounds_toArray, List.set_cons_zero, List.set_cons_succ]
        refine reg_two 49 54 (by kernel_rfl) (by kernel_rfl) (k_lit 59 (Mac.jefe) 4 (by kernel_rfl) (by kernel_rfl) (by kernel_rfl) (by kernel_rfl) h0 (Nat.le_refl _) (by kernel_rfl) ?_) (k_lists1 64 (.tmp 63) _ _ (by kernel_rfl) (by kernel_rfl) rfl f53 h0 (Nat.le_refl _) ?_)
        · intro w126 g126 kp h0 f49
          have f52 := f52.kp kp
          have f53 := f53.kp kp
          simp only [Act.put, List.setIfInBounds_toArray, List.set_cons_zero, List.set_cons_succ]
          refine reg_two 50 54 (by kernel_rfl) (by kernel_rfl) (k_mark 60 (.tmp 59) _ _ (by kernel_rfl) (by kernel_rfl) rfl f49 h0 ?_) (k_lists1 64 (.tmp 63) _ _ (by kernel_rfl) (by kernel_rfl) rfl f53 h0 (Nat.le_refl _) ?_)
          · intro w127 kp h0 f50
            have f52 := f52.kp kp
            have f53 := f53.kp kp
            have f49 := f49.kp kp
            simp only [Act.put, List.setIfInBounds_toArray, List.set_cons_zero, List.set_cons_succ]
            refine reg_one 54 (by kernel_rfl) (by kernel_rfl) (k_lists1 64 (.tmp 63) _ _ (by kernel_rfl) (by kernel_rfl) rfl f53 h0 (Nat.le_refl _) ?_)
            intro w128 g128 kp h0 f54
            have f52 := f52.kp kp
            have f53 := f53.kp kp
            have f49 := f49.kp kp
            have f50 := f50.kp kp
            simp only [Act.put, List.setIfInBounds_toArray, List.set_cons_zero, List.set_cons_succ]
            exact reg_cast (by kernel_rfl) (by kernel_rfl) (cut (.slice (some ⟨g126, 0, none⟩) 4 4, .slice (some ⟨g115, 0, none⟩) 28 28, g128) w128 ⟨h0, f50, f54⟩)
          · intro w129 g129 kp h0 f54
            have f52 := f52.kp kp
            have f53 := f53.kp kp
            have f49 := f49.kp kp
            simp only [Act.put, List.setIfInBounds_toArray, List.set_cons_zero, List.set_cons_succ]
            refine reg_one 50 (by kernel_rfl) (by kernel_rfl) (k_mark 60 (.tmp 59) _ _ (by kernel_rfl) (by kernel_rfl) rfl f49 h0 ?_)
            intro w130 kp h0 f50
            have f52 := f52.kp kp
            have f53 := f53.kp kp
            have f49 := f49.kp kp
            have f54 := f54.kp kp
            simp only [Act.put, List.setIfInBounds_toArray, List.set_cons_zero, List.set_cons_succ]
            exact reg_cast (by kernel_rfl) (by kernel_rfl) (cut (.slice (some ⟨g126, 0, none⟩) 4 4, .slice (some ⟨g115, 0, none⟩) 28 28, g129) w130 ⟨h0, f50, f54⟩)
        · intro w131 g131 kp h0 f54
          have f52 := f52.kp kp
          have f53 := f53.kp kp
          simp only [Act.put, List.setIfInBounds_toArray, List.set_cons_zero, List.set_cons_succ]
          refine reg_one 49 (by kernel_rfl) (by kernel_rfl) (k_lit 59 (Mac.jefe) 4 (by kernel_rfl) (by kernel_rfl) (by kernel_rfl) (by kernel_rfl) h0 (Nat.le_refl _) (by kernel_rfl) ?_)
          intro w132 g132 kp h0 f49
          have f52 := f52.kp kp
          have f53 := f53.kp kp
          have f54 := f54.kp kp
          simp only [Act.put, List.setIfInBounds_toArray, List.set_cons_zero, List.set_cons_succ]
          refine reg_one 50 (by kernel_rfl) (by kernel_rfl) (k_mark 60 (.tmp 59) _ _ (by kernel_rfl) (by kernel_rfl) rfl f49 h0 ?_)
          intro w133 kp h0 f50
          have f52 := f52.kp kp
          have f53 := f53.kp kp
          have f54 := f54.kp kp
          have f49 := f49.kp kp
          simp only [Act.put, List.setIfInBounds_toArray, List.set_cons_zero, List.set_cons_succ]
          exact reg_cast (by kernel_rfl) (by kernel_rfl) (cut (.slice (some ⟨g132, 0, none⟩) 4 4, .slice (some ⟨g115, 0, none⟩) 28 28, g131) w133 ⟨h0, f50, f54⟩)
  refine reg_two 40 43 (by kernel_rfl) (by kernel_rfl) (k_lit 50 (Mac.jefe) 4 (by kernel_rfl) (by kernel_rfl) (by kernel_rfl) (by kernel_rfl) h0 (Nat.le_refl _) (by kernel_rfl) ?_) (k_lit 53 (Mac.ask ++ Mac.noth) 28 (by kernel_rfl) (by kernel_rfl) (by kernel_rfl) (by kernel_rfl) h0 (Nat.le_refl _) (by kernel_rfl) ?_)
  · intro w134 g134 kp h0 f40
    simp only [Act.put, List.setIfInBounds_toArray, List.set_cons_zero, List.set_cons_succ]
    refine reg_two 41 43 (by kernel_rfl) (by kernel_rfl) (k_mark 51 (.tmp 50) _ _ (by kernel_rfl) (by kernel_rfl) rfl f40 h0 ?_) (k_lit 53 (Mac.ask ++ Mac.noth) 28 (by kernel_rfl) (by kernel_rfl) (by kernel_rfl) (by kernel_rfl) h0 (Nat.le_refl _) (by kernel_rfl) ?_)
    · intro w135 kp h0 f41
      have f40 := f40.kp kp
      simp only [Act.put, List.setIfInBounds_toArray, List.set_cons_zero, List.set_cons_succ]
      refine reg_one 43 (by kernel_rfl) (by kernel_rfl) (k_lit 53 (Mac.ask ++ Mac.noth) 28 (by kernel_rfl) (by kernel_rfl) (by kernel_rfl) (by kernel_rfl) h0 (Nat.le_refl _) (by kernel_rfl) ?_)
      intro w136 g136 kp h0 f43
      have f40 := f40.kp kp
      have f41 := f41.kp kp
      simp only [Act.put, List.setIfInBounds_toArray, List.set_cons_zero, List.set_cons_succ]
      refine reg_one 44 (by kernel_rfl) (by kernel_rfl) (k_mark 54 (.tmp 53) _ _ (by kernel_rfl) (by kernel_rfl) rfl f43 h0 ?_)
      intro w137 kp h0 f44
      have f40 := f40.kp kp
      have f41 := f41.kp kp
      have f43 := f43.kp kp
      simp only [Act.put, List.setIfInBounds_toArray, List.set_cons_zero, List.set_cons_succ]
      refine reg_one 45 (by kernel_rfl) (by kernel_rfl) (k_lists1 55 (.tmp 54) _ _ (by kernel_rfl) (by kernel_rfl) rfl f44 h0 (Nat.le_refl _) ?_)
      intro w138 g138 kp h0 f45
      have f40 := f40.kp kp
      have f41 := f41.kp kp
      have f43 := f43.kp kp
      have f44 := f44.kp kp
      simp only [Act.put, List.setIfInBounds_toArray, List.set_cons_zero, List.set_cons_succ]
      exact reg_cast (by kernel_rfl) (by kernel_rfl) (cut (.slice (some ⟨g134, 0, none⟩) 4 4, .slice (some ⟨g136, 0, none⟩) 28 28, g138) w138 ⟨h0, f41, f45⟩)
    · intro w139 g139 kp h0 f43
      have f40 := f40.kp kp
      simp only [Act.put, List.setIfInBounds_toArray, List.set_cons_zero, List.set_cons_succ]
      refine reg_two 41 44 (by kernel_rfl) (by kernel_rfl) (k_mark 51 (.tmp 50) _ _ (by kernel_rfl) (by kernel_rfl) rfl f40 h0 ?_) (k_mark 54 (.tmp 53) _ _ (by kernel_rfl) (by kernel_rfl) rfl f43 h0 ?_)
      · intro w140 kp h0 f41
        have f40 := f40.kp kp
        have f43 := f43.kp kp
        simp only [Act.put, List.setIfInBounds_toArray, List.set_cons_zero, List.set_cons_succ]
        refine reg_one 44 (by kernel_rfl) (by kernel_rfl) (k_mark 54 (.tmp 53) _ _ (by kernel_rfl) (by kernel_rfl) rfl f43 h0 ?_)
        intro w141 kp h0 f44
        have f40 := f40.kp kp
        have f43 := f43.kp kp
        have f41 := f41.kp kp
        simp only [Act.put, List.setIfInBounds_toArray, List.set_cons_zero, List.set_cons_succ]
        refine reg_one 45 (by kernel_rfl) (by kernel_rfl) (k_lists1 55 (.tmp 54) _ _ (by kernel_rfl) (by kernel_rfl) rfl f44 h0 (Nat.le_refl _) ?_)
        intro w142 g142 kp h0 f45
        have f40 := f40.kp kp
        have f43 := f43.kp kp
        have f41 := f41.kp kp
        have f44 := f44.kp kp
        simp only [Act.put, List.setIfInBounds_toArray, List.set_cons_zero, List.set_cons_succ]
        exact reg_cast (by kernel_rfl) (by kernel_rfl) (cut (.slice (some ⟨g134, 0, none⟩) 4 4, .slice (some ⟨g139, 0, none⟩) 28 28, g142) w142 ⟨h0, f41, f45⟩)
      · intro w143 kp h0 f44
        have f40 := f40.kp kp
        have f43 := f43.kp kp
        simp only [Act.put, List.setIfInBounds_toArray, List.set_cons_zero, List.set_cons_succ]
        refine reg_two 41 45 (by kernel_rfl) (by kernel_rfl) (k_mark 51 (.tmp 50) _ _ (by kernel_rfl) (by kernel_rfl) rfl f40 h0 ?_) (k_lists1 55 (.tmp 54) _ _ (by kernel_rfl) (by kernel_rfl) rfl f44 h0 (Nat.le_refl _) ?_)
        · intro w144 kp h0 f41
          have f40 := f40.kp kp
          have f43 := f43.kp kp
          have f44 := f44.kp kp
          simp only [Act.put, List.setIfInBounds_toArray, List.set_cons_zero, List.set_cons_succ]
          refine reg_one 45 (by kernel_rfl) (by kernel_rfl) (k_lists1 55 (.tmp 54) _ _ (by kernel_rfl) (by kernel_rfl) rfl f44 h0 (Nat.le_refl _) ?_)
          intro w145 g145 kp h0 f45
          have f40 := f40.kp kp
          have f43 := f43.kp kp
          have f44 := f44.kp kp
          have f41 := f41.kp kp
          simp only [Act.put, List.setIfInBounds_toArray, List.set_cons_zero, List.set_cons_succ]
          exact reg_cast (by kernel_rfl) (by kernel_rfl) (cut (.slice (some ⟨g134, 0, none⟩) 4 4, .slice (some ⟨g139, 0, none⟩) 28 28, g145) w145 ⟨h0, f41, f45⟩)
        · intro w146 g146 kp h0 f45
          have f40 := f40.kp kp
          have f43 := f43.kp kp
          have f44 := f44.kp kp
          simp only [Act.put, List.setIfInBounds_toArray, List.set_cons_zero, List.set_cons_succ]
          refine reg_one 41 (by kernel_rfl) (by kernel_rfl) (k_mark 51 (.tmp 50) _ _ (by kernel_rfl) (by kernel_rfl) rfl f40 h0 ?_)
          intro w147 kp h0 f41
          have f40 := f40.kp kp
          have f43 := f43.kp kp
          have f44 := f44.kp kp
          have f45 := f45.kp kp
          simp only [Act.put, List.setIfInBounds_toArray, List.set_cons_zero, List.set_cons_succ]
          exact reg_cast (by kernel_rfl) (by kernel_rfl) (cut (.slice (some ⟨g134, 0, none⟩) 4 4, .slice (some ⟨g139, 0, none⟩) 28 28, g146) w147 ⟨h0, f41, f45⟩)
  · intro w148 g148 kp h0 f43
    simp only [Act.put, List.setIfInBounds_toArray, List.set_cons_zero, List.set_cons_succ]
    refine reg_two 40 44 (by kernel_rfl) (by kernel_rfl) (k_lit 50 (Mac.jefe) 4 (by kernel_rfl) (by kernel_rfl) (by kernel_rfl) (by kernel_rfl) h0 (Nat.le_refl _) (by kernel_rfl) ?_) (k_mark 54 (.tmp 53) _ _ (by kernel_rfl) (by kernel_rfl) rfl f43 h0 ?_)
    · intro w149 g149 kp h0 f40
      have f43 := f43.kp kp
      simp only [Act.put, List.setIfInBounds_toArray, List.set_cons_zero, List.set_cons_succ]
      refine reg_two 41 44 (by kernel_rfl) (by kernel_rfl) (k_mark 51 (.tmp 50) _ _ (by kernel_rfl) (by kernel_rfl) rfl f40 h0 ?_) (k_mark 54 (.tmp 53) _ _ (by kernel_rfl) (by kernel_rfl) rfl f43 h0 ?_)
      · intro w150 kp h0 f41
        have f43 := f43.kp kp
        have f40 := f40.kp kp
        simp only [Act.put, List.setIfInBounds_toArray, List.set_cons_zero, List.set_cons_succ]
        refine reg_one 44 (by kernel_rfl) (by kernel_rfl) (k_mark 54 (.tmp 53) _ _ (by kernel_rfl) (by kernel_rfl) rfl f43 h0 ?_)
        intro w151 kp h0 f44
        have f43 := f43.kp kp
        have f40 := f40.kp kp
        have f41 := f41.kp kp
        simp only [Act.put, List.setIfInBounds_toArray, List.set_cons_zero, List.set_cons_succ]
        refine reg_one 45 (by kernel_rfl) (by kernel_rfl) (k_lists1 55 (.tmp 54) _ _ (by kernel_rfl) (by kernel_rfl) rfl f44 h0 (Nat.le_refl _) ?_)
        intro w152 g152 kp h0 f45
        have f43 := f43.kp kp
        have f40 := f40.kp kp
        have f41 := f41.kp kp
        have f44 := f44.kp kp
        simp only [Act.put, List.setIfInBounds_toArray, List.set_cons_zero, List.set_cons_succ]
        exact reg_cast (by kernel_rfl) (by kernel_rfl) (cut (.slice (some ⟨g149, 0, none⟩) 4 4, .slice (some ⟨g148, 0, none⟩) 28 28, g152) w152 ⟨h0, f41, f45⟩)
      · intro w153 kp h0 f44
        have f43 := f43.kp kp
        have f40 := f40.kp kp
        simp only [Act.put, List.setIfInBounds_toArray, List.set_cons_zero, List.set_cons_succ]
        refine reg_two 41 45 (by kernel_rfl) (by kernel_rfl) (k_mark 51 (.tmp 50) _ _ (by kernel_rfl) (by kernel_rfl) rfl f40 h0 ?_) (k_lists1 55 (.tmp 54) _ _ (by kernel_rfl) (by kernel_rfl) rfl f44 h0 (Nat.le_refl _) ?_)
        · intro w154 kp h0 f41
          have f43 := f43.kp kp
          have f40 := f40.kp kp
          have f44 := f44.kp kp
          simp only [Act.put, List.setIfInBounds_toArray, List.set_cons_zero, List.set_cons_succ]
          refine reg_one 45 (by kernel_rfl) (by kernel_rfl) (k_lists1 55 (.tmp 54) _ _ (by kernel_rfl) (by kernel_rfl) rfl f44 h0 (Nat.le_refl _) ?_)
          intro w155 g155 kp h0 f45
          have f43 := f43.kp kp
          have f40 := f40.kp kp
          have f44 := f44.kp kp
          have f41 := f41.kp kp
          simp only [Act.put, List.setIfInBounds_toArray, List.set_cons_zero, List.set_cons_succ]
          exact reg_cast (by kernel_rfl) (by kernel_rfl) (cut (.slice (some ⟨g149, 0, none⟩) 4 4, .slice (some ⟨g148, 0, none⟩) 28 28, g155) w155 ⟨h0, f41, f45⟩)
        · intro w156 g156 kp h0 f45
          have f43 := f43.kp kp
          have f40 := f40.kp kp
          have f44 := f44.kp kp
          simp only [Act.put, List.setIfInBounds_toArray, List.set_cons_zero, List.set_cons_succ]
          refine reg_one 41 (by kernel_rfl) (by kernel_rfl) (k_mark 51 (.tmp 50) _ _ (by kernel_rfl) (by kernel_rfl) rfl f40 h0 ?_)
          intro w157 kp h0 f41
          have f43 := f43.kp kp
          have f40 := f40.kp kp
          have f44 := f44.kp kp
          have f45 := f45.kp kp
          simp only [Act.put, List.setIfInBounds_toArray, List.set_cons_zero, List.set_cons_succ]
          exact reg_cast (by kernel_rfl) (by kernel_rfl) (cut (.slice (some ⟨g149, 0, none⟩) 4 4, .slice (some ⟨g148, 0, none⟩) 28 28, g156) w157 ⟨h0, f41, f45⟩)
    · intro w158 kp h0 f44
      have f43 := f43.kp kp
      simp only [Act.put, List.setIfInBounds_toArray, List.set_cons_zero, List.set_cons_succ]
      refine reg_two 40 45 (by kernel_rfl) (by kernel_rfl) (k_lit 50 (Mac.jefe) 4 (by kernel_rfl) (by kernel_rfl) (by kernel_rfl) (by kernel_rfl) h0 (Nat.le_refl _) (by kernel_rfl) ?_) (k_lists1 55 (.tmp 54) _ _ (by kernel_rfl) (by kernel_rfl) rfl f44 h0 (Nat.le_refl _) ?_)
      · intro w159 g159 kp h0 f40
        have f43 := f43.kp kp
        have f44 := f44.kp kp
        simp only [Act.put, List.setIfInBounds_toArray, List.set_cons_zero, List.set_cons_succ]
        refine reg_two 41 45 (by kernel_rfl) (by kernel_rfl) (k_mark 51 (.tmp 50) _ _ (by kernel_rfl) (by kernel_rfl) rfl f40 h0 ?_) (k_lists1 55 (.tmp 54) _ _ (by kernel_rfl) (by kernel_rfl) rfl f44 h0 (Nat.le_refl _) ?_)
        · intro w160 kp h0 f41
          have f43 := f43.kp kp
          have f44 := f44.kp kp
          have f40 := f40.kp kp
          simp only [Act.put, List.setIfInBounds_toArray, List.set_cons_zero, List.set_cons_succ]
          refine reg_one 45 (by kernel_rfl) (by kernel_rfl) (k_lists1 55 (.tmp 54) _ _ (by kernel_rfl) (by kernel_rfl) rfl f44 h0 (Nat.le_refl _) ?_)
          intro w161 g161 kp h0 f45
          have f43 := f43.kp kp
          have f44 := f44.kp kp
          have f40 := f40.kp kp
          have f41 := f41.kp kp
          simp only [Act.put, List.setIfInBounds_toArray, List.set_cons_zero, List.set_cons_succ]
          exact reg_cast (by kernel_rfl) (by kernel_rfl) (cut (.slice (some ⟨g159, 0, none⟩) 4 4, .slice (some ⟨g148, 0, none⟩) 28 28, g161) w161 ⟨h0, f41, f45⟩)
        · intro w162 g162 kp h0 f45
          have f43 := f43.kp kp
          have f44 := f44.kp kp
          have f40 := f40.kp kp
          simp only [Act.put, List.setIfInBounds_toArray, List.set_cons_zero, List.set_cons_succ]
          refine reg_one 41 (by kernel_rfl) (by kernel_rfl) (k_mark 51 (.tmp 50) _ _ (by kernel_rfl) (by kernel_rfl) rfl f40 h0 ?_)
          intro w163 kp h0 f41
          have f43 := f43.kp kp
          have f44 := f44.kp kp
          have f40 := f40.kp kp
          have f45 := f45.kp kp
          simp only [Act.put, List.setIfInBounds_toArray, List.set_cons_zero, List.set_cons_succ]
          exact reg_cast (by kernel_rfl) (by kernel_rfl) (cut (.slice (some ⟨g159, 0, none⟩) 4 4, .slice (some ⟨g148, 0, none⟩) 28 28, g162) w163 ⟨h0, f41, f45⟩)
      · intro w164 g164 kp h0 f45
        have f43 := f43.kp kp
        have f44 := f44.kp kp
        simp only [Act.put, List.setIfInBounds_toArray, List.set_cons_zero, List.set_cons_succ]
        refine reg_one 40 (by kernel_rfl) (by kernel_rfl) (k_lit 50 (Mac.jefe) 4 (by kernel_rfl) (by kernel_rfl) (by kernel_rfl) (by kernel_rfl) h0 (Nat.le_refl _) (by kernel_rfl) ?_)
        intro w165 g165 kp h0 f40
        have f43 := f43.kp kp
        have f44 := f44.kp kp
        have f45 := f45.kp kp
        simp only [Act.put, List.setIfInBounds_toArray, List.set_cons_zero, List.set_cons_succ]
        refine reg_one 41 (by kernel_rfl) (by kernel_rfl) (k_mark 51 (.tmp 50) _ _ (by kernel_rfl) (by kernel_rfl) rfl f40 h0 ?_)
        intro w166 kp h0 f41
        have f43 := f43.kp kp
        have f44 := f44.kp kp
        have f45 := f45.kp kp
        have f40 := f40.kp kp
        simp only [Act.put, List.setIfInBounds_toArray, List.set_cons_zero, List.set_cons_succ]
        exact reg_cast (by kernel_rfl) (by kernel_rfl) (cut (.slice (some ⟨g165, 0, none⟩) 4 4, .slice (some ⟨g148, 0, none⟩) 28 28, g164) w166 ⟨h0, f41, f45⟩)
end Go.Proofs.YtgalddnblciciaaDoor
