/- The reference's Box: walked. -/
import Derived.Test.YtibgmoapkionjaaAesI
namespace Go.Proofs.Ytibgmoapkionjaa
open Go.RowKit Go.Deep

theorem info256 (f : Nat → Nat) : ((Try.prog).info? 28).map (·.size) = some (arr .u8 256 f).size := by rw [arr_size]; rfl
theorem zeros256 {w : World} : isArr (w.alloc (.cells (Array.replicate 256 (.int .u8 0)) 28)) w.heap.size 28 .u8 256 (fun _ => 0) :=
  isArr_lit _ _ _ _ _ (Array.replicate 256 (.int .u8 0)) (by simp) (fun i hi => zeros_get _ _ _ hi)
theorem Aes.back_of (i : Nat) (hi : i < 256) : Fld.aff (Aes.p3 (255 - i)) = Fld.sb (Aes.p3 i) := by
  simpa using List.all_eq_true.1 Aes.p3_back i (by simpa using hi)
theorem Aes.onto (t : Nat) (ht : t < 256) (h0 : t ≠ 0) : ∃ i, i < 256 ∧ Aes.p3 i = t := by
  have := List.all_eq_true.1 Aes.p3_onto t (by simpa using ht)
  simp only [Bool.or_eq_true, beq_iff_eq, List.any_eq_true, List.mem_range] at this
  rcases this with h | ⟨i, hi, e⟩
  · exact absurd h h0
  · exact ⟨i, hi, e⟩
/-- The table of powers, the first j. -/
def BP (j : Nat) (w wr : World) : Prop :=
  Below w.heap.size w wr ∧ isArr wr w.heap.size 28 .u8 256 (fun _ => 0) ∧ isArr wr (w.heap.size + 1) 28 .u8 256 (fun t => if t < j then Aes.p3 t else 0)
def Done (j : Nat) (f : Nat → Nat) : Prop := f 0 = Fld.sb 0 ∧ ∀ i, i < j → f (Aes.p3 i) = Fld.sb (Aes.p3 i)
theorem Done.next {j : Nat} {f : Nat → Nat} (h : Done j f) (v : Nat) (hv : v = Fld.sb (Aes.p3 j)) : Done (j + 1) (fun t => if t = Aes.p3 j then v else f t) := by
  refine ⟨?_, fun i hi => ?_⟩ <;> dsimp only
  · by_cases e : 0 = Aes.p3 j
    · rw [if_pos e, hv, ← e]
    · rw [if_neg e]; exact h.1
  · by_cases e : Aes.p3 i = Aes.p3 j
    · rw [if_pos e, hv, e]
    · rw [if_neg e]
      refine h.2 i ?_
      rcases Nat.lt_or_ge i j with h' | h'
      · exact h'
      · obtain rfl : i = j := by omega
        exact absurd rfl e
theorem Done.all {f : Nat → Nat} (h : Done 256 f) (t : Nat) (ht : t < 256) : f t = Fld.sb t := by
  by_cases h0 : t = 0
  · subst h0; exact h.1
  · obtain ⟨i, hi, rfl⟩ := Aes.onto t ht h0
    exact h.2 i hi

set_option maxRecDepth 100000 in
set_option maxHeartbeats 4000000 in
theorem box6_any (w : World) : Calls Try.prog 37 #[] w fun e w' => e = .returned (.agg (arr .u8 256 Fld.sb)) ∧ Below w.heap.size w w' := by
  have hz : ∀ w, (zeroValue 28).run Try.prog w = .ok (.agg (Array.replicate 256 (.int .u8 0))) w := fun _ => by kernel_rfl
  have hrep : (Array.replicate 256 (Value.int .u8 0)).size = 256 := by simp
  go_enter Try.func37, Try.ntmps37
  go_upto_region 2 with fail
  generalize hW : (World.alloc _ _ : World) = W
  have INV : BP 0 w W := by
    rw [← hW]
    have z1 : w.heap.size + 1 = (w.alloc (Obj.cells (Array.replicate 256 (.int .u8 0)) 28)).heap.size := by simp
    refine ⟨((Below.refl _ _).alloc (Nat.le_refl _) _).alloc (by simp) _, zeros256.alloc _, ?_⟩
    rw [z1]; exact zeros256.congr fun t _ => (if_neg (Nat.not_lt_zero _)).symm
  have I0 := Lib.hid INV
  clear hW INV
  go_wp2_with fail
  go_loopw [2, 3] (fun x i wr => ∃ j : Nat, j ≤ 256 ∧ i = .int .i64 j ∧ x = .int .u8 (Aes.p3 j : Nat) ∧ BP j w wr) (fun _ i _ => 256 - (intOf i).toNat)
  case atStart => exact ⟨0, by omega, rfl, rfl, I0.out⟩
  case round =>
    clear I0
    obtain ⟨j, hj, rfl, rfl, hb⟩ := hrel
    have BB := Lib.hid hb
    by_cases hlt : j < 256
    · have hd : decide ((j : Int) < 256) = true := by simp; omega
      have lj : (j : Int) < 256 := by omega
      have nj : 0 ≤ (j : Int) := by omega
      have c1 := hb.2.2.cell (i := j) hlt
      have f1 := hb.2.2.frozen j
      have hx := Aes.p3_lt j
      have B2 := Lib.hid (show BP (j + 1) w (wr.setCell ⟨w.heap.size + 1, j, none⟩ (.int .u8 ((Aes.p3 j : Nat) : Int))) from ⟨below_set hb.1 (by omega) _ _, hb.2.1.setOther (by omega) _ _, (hb.2.2.set j _).congr fun t _ => by
        by_cases e : t = j
        · subst e; rw [if_pos rfl, if_pos (by omega)]
        · rw [if_neg e]
          by_cases e2 : t < j
          · rw [if_pos e2, if_pos (by omega)]
          · rw [if_neg e2, if_neg (by omega)]⟩)
      have hn : Fld.rm (Aes.p3 j) 3 = Aes.p3 (j + 1) := Fld.rm_eq _ _ hx (by omega)
      have HN := Lib.hid hn
      clear hb BB hn
      generalize Aes.p3 j = x at c1 hx B2 HN ⊢
      go_wp2_with (go_at_call 44; refine (refmul_any _ _ _ (by omega) (by omega)).mono ?_; rintro e w' ⟨rfl, rfl⟩; rw [Int.toNat_natCast])
      go_roundw
      case rel => exact ⟨j + 1, by omega, by go_num, by rw [← HN.out], B2.out⟩
      case measure => simp [intOf]; omega
    · obtain rfl : j = 256 := by omega
      have hd : decide (((256 : Nat) : Int) < 256) = false := by decide
      have hP : isArr wr (w.heap.size + 1) 28 .u8 256 Aes.p3 := hb.2.2.congr fun t ht => if_pos ht
      clear hlt hb
      obtain ⟨O, hO⟩ : ∃ O : World, O = wr := ⟨_, rfl⟩
      go_upto_region 9 with fail
      have hD : ∀ o : Obj, isArr (wr.alloc o) (w.heap.size + 1) 28 .u8 256 Aes.p3 ∧ isArr (wr.alloc o) w.heap.size 28 .u8 256 (fun _ => 0) ∧ Below w.heap.size w (wr.alloc o) := fun o => ⟨hP.alloc _, BB.out.2.1.alloc _, BB.out.1.alloc BB.out.1.size _⟩
      generalize hW : World.alloc wr _ = W2
      have hA : isArr W2 wr.heap.size 28 .u8 256 (fun _ => 0) ∧ isArr W2 (w.heap.size + 1) 28 .u8 256 Aes.p3 ∧ isArr W2 w.heap.size 28 .u8 256 (fun _ => 0) ∧ Below w.heap.size w W2 ∧ w.heap.size + 1 < wr.heap.size := by
        have := hP.lt
        rw [← hW]; exact ⟨zeros256, (hD _).1, (hD _).2.1, (hD _).2.2, by omega⟩
      have A2 := Lib.hid hA
      clear hW hA hD hP BB hO
      generalize wr.heap.size = g at A2 ⊢
      have c0 := A2.out.1.cell (i := 0) (by omega)
      have f0 := A2.out.1.frozen 0
      go_upto_region 10 with (go_at_call 45; refine (affine_any _ _ (by omega)).mono ?_; rintro e w' ⟨rfl, rfl⟩)
      have e0 : Fld.aff 0 = Fld.sb 0 := by decide +kernel
      have hB : ∃ f : Nat → Nat, Done 0 f ∧ isArr (W2.setCell ⟨g, 0, none⟩ (.int .u8 ((Fld.aff 0 : Nat) : Int))) g 28 .u8 256 f ∧ isArr (W2.setCell ⟨g, 0, none⟩ (.int .u8 ((Fld.aff 0 : Nat) : Int))) (w.heap.size + 1) 28 .u8 256 Aes.p3 ∧ isArr (W2.setCell ⟨g, 0, none⟩ (.int .u8 ((Fld.aff 0 : Nat) : Int))) w.heap.size 28 .u8 256 (fun _ => 0) ∧ Below w.heap.size w (W2.setCell ⟨g, 0, none⟩ (.int .u8 ((Fld.aff 0 : Nat) : Int))) ∧ w.heap.size + 1 < g := by
        have hg := A2.out.2.2.2.2
        refine ⟨_, ⟨?_, fun i hi => absurd hi (Nat.not_lt_zero _)⟩, A2.out.1.set 0 _, A2.out.2.1.setOther (by omega) _ _, A2.out.2.2.1.setOther (by omega) _ _, below_set A2.out.2.2.2.1 (by omega) _ _, hg⟩
        rw [if_pos rfl]; exact e0
      have B0 := Lib.hid hB
      clear hB e0 c0 f0 A2
      first
        | generalize W2.setCell _ _ = W3 at B0 ⊢
        | skip
      go_wp2_with fail
      go_loopw [5] (fun i wr => ∃ j : Nat, j ≤ 256 ∧ i = .int .i64 j ∧ ∃ f : Nat → Nat, Done j f ∧ isArr wr g 28 .u8 256 f ∧ isArr wr (w.heap.size + 1) 28 .u8 256 Aes.p3 ∧ isArr wr w.heap.size 28 .u8 256 (fun _ => 0) ∧ Below w.heap.size w wr ∧ w.heap.size + 1 < g) (fun i _ => 256 - (intOf i).toNat)
      case atStart => exact ⟨0, by omega, rfl, B0.out⟩
      case round =>
        clear B0
        obtain ⟨j, hj, rfl, f, hdn, h1, h2, h3, h4, h5⟩ := hrel
        by_cases hlt : j < 256
        · have hd : decide ((j : Int) ≤ 255) = true := by simp; omega
          have lj : (j : Int) < 256 := by omega
          have nj : 0 ≤ (j : Int) := by omega
          obtain ⟨q, hq⟩ : ∃ q : Nat, q = 255 - j := ⟨_, rfl⟩
          have eq1 : IntKind.i64.wrap ((255 : Int) - (j : Int)) = (q : Int) := (IntWalk.i64_in _ (by omega)).trans (by omega)
          have nq0 : 0 ≤ (q : Int) := by omega
          have lq : (q : Int) < 256 := by omega
          have cj := h2.cell (i := j) hlt
          have cq := h2.cell (i := q) (by omega)
          have hv : Fld.aff (Aes.p3 q) = Fld.sb (Aes.p3 j) := by rw [hq]; exact Aes.back_of j hlt
          have hp8 := Aes.p3_lt j
          have hq8 := Aes.p3_lt q
          have co := h1.cell (i := Aes.p3 j) hp8
          have fo := h1.frozen (Aes.p3 j)
          have R := Lib.hid (And.intro h1 (And.intro h2 (And.intro h3 (And.intro h4 h5))))
          have DN := Lib.hid (hdn.next _ hv)
          clear h1 h2 h3 h4 h5 hdn hv hq
          generalize Aes.p3 q = y at cq hq8 DN
          obtain ⟨x, hx⟩ : ∃ x, x = Aes.p3 j := ⟨_, rfl⟩
          rw [← hx] at cj hp8 co fo DN
          clear hx
          have nx : 0 ≤ (x : Int) := by omega
          have lx : (x : Int) < 256 := by omega
          have wy : IntKind.i64.wrap (y : Int) = (y : Int) := IntWalk.i64_in _ (by omega)
          have hcall : ∀ wx, Calls Try.prog 45 #[.int .i64 (y : Int)] wx fun e w' => e = .returned (.int .u8 ((Fld.aff y : Nat) : Int)) ∧ w' = wx := fun wx => by
            have h := affine_any (y : Int) wx (by omega)
            rw [Int.toNat_natCast] at h
            exact still_of h
          go_wp2_with fail
          go_still_tail 9, (by kernel_rfl)
          repeat (first | still_step | still_call (hcall _))
          try refine wpStill_nil ?_
          change wpList _ _ _ _ _ (wr.drewN 1)
          have R2 := Lib.hid (show isArr ((wr.drewN 1).setCell ⟨g, x, none⟩ (.int .u8 ((Fld.aff y : Nat) : Int))) g 28 .u8 256 (fun t => if t = x then Fld.aff y else f t) ∧ isArr ((wr.drewN 1).setCell ⟨g, x, none⟩ (.int .u8 ((Fld.aff y : Nat) : Int))) (w.heap.size + 1) 28 .u8 256 Aes.p3 ∧ isArr ((wr.drewN 1).setCell ⟨g, x, none⟩ (.int .u8 ((Fld.aff y : Nat) : Int))) w.heap.size 28 .u8 256 (fun _ => 0) ∧ Below w.heap.size w ((wr.drewN 1).setCell ⟨g, x, none⟩ (.int .u8 ((Fld.aff y : Nat) : Int))) ∧ w.heap.size + 1 < g from
            have hg := R.out.2.2.2.2
            ⟨(R.out.1.drewN 1).set x _, (R.out.2.1.drewN 1).setOther (by omega) _ _, (R.out.2.2.1.drewN 1).setOther (by omega) _ _, below_set (below_drewN R.out.2.2.2.1 1) (by omega) _ _, hg⟩)
          have co2 : (wr.drewN 1).cell? ⟨g, x, none⟩ = some (.int .u8 ((f x : Nat) : Int)) := co
          have fo2 : (wr.drewN 1).frozen? ⟨g, x, none⟩ = false := fo
          clear co fo R hcall eq1 wy cj cq
          generalize wr.drewN 1 = wd at co2 fo2 R2 ⊢
          go_wp2_with fail
          go_roundw
          case rel => exact ⟨j + 1, by omega, by go_num, _, DN.out, R2.out⟩
          case measure => simp [intOf]; omega
        · obtain rfl : j = 256 := by omega
          have hd : decide (((256 : Nat) : Int) ≤ 255) = false := by decide
          have k1 : isArr wr g 28 .u8 256 Fld.sb := h1.congr fun t ht => hdn.all t ht
          clear hlt h1 h2 hdn
          go_wp2_with (first | refine wpList_load_row rfl _ _ rfl g rfl _ _ (0, 0) _ k1 rfl rfl (info256 _) ?_ | (refine wpList_store_row rfl _ _ _ rfl w.heap.size _ rfl rfl _ _ h3 (info256 _) ((arr_size _ _ _).trans (arr_size _ _ _).symm) (arr_one _ _ _) ?_))
          exact bodyPost_ret (results_cell_row rfl _ _ w.heap.size _ _ (0, 0) _ rfl (setRow_heap _ w.heap.size _ _ _ (0, 0) h3) rfl rfl (info256 _)) rfl ⟨rfl, below_setRow h4 (Nat.le_refl _) _⟩
end Go.Proofs.Ytibgmoapkionjaa
