/- Bytes at the limits of a block have the digests of the reference implementation, and so does one byte more: for every number and byte the law returns true. The variable sha.constants reads as the program's text lays it. -/
import Derived.Test.YtgalddnblciciaaDoorShaKit
import Derived.Test.YtgalddnblciciaaDoorHeldB
namespace Go.Proofs.YtgalddnblciciaaDoor
open Go.ChangeShapes Go.WideShapes Go.ChangeAt Go.RowKit Go.Deep

theorem bss_three {w : World} {u v x : Value} {a b c : List Nat} (hu : Rs w u a) (hv : Rs w v b) (hx : Rs w x c) : Bss (w.alloc (.cells #[u, v, x] 24)) (.slice (some ⟨w.heap.size, 0, none⟩) 3 3) [a, b, c] :=
  bss_built w [u, v, x] [a, b, c] rfl (by simp) fun i y hy => by
    match i with
    | 0 => simp at hy; subst hy; exact hu
    | 1 => simp at hy; subst hy; exact hv
    | 2 => simp at hy; subst hy; exact hx
    | _ + 3 => simp at hy

/-- What holds in every world of the last statement. -/
def LimS (w0 : World) (vb : Value) (L : List Nat) (gx : Nat) (f : Nat → Nat) (w' : World) : Prop :=
  Below w0.heap.size w0 w' ∧ Own w' w0.heap.size vb L ∧ isArr w' gx 26 .u8 32 f ∧ vb.ownBlock ≠ some gx
theorem LimS.below {w0 : World} {vb : Value} {L : List Nat} {gx : Nat} {f : Nat → Nat} {w' w'' : World} (h : LimS w0 vb L gx f w') (k : Below w'.heap.size w' w'') : LimS w0 vb L gx f w'' :=
  ⟨below_then h.1 k, h.2.1.below k, h.2.2.1.below k h.2.2.1.lt, h.2.2.2⟩
theorem LimS.alloc {w0 : World} {vb : Value} {L : List Nat} {gx : Nat} {f : Nat → Nat} {w' : World} (h : LimS w0 vb L gx f w') (o : Obj) : LimS w0 vb L gx f (w'.alloc o) := h.below ((Below.refl _ _).alloc (Nat.le_refl _) _)
theorem run_byte_lit (w : World) (c : Nat) : (Instr.buildSlice 24 1 #[(0, .int .u8 (c : Int))]).run Tryd.prog w = .ok (.slice (some ⟨w.heap.size, 0, none⟩) 1 1) (w.alloc (.cells #[.int .u8 (c : Int)] 5)) := by go_simp

attribute [local irreducible] wpAnyH in
set_option maxRecDepth 100000 in
set_option maxHeartbeats 4000000 in
theorem shaLimits_core (n c : Nat) (hn : n < 256) (hc : c < 256) (w : World) (hK : Consts w Sha.tab) :
    Calls Tryd.prog 7 #[.int .u8 n, .int .u8 c] w (RetBool true w) := by
  have HK := Lib.hid hK; clear hK
  obtain ⟨k, hk⟩ : ∃ k, k = 54 + n % 76 := ⟨_, rfl⟩
  have hki : (54 : Int) + (n : Int) % 76 = (k : Int) := by omega
  have hk2 : k ≤ 130 := by omega
  have hi32 : ∀ f, ((Tryd.prog).info? 26).map (·.size) = some (arr .u8 32 f).size := by intro f; rw [arr_size]; rfl
  clear hk
  go_enter Tryd.func7, Tryd.ntmps7
  go_wp2_with fail
  refine (awake_any _ HK.out).mono ?_
  rintro e w1 ⟨rfl, hb1⟩
  have B1 := Lib.hid hb1; clear hb1
  go_wp2_with fail
  go_loopw [6, 7] (fun v i wr => ∃ j : Nat, j ≤ k ∧ i = .int .i64 j ∧ Own wr w.heap.size v (List.replicate j c) ∧ Below w.heap.size w wr) (fun _ i _ => k - (intOf i).toNat)
  case atStart => exact ⟨0, by omega, rfl, Own.nil _ _, B1.out⟩
  case round =>
    clear hki
    obtain ⟨j, hj, rfl, hown, hbel⟩ := hrel
    have hsz := hbel.size
    have B := Lib.hid hbel; clear hbel
    obtain ⟨va, vcap, rfl⟩ := hown.form
    rw [List.length_replicate] at hown ⊢
    have O := Lib.hid hown
    clear hown
    by_cases hlt : j < k
    · have hd : decide ((j : Int) < (k : Int)) = true := by simp; omega
      go_wp2_with (at_builtin; go_must (refine wpList_append_bs rfl _ _ rfl w.heap.size _ (List.replicate j c) rfl (O.out.alloc _) _ [c] rfl (own_built wr _ [c] (AllB.one hc) hsz (by simp)).bs (by simp; omega) (Nat.le_trans hsz (by simp)) ?_; intro v2 w2 hown2 hgr2))
      have hb2 := below_only (B.out.alloc hsz (.cells #[bv c] 5)) (Nat.le_refl _) hgr2 (fun g hg => (O.out.lt g hg).1)
      clear hgr2
      have e : List.replicate j c ++ [c] = List.replicate (j + 1) c := by rw [List.replicate_succ']
      rw [e] at hown2
      clear e
      go_wp2_with fail
      go_roundw
      case rel => exact ⟨j + 1, by omega, by go_num, hown2, hb2⟩
      case measure => simp [intOf]; omega
    · obtain rfl : j = k := by omega
      have hd : decide ((j : Int) < (j : Int)) = false := by simp
      clear hlt hj B1
      rename World => wq
      have HL := Lib.hid (List.length_replicate (n := j) (a := c))
      have hj2 : Wir.join [List.replicate j c] = List.replicate j c := by simp [Wir.join]
      have HJ := Lib.hid hj2; clear hj2
      generalize hL : List.replicate j c = L at O HL HJ
      go_upto_region 10 with (first | (go_at_call 15; go_must (refine (sum_dig _ [L] _ (bss_one O.out.bs.rs) (by rw [HJ.out, HL.out]; omega) (HK.out.below (B.out.alloc B.out.size _))).mono ?_; rintro e w2 ⟨rfl, hb2⟩)) | (refine wpList_store_rowTo rfl _ _ _ rfl rfl w2.heap.size _ rfl rfl _ _ (heap_alloc_new _ _) (hi32 _) (by rw [arr_size]; rfl) (arr_one _ _ _) ?_; generalize hV : World.setRow _ w2.heap.size _ = V))
      have hS0 : LimS w (.slice va j vcap) L w2.heap.size (Sha.dig L) V := by
        have hz2 := hb2.size
        have hbV : Below wq.heap.size wq V := by
          rw [← hV]
          have h0 : Below wq.heap.size wq w2 := ((Below.refl _ _).alloc (Nat.le_refl _) _).trans (hb2.mono (by simp))
          exact below_setRow (h0.alloc h0.size _) h0.size _
        refine ⟨B.out.trans (hbV.mono B.out.size), O.out.below hbV, ?_, fun e => ?_⟩
        · have h0 : isArr V w2.heap.size 26 .u8 32 (Sha.dig (Wir.join [L])) := by rw [← hV]; exact setRow_heap _ _ _ _ _ _ (heap_alloc_new _ _)
          rw [HJ.out] at h0
          exact h0
        · have := (O.out.lt _ e).2
          simp at hz2
          omega
      clear hV hb2 B O
      generalize w2.heap.size = gx at hS0 ⊢
      have HC : Hid (∀ w', LimS w (.slice va j vcap) L gx (Sha.dig L) w' → Consts w' Sha.tab) := Lib.hid (fun w' h => HK.out.below h.1)
      have HR : Hid (∀ w', LimS w (.slice va j vcap) L gx (Sha.dig L) w' → Rs w' (.slice va j vcap) L) := Lib.hid (fun w' h => h.2.1.bs.rs)
      have LX : ∀ w', LimS w (.slice va j vcap) L gx (Sha.dig L) w' → ∀ i v, (arr .u8 32 (Sha.dig L))[i]? = some v → w'.cell? ((⟨gx, 0, none⟩ : Addr).add i) = some v := fun w' h => h.2.2.1.cells
      have heq : ∀ (o : Oper) (a : Act) (w' : World) (f g : Nat → Nat) (x y : Operand), f = g → o.op = .binOp .eql 26 x y 26 → a.eval x = .agg (arr .u8 32 f) → a.eval y = .agg (arr .u8 32 g) → (execOp a.eval o).run Tryd.prog w' = .ok (.value (.bool true)) w' := fun o a w' f g x y e h1 h2 h3 => by
        subst e
        exact (exec_eql_arr (P := Tryd.prog) (k := .u8) (n := 32) f f h1 h2 h3 Tryd.underlying26 Tryd.underlying5 (by kernel_rfl) (by kernel_rfl)).trans (by rw [sameArr_refl])
      have hj1 : Wir.join [L, [c]] = L ++ [c] := by simp [Wir.join]
      have hj3 : Wir.join [[], L, []] = L := by simp [Wir.join]
      have LL := HL.out
      have hbl : (L ++ [c]).length ≤ 131 := by rw [List.length_append, LL]; simp; omega
      refine wp_region_held_drew (S := LimS w (.slice va j vcap) L gx (Sha.dig L)) (by kernel_rfl) (hS0.below (below_drewN (Below.refl _ _) 1)) (fun h0 => ?_)
      change wpAnyH _ _ _ _ _ 25 #[false, false, false, false, false, false, false, false, false, false, false, false, false, false, false, false, false, false, false, false, false, false, false, false, false] _ _
      refine held_load 0 (some 27) rfl rfl (by kernel_rfl) (by kernel_rfl) (by kernel_rfl) (fun _ _ _ _ h => h) (by kernel_rfl) _ _ rfl ⟨gx, 0, none⟩ (by kernel_rfl) _ _ LX rfl rfl (hi32 _) h0 ?_
      simp only [Act.put, List.setIfInBounds_toArray, List.set_cons_zero, List.set_cons_succ]
      refine held_take 1 (some 28) rfl rfl (by kernel_rfl) (by kernel_rfl) (by kernel_rfl) (fun _ _ _ _ h => h) (by kernel_rfl) (.slice va j vcap) (fun _ _ => by kernel_rfl) h0 ?_
      simp only [Act.put, List.setIfInBounds_toArray, List.set_cons_zero, List.set_cons_succ]
      refine held_call 2 (some 29) (by kernel_rfl) rfl rfl (by kernel_rfl) 16 #[.slice va j vcap] (by kernel_rfl) ?_
      refine (refsum_any _ L _ (HR.out _ h0) (by rw [LL]; omega)).mono ?_
      rintro e w3 ⟨rfl, hb3⟩
      have h3 := h0.below hb3
      refine ⟨_, rfl, h3, ?_⟩
      simp only [Act.put, List.setIfInBounds_toArray, List.set_cons_zero, List.set_cons_succ]
      refine held_take 3 (some 30) rfl rfl (by kernel_rfl) (by kernel_rfl) (by kernel_rfl) (fun _ _ _ _ h => h) (by kernel_rfl) (.bool true) (fun w' _ => heq _ _ w' _ _ _ _ rfl rfl rfl rfl) h3 ?_
      simp only [Act.put, List.setIfInBounds_toArray, List.set_cons_zero, List.set_cons_succ]
      refine held_take 4 (some 31) rfl rfl (by kernel_rfl) (by kernel_rfl) (by kernel_rfl) (fun _ _ _ _ h => h) (by kernel_rfl) (.bool true) (fun _ _ => by kernel_rfl) h3 ?_
      simp only [Act.put, List.setIfInBounds_toArray, List.set_cons_zero, List.set_cons_succ]
      refine held_take 5 (some 32) rfl rfl (by kernel_rfl) (by kernel_rfl) (by kernel_rfl) (fun _ _ _ _ h => h) (by kernel_rfl) (.slice va j vcap) (fun _ _ => by kernel_rfl) h3 ?_
      simp only [Act.put, List.setIfInBounds_toArray, List.set_cons_zero, List.set_cons_succ]
      refine held_take 6 (some 33) rfl rfl (by kernel_rfl) (by kernel_rfl) (by kernel_rfl) (fun _ _ _ _ h => h) (by kernel_rfl) (.int .u8 c) (fun _ _ => by kernel_rfl) h3 ?_
      simp only [Act.put, List.setIfInBounds_toArray, List.set_cons_zero, List.set_cons_succ]
      refine held_take 10 (some 37) rfl rfl (by kernel_rfl) (by kernel_rfl) (by kernel_rfl) (fun _ _ _ _ h => h) (by kernel_rfl) (.slice va j vcap) (fun _ _ => by kernel_rfl) h3 ?_
      simp only [Act.put, List.setIfInBounds_toArray, List.set_cons_zero, List.set_cons_succ]
      refine held_take 11 (some 38) rfl rfl (by kernel_rfl) (by kernel_rfl) (by kernel_rfl) (fun _ _ _ _ h => h) (by kernel_rfl) (.int .u8 c) (fun _ _ => by kernel_rfl) h3 ?_
      simp only [Act.put, List.setIfInBounds_toArray, List.set_cons_zero, List.set_cons_succ]
      refine held_two 7 12 (by kernel_rfl) rfl rfl ?_ ?_
      · refine HStep.byte (some 34) rfl (by kernel_rfl) _ c rfl (by kernel_rfl) hc (fun w' k => h3.below k) ?_
        intro wa1 ga1 hb1 hr1
        have hs1 := h3.below hb1
        simp only [Act.put, List.setIfInBounds_toArray, List.set_cons_zero, List.set_cons_succ]
        refine held_two 8 12 (by kernel_rfl) rfl rfl ?_ ?_
        · refine HStep.lists2 (some 35) rfl (by kernel_rfl) _ _ _ _ L [c] rfl rfl rfl (HR.out _ hs1) hr1 (fun w' k => hs1.below k) ?_
          intro wa2 va2 hb2 hr2
          have hs2 := hs1.below hb2
          have f34_2 := hr1.below hb2
          simp only [Act.put, List.setIfInBounds_toArray, List.set_cons_zero, List.set_cons_succ]
          refine held_two 9 12 (by kernel_rfl) rfl rfl ?_ ?_
          · refine HStep.call (some 36) rfl (by kernel_rfl) 15 #[va2] (by kernel_rfl) ?_
            refine (sum_dig _ [L, [c]] _ hr2 (by rw [hj1]; omega) (HC.out _ hs2)).mono ?_
            rintro e wa3 ⟨rfl, hb3⟩
            have hs3 := hs2.below hb3
            refine ⟨_, rfl, hs3, ?_⟩
            have f34_3 := f34_2.below hb3
            have f35_3 := hr2.below hb3
            simp only [Act.put, List.setIfInBounds_toArray, List.set_cons_zero, List.set_cons_succ]
            refine held_one 12 (by kernel_rfl) rfl ?_
            refine HStep.byte (some 39) rfl (by kernel_rfl) _ c rfl (by kernel_rfl) hc (fun w' k => hs3.below k) ?_
            intro wa4 ga4 hb4 hr4
            have hs4 := hs3.below hb4
            have f34_4 := f34_3.below hb4
            have f35_4 := f35_3.below hb4
            simp only [Act.put, List.setIfInBounds_toArray, List.set_cons_zero, List.set_cons_succ]
            obtain ⟨b39, o39, e39, c39⟩ := hr4.at (k := 0) (by simp)
            simp only [Option.some.injEq, Addr.mk.injEq, and_true] at e39
            obtain ⟨rfl, rfl⟩ := e39
            refine held_one 13 (by kernel_rfl) rfl (HStep.of_law #[] rfl fun K hK => ?_)
            refine wpList_append_keep rfl (.tmp 37) (.tmp 39) rfl w.heap.size (.slice va j vcap) L rfl hs4.2.1 _ _ 1 [c] rfl (AllB.one hc) (by simp) c39 (by rw [LL]; simp; omega) hs4.1.size ?_
            intro v40 w40 ho40 hk40 hg40
            have hs40 : LimS w (.slice va j vcap) L gx (Sha.dig L) w40 := ⟨below_only hs4.1 (Nat.le_refl _) hg40 (fun g hg => (hs4.2.1.lt g hg).1), hk40, hs4.2.2.1.of_block (hg40.block gx hs4.2.2.1.lt (fun e => hs4.2.2.2 e.symm)), hs4.2.2.2⟩
            refine hK _ _ hs40 ?_
            change wpAnyH _ _ _ _ _ _ _ (Act.put _ (some 40) v40) w40
            simp only [Act.put, List.setIfInBounds_toArray, List.set_cons_zero, List.set_cons_succ]
            refine held_call 14 (some 41) (by kernel_rfl) rfl rfl (by kernel_rfl) 16 #[v40] (by kernel_rfl) ?_
            refine (refsum_any _ (L ++ [c]) _ ho40.bs.rs (by omega)).mono ?_
            rintro e w41 ⟨rfl, hb41⟩
            have hs41 := hs40.below hb41
            refine ⟨_, rfl, hs41, ?_⟩
            simp only [Act.put, List.setIfInBounds_toArray, List.set_cons_zero, List.set_cons_succ]
            refine held_take 15 (some 42) rfl rfl (by kernel_rfl) (by kernel_rfl) (by kernel_rfl) (fun _ _ _ _ h => h) (by kernel_rfl) (.bool true) (fun w' _ => heq _ _ w' (Sha.dig (Wir.join [L, [c]])) (Sha.dig (L ++ [c])) _ _ (by rw [hj1]) rfl (by kernel_rfl) (by kernel_rfl)) hs41 ?_
            simp only [Act.put, List.setIfInBounds_toArray, List.set_cons_zero, List.set_cons_succ]
            refine held_take 16 (some 43) rfl rfl (by kernel_rfl) (by kernel_rfl) (by kernel_rfl) (fun _ _ _ _ h => h) (by kernel_rfl) (.bool true) (fun _ _ => by kernel_rfl) hs41 ?_
            simp only [Act.put, List.setIfInBounds_toArray, List.set_cons_zero, List.set_cons_succ]
            refine held_take 17 (some 44) rfl rfl (by kernel_rfl) (by kernel_rfl) (by kernel_rfl) (fun _ _ _ _ h => h) (by kernel_rfl) (.bool true) (fun _ _ => by kernel_rfl) hs41 ?_
            simp only [Act.put, List.setIfInBounds_toArray, List.set_cons_zero, List.set_cons_succ]
            refine held_take 18 (some 45) rfl rfl (by kernel_rfl) (by kernel_rfl) (by kernel_rfl) (fun _ _ _ _ h => h) (by kernel_rfl) (.slice va j vcap) (fun _ _ => by kernel_rfl) hs41 ?_
            simp only [Act.put, List.setIfInBounds_toArray, List.set_cons_zero, List.set_cons_succ]
            refine held_load 21 (some 48) rfl rfl (by kernel_rfl) (by kernel_rfl) (by kernel_rfl) (fun _ _ _ _ h => h) (by kernel_rfl) _ _ rfl ⟨gx, 0, none⟩ (by kernel_rfl) _ _ LX rfl rfl (hi32 _) hs41 ?_
            simp only [Act.put, List.setIfInBounds_toArray, List.set_cons_zero, List.set_cons_succ]
            refine held_one 19 (by kernel_rfl) rfl ?_
            refine HStep.lists3 (some 46) rfl (by kernel_rfl) (.const (.slice none 0 0)) (.tmp 45) (.const (.slice none 0 0)) (.slice none 0 0) (.slice va j vcap) (.slice none 0 0) [] L [] rfl (by kernel_rfl) (by kernel_rfl) (by kernel_rfl) (Bs.nil _).rs (HR.out _ hs41) (Bs.nil _).rs (fun w' k => hs41.below k) ?_
            intro w46 v46 hb46 hr46
            have hs46 := hs41.below hb46
            simp only [Act.put, List.setIfInBounds_toArray, List.set_cons_zero, List.set_cons_succ]
            refine held_call 20 (some 47) (by kernel_rfl) rfl rfl (by kernel_rfl) 15 #[v46] (by kernel_rfl) ?_
            refine (sum_dig _ [[], L, []] _ hr46 (by rw [hj3, LL]; omega) (HC.out _ hs46)).mono ?_
            rintro e w47 ⟨rfl, hb47⟩
            have hs47 := hs46.below hb47
            refine ⟨_, rfl, hs47, ?_⟩
            simp only [Act.put, List.setIfInBounds_toArray, List.set_cons_zero, List.set_cons_succ]
            refine held_take 22 (some 49) rfl rfl (by kernel_rfl) (by kernel_rfl) (by kernel_rfl) (fun _ _ _ _ h => h) (by kernel_rfl) (.bool true) (fun w' _ => heq _ _ w' (Sha.dig (Wir.join [[], L, []])) (Sha.dig L) _ _ (by rw [hj3]) rfl (by kernel_rfl) (by kernel_rfl)) hs47 ?_
            simp only [Act.put, List.setIfInBounds_toArray, List.set_cons_zero, List.set_cons_succ]
            refine held_take 23 (some 50) rfl rfl (by kernel_rfl) (by kernel_rfl) (by kernel_rfl) (fun _ _ _ _ h => h) (by kernel_rfl) (.bool true) (fun _ _ => by kernel_rfl) hs47 ?_
            simp only [Act.put, List.setIfInBounds_toArray, List.set_cons_zero, List.set_cons_succ]
            refine held_take 24 (some 4) rfl rfl (by kernel_rfl) (by kernel_rfl) (by kernel_rfl) (fun _ _ _ _ h => h) (by kernel_rfl) (.bool true) (fun _ _ => by kernel_rfl) hs47 ?_
            simp only [Act.put, List.setIfInBounds_toArray, List.set_cons_zero, List.set_cons_succ]
            refine wpAnyH_done (by kernel_rfl) ?_ _
            go_wp2_with fail
            go_ret
            exact ⟨rfl, hs47.1⟩
          · refine HStep.byte (some 39) rfl (by kernel_rfl) _ c rfl (by kernel_rfl) hc (fun w' k => hs2.below k) ?_
            intro wa3 ga3 hb3 hr3
            have hs3 := hs2.below hb3
            have f34_3 := f34_2.below hb3
            have f35_3 := hr2.below hb3
            simp only [Act.put, List.setIfInBounds_toArray, List.set_cons_zero, List.set_cons_succ]
            refine held_one 9 (by kernel_rfl) rfl ?_
            refine HStep.call (some 36) rfl (by kernel_rfl) 15 #[va2] (by kernel_rfl) ?_
            refine (sum_dig _ [L, [c]] _ f35_3 (by rw [hj1]; omega) (HC.out _ hs3)).mono ?_
            rintro e wa4 ⟨rfl, hb4⟩
            have hs4 := hs3.below hb4
            refine ⟨_, rfl, hs4, ?_⟩
            have f34_4 := f34_3.below hb4
            have f35_4 := f35_3.below hb4
            have f39_4 := hr3.below hb4
            simp only [Act.put, List.setIfInBounds_toArray, List.set_cons_zero, List.set_cons_succ]
            obtain ⟨b39, o39, e39, c39⟩ := f39_4.at (k := 0) (by simp)
            simp only [Option.some.injEq, Addr.mk.injEq, and_true] at e39
            obtain ⟨rfl, rfl⟩ := e39
            refine held_one 13 (by kernel_rfl) rfl (HStep.of_law #[] rfl fun K hK => ?_)
            refine wpList_append_keep rfl (.tmp 37) (.tmp 39) rfl w.heap.size (.slice va j vcap) L rfl hs4.2.1 _ _ 1 [c] rfl (AllB.one hc) (by simp) c39 (by rw [LL]; simp; omega) hs4.1.size ?_
            intro v40 w40 ho40 hk40 hg40
            have hs40 : LimS w (.slice va j vcap) L gx (Sha.dig L) w40 := ⟨below_only hs4.1 (Nat.le_refl _) hg40 (fun g hg => (hs4.2.1.lt g hg).1), hk40, hs4.2.2.1.of_block (hg40.block gx hs4.2.2.1.lt (fun e => hs4.2.2.2 e.symm)), hs4.2.2.2⟩
            refine hK _ _ hs40 ?_
            change wpAnyH _ _ _ _ _ _ _ (Act.put _ (some 40) v40) w40
            simp only [Act.put, List.setIfInBounds_toArray, List.set_cons_zero, List.set_cons_succ]
            refine held_call 14 (some 41) (by kernel_rfl) rfl rfl (by kernel_rfl) 16 #[v40] (by kernel_rfl) ?_
            refine (refsum_any _ (L ++ [c]) _ ho40.bs.rs (by omega)).mono ?_
            rintro e w41 ⟨rfl, hb41⟩
            have hs41 := hs40.below hb41
            refine ⟨_, rfl, hs41, ?_⟩
            simp only [Act.put, List.setIfInBounds_toArray, List.set_cons_zero, List.set_cons_succ]
            refine held_take 15 (some 42) rfl rfl (by kernel_rfl) (by kernel_rfl) (by kernel_rfl) (fun _ _ _ _ h => h) (by kernel_rfl) (.bool true) (fun w' _ => heq _ _ w' (Sha.dig (Wir.join [L, [c]])) (Sha.dig (L ++ [c])) _ _ (by rw [hj1]) rfl (by kernel_rfl) (by kernel_rfl)) hs41 ?_
            simp only [Act.put, List.setIfInBounds_toArray, List.set_cons_zero, List.set_cons_succ]
            refine held_take 16 (some 43) rfl rfl (by kernel_rfl) (by kernel_rfl) (by kernel_rfl) (fun _ _ _ _ h => h) (by kernel_rfl) (.bool true) (fun _ _ => by kernel_rfl) hs41 ?_
            simp only [Act.put, List.setIfInBounds_toArray, List.set_cons_zero, List.set_cons_succ]
            refine held_take 17 (some 44) rfl rfl (by kernel_rfl) (by kernel_rfl) (by kernel_rfl) (fun _ _ _ _ h => h) (by kernel_rfl) (.bool true) (fun _ _ => by kernel_rfl) hs41 ?_
            simp only [Act.put, List.setIfInBounds_toArray, List.set_cons_zero, List.set_cons_succ]
            refine held_take 18 (some 45) rfl rfl (by kernel_rfl) (by kernel_rfl) (by kernel_rfl) (fun _ _ _ _ h => h) (by kernel_rfl) (.slice va j vcap) (fun _ _ => by kernel_rfl) hs41 ?_
            simp only [Act.put, List.setIfInBounds_toArray, List.set_cons_zero, List.set_cons_succ]
            refine held_load 21 (some 48) rfl rfl (by kernel_rfl) (by kernel_rfl) (by kernel_rfl) (fun _ _ _ _ h => h) (by kernel_rfl) _ _ rfl ⟨gx, 0, none⟩ (by kernel_rfl) _ _ LX rfl rfl (hi32 _) hs41 ?_
            simp only [Act.put, List.setIfInBounds_toArray, List.set_cons_zero, List.set_cons_succ]
            refine held_one 19 (by kernel_rfl) rfl ?_
            refine HStep.lists3 (some 46) rfl (by kernel_rfl) (.const (.slice none 0 0)) (.tmp 45) (.const (.slice none 0 0)) (.slice none 0 0) (.slice va j vcap) (.slice none 0 0) [] L [] rfl (by kernel_rfl) (by kernel_rfl) (by kernel_rfl) (Bs.nil _).rs (HR.out _ hs41) (Bs.nil _).rs (fun w' k => hs41.below k) ?_
            intro w46 v46 hb46 hr46
            have hs46 := hs41.below hb46
            simp only [Act.put, List.setIfInBounds_toArray, List.set_cons_zero, List.set_cons_succ]
            refine held_call 20 (some 47) (by kernel_rfl) rfl rfl (by kernel_rfl) 15 #[v46] (by kernel_rfl) ?_
            refine (sum_dig _ [[], L, []] _ hr46 (by rw [hj3, LL]; omega) (HC.out _ hs46)).mono ?_
            rintro e w47 ⟨rfl, hb47⟩
            have hs47 := hs46.below hb47
            refine ⟨_, rfl, hs47, ?_⟩
            simp only [Act.put, List.setIfInBounds_toArray, List.set_cons_zero, List.set_cons_succ]
            refine held_take 22 (some 49) rfl rfl (by kernel_rfl) (by kernel_rfl) (by kernel_rfl) (fun _ _ _ _ h => h) (by kernel_rfl) (.bool true) (fun w' _ => heq _ _ w' (Sha.dig (Wir.join [[], L, []])) (Sha.dig L) _ _ (by rw [hj3]) rfl (by kernel_rfl) (by kernel_rfl)) hs47 ?_
            simp only [Act.put, List.setIfInBounds_toArray, List.set_cons_zero, List.set_cons_succ]
            refine held_take 23 (some 50) rfl rfl (by kernel_rfl) (by kernel_rfl) (by kernel_rfl) (fun _ _ _ _ h => h) (by kernel_rfl) (.bool true) (fun _ _ => by kernel_rfl) hs47 ?_
            simp only [Act.put, List.setIfInBounds_toArray, List.set_cons_zero, List.set_cons_succ]
            refine held_take 24 (some 4) rfl rfl (by kernel_rfl) (by kernel_rfl) (by kernel_rfl) (fun _ _ _ _ h => h) (by kernel_rfl) (.bool true) (fun _ _ => by kernel_rfl) hs47 ?_
            simp only [Act.put, List.setIfInBounds_toArray, List.set_cons_zero, List.set_cons_succ]
            refine wpAnyH_done (by kernel_rfl) ?_ _
            go_wp2_with fail
            go_ret
            exact ⟨rfl, hs47.1⟩
        · refine HStep.byte (some 39) rfl (by kernel_rfl) _ c rfl (by kernel_rfl) hc (fun w' k => hs1.below k) ?_
          intro wa2 ga2 hb2 hr2
          have hs2 := hs1.below hb2
          have f34_2 := hr1.below hb2
          simp only [Act.put, List.setIfInBounds_toArray, List.set_cons_zero, List.set_cons_succ]
          refine held_one 8 (by kernel_rfl) rfl ?_
          refine HStep.lists2 (some 35) rfl (by kernel_rfl) _ _ _ _ L [c] rfl rfl rfl (HR.out _ hs2) f34_2 (fun w' k => hs2.below k) ?_
          intro wa3 va3 hb3 hr3
          have hs3 := hs2.below hb3
          have f34_3 := f34_2.below hb3
          have f39_3 := hr2.below hb3
          simp only [Act.put, List.setIfInBounds_toArray, List.set_cons_zero, List.set_cons_succ]
          refine held_one 9 (by kernel_rfl) rfl ?_
          refine HStep.call (some 36) rfl (by kernel_rfl) 15 #[va3] (by kernel_rfl) ?_
          refine (sum_dig _ [L, [c]] _ hr3 (by rw [hj1]; omega) (HC.out _ hs3)).mono ?_
          rintro e wa4 ⟨rfl, hb4⟩
          have hs4 := hs3.below hb4
          refine ⟨_, rfl, hs4, ?_⟩
          have f34_4 := f34_3.below hb4
          have f39_4 := f39_3.below hb4
          have f35_4 := hr3.below hb4
          simp only [Act.put, List.setIfInBounds_toArray, List.set_cons_zero, List.set_cons_succ]
          obtain ⟨b39, o39, e39, c39⟩ := f39_4.at (k := 0) (by simp)
          simp only [Option.some.injEq, Addr.mk.injEq, and_true] at e39
          obtain ⟨rfl, rfl⟩ := e39
          refine held_one 13 (by kernel_rfl) rfl (HStep.of_law #[] rfl fun K hK => ?_)
          refine wpList_append_keep rfl (.tmp 37) (.tmp 39) rfl w.heap.size (.slice va j vcap) L rfl hs4.2.1 _ _ 1 [c] rfl (AllB.one hc) (by simp) c39 (by rw [LL]; simp; omega) hs4.1.size ?_
          intro v40 w40 ho40 hk40 hg40
          have hs40 : LimS w (.slice va j vcap) L gx (Sha.dig L) w40 := ⟨below_only hs4.1 (Nat.le_refl _) hg40 (fun g hg => (hs4.2.1.lt g hg).1), hk40, hs4.2.2.1.of_block (hg40.block gx hs4.2.2.1.lt (fun e => hs4.2.2.2 e.symm)), hs4.2.2.2⟩
          refine hK _ _ hs40 ?_
          change wpAnyH _ _ _ _ _ _ _ (Act.put _ (some 40) v40) w40
          simp only [Act.put, List.setIfInBounds_toArray, List.set_cons_zero, List.set_cons_succ]
          refine held_call 14 (some 41) (by kernel_rfl) rfl rfl (by kernel_rfl) 16 #[v40] (by kernel_rfl) ?_
          refine (refsum_any _ (L ++ [c]) _ ho40.bs.rs (by omega)).mono ?_
          rintro e w41 ⟨rfl, hb41⟩
          have hs41 := hs40.below hb41
          refine ⟨_, rfl, hs41, ?_⟩
          simp only [Act.put, List.setIfInBounds_toArray, List.set_cons_zero, List.set_cons_succ]
          refine held_take 15 (some 42) rfl rfl (by kernel_rfl) (by kernel_rfl) (by kernel_rfl) (fun _ _ _ _ h => h) (by kernel_rfl) (.bool true) (fun w' _ => heq _ _ w' (Sha.dig (Wir.join [L, [c]])) (Sha.dig (L ++ [c])) _ _ (by rw [hj1]) rfl (by kernel_rfl) (by kernel_rfl)) hs41 ?_
          simp only [Act.put, List.setIfInBounds_toArray, List.set_cons_zero, List.set_cons_succ]
          refine held_take 16 (some 43) rfl rfl (by kernel_rfl) (by kernel_rfl) (by kernel_rfl) (fun _ _ _ _ h => h) (by kernel_rfl) (.bool true) (fun _ _ => by kernel_rfl) hs41 ?_
          simp only [Act.put, List.setIfInBounds_toArray, List.set_cons_zero, List.set_cons_succ]
          refine held_take 17 (some 44) rfl rfl (by kernel_rfl) (by kernel_rfl) (by kernel_rfl) (fun _ _ _ _ h => h) (by kernel_rfl) (.bool true) (fun _ _ => by kernel_rfl) hs41 ?_
          simp only [Act.put, List.setIfInBounds_toArray, List.set_cons_zero, List.set_cons_succ]
          refine held_take 18 (some 45) rfl rfl (by kernel_rfl) (by kernel_rfl) (by kernel_rfl) (fun _ _ _ _ h => h) (by kernel_rfl) (.slice va j vcap) (fun _ _ => by kernel_rfl) hs41 ?_
          simp only [Act.put, List.setIfInBounds_toArray, List.set_cons_zero, List.set_cons_succ]
          refine held_load 21 (some 48) rfl rfl (by kernel_rfl) (by kernel_rfl) (by kernel_rfl) (fun _ _ _ _ h => h) (by kernel_rfl) _ _ rfl ⟨gx, 0, none⟩ (by kernel_rfl) _ _ LX rfl rfl (hi32 _) hs41 ?_
          simp only [Act.put, List.setIfInBounds_toArray, List.set_cons_zero, List.set_cons_succ]
          refine held_one 19 (by kernel_rfl) rfl ?_
          refine HStep.lists3 (some 46) rfl (by kernel_rfl) (.const (.slice none 0 0)) (.tmp 45) (.const (.slice none 0 0)) (.slice none 0 0) (.slice va j vcap) (.slice none 0 0) [] L [] rfl (by kernel_rfl) (by kernel_rfl) (by kernel_rfl) (Bs.nil _).rs (HR.out _ hs41) (Bs.nil _).rs (fun w' k => hs41.below k) ?_
          intro w46 v46 hb46 hr46
          have hs46 := hs41.below hb46
          simp only [Act.put, List.setIfInBounds_toArray, List.set_cons_zero, List.set_cons_succ]
          refine held_call 20 (some 47) (by kernel_rfl) rfl rfl (by kernel_rfl) 15 #[v46] (by kernel_rfl) ?_
          refine (sum_dig _ [[], L, []] _ hr46 (by rw [hj3, LL]; omega) (HC.out _ hs46)).mono ?_
          rintro e w47 ⟨rfl, hb47⟩
          have hs47 := hs46.below hb47
          refine ⟨_, rfl, hs47, ?_⟩
          simp only [Act.put, List.setIfInBounds_toArray, List.set_cons_zero, List.set_cons_succ]
          refine held_take 22 (some 49) rfl rfl (by kernel_rfl) (by kernel_rfl) (by kernel_rfl) (fun _ _ _ _ h => h) (by kernel_rfl) (.bool true) (fun w' _ => heq _ _ w' (Sha.dig (Wir.join [[], L, []])) (Sha.dig L) _ _ (by rw [hj3]) rfl (by kernel_rfl) (by kernel_rfl)) hs47 ?_
          simp only [Act.put, List.setIfInBounds_toArray, List.set_cons_zero, List.set_cons_succ]
          refine held_take 23 (some 50) rfl rfl (by kernel_rfl) (by kernel_rfl) (by kernel_rfl) (fun _ _ _ _ h => h) (by kernel_rfl) (.bool true) (fun _ _ => by kernel_rfl) hs47 ?_
          simp only [Act.put, List.setIfInBounds_toArray, List.set_cons_zero, List.set_cons_succ]
          refine held_take 24 (some 4) rfl rfl (by kernel_rfl) (by kernel_rfl) (by kernel_rfl) (fun _ _ _ _ h => h) (by kernel_rfl) (.bool true) (fun _ _ => by kernel_rfl) hs47 ?_
          simp only [Act.put, List.setIfInBounds_toArray, List.set_cons_zero, List.set_cons_succ]
          refine wpAnyH_done (by kernel_rfl) ?_ _
          go_wp2_with fail
          go_ret
          exact ⟨rfl, hs47.1⟩
      · refine HStep.byte (some 39) rfl (by kernel_rfl) _ c rfl (by kernel_rfl) hc (fun w' k => h3.below k) ?_
        intro wa1 ga1 hb1 hr1
        have hs1 := h3.below hb1
        simp only [Act.put, List.setIfInBounds_toArray, List.set_cons_zero, List.set_cons_succ]
        refine held_one 7 (by kernel_rfl) rfl ?_
        refine HStep.byte (some 34) rfl (by kernel_rfl) _ c rfl (by kernel_rfl) hc (fun w' k => hs1.below k) ?_
        intro wa2 ga2 hb2 hr2
        have hs2 := hs1.below hb2
        have f39_2 := hr1.below hb2
        simp only [Act.put, List.setIfInBounds_toArray, List.set_cons_zero, List.set_cons_succ]
        refine held_one 8 (by kernel_rfl) rfl ?_
        refine HStep.lists2 (some 35) rfl (by kernel_rfl) _ _ _ _ L [c] rfl rfl rfl (HR.out _ hs2) hr2 (fun w' k => hs2.below k) ?_
        intro wa3 va3 hb3 hr3
        have hs3 := hs2.below hb3
        have f39_3 := f39_2.below hb3
        have f34_3 := hr2.below hb3
        simp only [Act.put, List.setIfInBounds_toArray, List.set_cons_zero, List.set_cons_succ]
        refine held_one 9 (by kernel_rfl) rfl ?_
        refine HStep.call (some 36) rfl (by kernel_rfl) 15 #[va3] (by kernel_rfl) ?_
        refine (sum_dig _ [L, [c]] _ hr3 (by rw [hj1]; omega) (HC.out _ hs3)).mono ?_
        rintro e wa4 ⟨rfl, hb4⟩
        have hs4 := hs3.below hb4
        refine ⟨_, rfl, hs4, ?_⟩
        have f39_4 := f39_3.below hb4
        have f34_4 := f34_3.below hb4
        have f35_4 := hr3.below hb4
        simp only [Act.put, List.setIfInBounds_toArray, List.set_cons_zero, List.set_cons_succ]
        obtain ⟨b39, o39, e39, c39⟩ := f39_4.at (k := 0) (by simp)
        simp only [Option.some.injEq, Addr.mk.injEq, and_true] at e39
        obtain ⟨rfl, rfl⟩ := e39
        refine held_one 13 (by kernel_rfl) rfl (HStep.of_law #[] rfl fun K hK => ?_)
        refine wpList_append_keep rfl (.tmp 37) (.tmp 39) rfl w.heap.size (.slice va j vcap) L rfl hs4.2.1 _ _ 1 [c] rfl (AllB.one hc) (by simp) c39 (by rw [LL]; simp; omega) hs4.1.size ?_
        intro v40 w40 ho40 hk40 hg40
        have hs40 : LimS w (.slice va j vcap) L gx (Sha.dig L) w40 := ⟨below_only hs4.1 (Nat.le_refl _) hg40 (fun g hg => (hs4.2.1.lt g hg).1), hk40, hs4.2.2.1.of_block (hg40.block gx hs4.2.2.1.lt (fun e => hs4.2.2.2 e.symm)), hs4.2.2.2⟩
        refine hK _ _ hs40 ?_
        change wpAnyH _ _ _ _ _ _ _ (Act.put _ (some 40) v40) w40
        simp only [Act.put, List.setIfInBounds_toArray, List.set_cons_zero, List.set_cons_succ]
        refine held_call 14 (some 41) (by kernel_rfl) rfl rfl (by kernel_rfl) 16 #[v40] (by kernel_rfl) ?_
        refine (refsum_any _ (L ++ [c]) _ ho40.bs.rs (by omega)).mono ?_
        rintro e w41 ⟨rfl, hb41⟩
        have hs41 := hs40.below hb41
        refine ⟨_, rfl, hs41, ?_⟩
        simp only [Act.put, List.setIfInBounds_toArray, List.set_cons_zero, List.set_cons_succ]
        refine held_take 15 (some 42) rfl rfl (by kernel_rfl) (by kernel_rfl) (by kernel_rfl) (fun _ _ _ _ h => h) (by kernel_rfl) (.bool true) (fun w' _ => heq _ _ w' (Sha.dig (Wir.join [L, [c]])) (Sha.dig (L ++ [c])) _ _ (by rw [hj1]) rfl (by kernel_rfl) (by kernel_rfl)) hs41 ?_
        simp only [Act.put, List.setIfInBounds_toArray, List.set_cons_zero, List.set_cons_succ]
        refine held_take 16 (some 43) rfl rfl (by kernel_rfl) (by kernel_rfl) (by kernel_rfl) (fun _ _ _ _ h => h) (by kernel_rfl) (.bool true) (fun _ _ => by kernel_rfl) hs41 ?_
        simp only [Act.put, List.setIfInBounds_toArray, List.set_cons_zero, List.set_cons_succ]
        refine held_take 17 (some 44) rfl rfl (by kernel_rfl) (by kernel_rfl) (by kernel_rfl) (fun _ _ _ _ h => h) (by kernel_rfl) (.bool true) (fun _ _ => by kernel_rfl) hs41 ?_
        simp only [Act.put, List.setIfInBounds_toArray, List.set_cons_zero, List.set_cons_succ]
        refine held_take 18 (some 45) rfl rfl (by kernel_rfl) (by kernel_rfl) (by kernel_rfl) (fun _ _ _ _ h => h) (by kernel_rfl) (.slice va j vcap) (fun _ _ => by kernel_rfl) hs41 ?_
        simp only [Act.put, List.setIfInBounds_toArray, List.set_cons_zero, List.set_cons_succ]
        refine held_load 21 (some 48) rfl rfl (by kernel_rfl) (by kernel_rfl) (by kernel_rfl) (fun _ _ _ _ h => h) (by kernel_rfl) _ _ rfl ⟨gx, 0, none⟩ (by kernel_rfl) _ _ LX rfl rfl (hi32 _) hs41 ?_
        simp only [Act.put, List.setIfInBounds_toArray, List.set_cons_zero, List.set_cons_succ]
        refine held_one 19 (by kernel_rfl) rfl ?_
        refine HStep.lists3 (some 46) rfl (by kernel_rfl) (.const (.slice none 0 0)) (.tmp 45) (.const (.slice none 0 0)) (.slice none 0 0) (.slice va j vcap) (.slice none 0 0) [] L [] rfl (by kernel_rfl) (by kernel_rfl) (by kernel_rfl) (Bs.nil _).rs (HR.out _ hs41) (Bs.nil _).rs (fun w' k => hs41.below k) ?_
        intro w46 v46 hb46 hr46
        have hs46 := hs41.below hb46
        simp only [Act.put, List.setIfInBounds_toArray, List.set_cons_zero, List.set_cons_succ]
        refine held_call 20 (some 47) (by kernel_rfl) rfl rfl (by kernel_rfl) 15 #[v46] (by kernel_rfl) ?_
        refine (sum_dig _ [[], L, []] _ hr46 (by rw [hj3, LL]; omega) (HC.out _ hs46)).mono ?_
        rintro e w47 ⟨rfl, hb47⟩
        have hs47 := hs46.below hb47
        refine ⟨_, rfl, hs47, ?_⟩
        simp only [Act.put, List.setIfInBounds_toArray, List.set_cons_zero, List.set_cons_succ]
        refine held_take 22 (some 49) rfl rfl (by kernel_rfl) (by kernel_rfl) (by kernel_rfl) (fun _ _ _ _ h => h) (by kernel_rfl) (.bool true) (fun w' _ => heq _ _ w' (Sha.dig (Wir.join [[], L, []])) (Sha.dig L) _ _ (by rw [hj3]) rfl (by kernel_rfl) (by kernel_rfl)) hs47 ?_
        simp only [Act.put, List.setIfInBounds_toArray, List.set_cons_zero, List.set_cons_succ]
        refine held_take 23 (some 50) rfl rfl (by kernel_rfl) (by kernel_rfl) (by kernel_rfl) (fun _ _ _ _ h => h) (by kernel_rfl) (.bool true) (fun _ _ => by kernel_rfl) hs47 ?_
        simp only [Act.put, List.setIfInBounds_toArray, List.set_cons_zero, List.set_cons_succ]
        refine held_take 24 (some 4) rfl rfl (by kernel_rfl) (by kernel_rfl) (by kernel_rfl) (fun _ _ _ _ h => h) (by kernel_rfl) (.bool true) (fun _ _ => by kernel_rfl) hs47 ?_
        simp only [Act.put, List.setIfInBounds_toArray, List.set_cons_zero, List.set_cons_succ]
        refine wpAnyH_done (by kernel_rfl) ?_ _
        go_wp2_with fail
        go_ret
        exact ⟨rfl, hs47.1⟩

theorem shaLimits_walk (n : Int) (wn : (Lit.int .u8 n).wf = true) (c : Int) (wc : (Lit.int .u8 c).wf = true) (w : World) (hK : Consts w Sha.tab) :
    Calls Tryd.prog 7 #[.int .u8 n, .int .u8 c] w (RetBool true w) := by
  have h1 := bounds_u8 wn
  have h2 := bounds_u8 wc
  obtain ⟨a, rfl⟩ := Int.eq_ofNat_of_zero_le h1.1
  obtain ⟨b, rfl⟩ := Int.eq_ofNat_of_zero_le h2.1
  exact shaLimits_core a b (by omega) (by omega) w hK

/-! ### THE ROW's STEP -/
namespace shaLimitsF
theorem own : ownKnob Tryd.prog.godebug = none := by kernel_rfl
theorem laidOut : laidOutB Tryd.prog = true := by kernel_rfl
theorem gT : Tryd.prog.globalNamed "toll/sha.constants" = some 0 := by kernel_rfl
theorem gTType : (Tryd.prog.globals[0]?).map (·.type) = some 37 := by kernel_rfl
theorem door_met (os : Os) (args : Array Value) : laidMetH Tryd.prog Rows.shaLimitsRow.laid ((World.doorLaid Tryd.prog 400 os).forCall (fun _ _ => 0) ⟨#[], args, []⟩).memory :=
  laidMetH_of_parts3 (fuel := 8) (laidMet_of_run' 8 (by kernel_rfl) (by kernel_rfl)) (by kernel_rfl) (by kernel_rfl)
theorem of_laid {W : World} (h : laidMetH Tryd.prog Rows.shaLimitsRow.laid W) : Consts W Sha.tab := fun i hi => by
  rw [MakeChecks.laidMetH_plain _ _ _ (by kernel_rfl)] at h
  have hT := Lib.tabIs_of_head (k := .u32) (zs := Sha.tableL.map fun n : Nat => (n : Int)) gT gTType Tryd.underlying37 Tryd.underlying31 (by kernel_rfl) (by kernel_rfl) h
  have hl : i < Sha.tableL.length := hi
  rw [hT.cell gT i (by simpa using hl)]
  simp [Sha.tab, List.getD, hl]
set_option maxRecDepth 100000 in
theorem lifted (os : Os) (started : os.Started) (H : Type) (enc : TypeId × Value → H) :
    ReturnsInHanded {} Tryd.checked os 7 .any (fun w args => (Rows.shaLimitsSpec.pre enc Tryd.prog Tryd.f7 [] false w args ∧ laidMetH Tryd.prog Rows.shaLimitsRow.laid w) ∧ sizedMet enc Tryd.prog Tryd.f7 (OpenSpec.ofChange Rows.shaLimitsSpec) false w args)
      (Rows.shaLimitsSpec.post enc Tryd.prog Tryd.f7 false true false false) := by
  refine returnsInHanded_of_change_and (C := Tryd.checked) (X := fun w _ => laidMetH Tryd.prog Rows.shaLimitsRow.laid w) (fun _ _ _ hh h => h.of_heap hh) own started (by kernel_rfl) Tryd.func7
    (ChangeSpec.witness_shaped (enc := enc) (C := Tryd.checked) (os := os) (X := fun w _ => laidMetH Tryd.prog Rows.shaLimitsRow.laid w) false (World.doorLaid Tryd.prog 400 os) #[.int .u8 0, .int .u8 0] 8 rfl (World.shaped_of_RefB (by kernel_rfl) (by kernel_rfl)) (by kernel_rfl) (by kernel_rfl) (by kernel_rfl) (door_met os _)) ?_
  intro W base args ds gs before hval0 hW _ _ hL _
  have hK := of_laid hL
  have hval : ∀ (j : Nat) t v, Tryd.f7.params[j]? = some t → args[j]? = some v → Value.okWide Tryd.prog W .any base t v := hval0
  have hW' := hW
  obtain ⟨p, q, hA0, hV, rfl, _, _⟩ := hW
  have hA : DataW.TrodAll enc Tryd.prog W 0 (fun _ => true) true Tryd.f7.params.toList args.toList ds p := hA0
  rw [Tryd.params7] at hA hval
  obtain ⟨v0, vs0, d0, ds0, p0, q0, hargs, rfl, rfl, h0, r0⟩ := trodAll_cons hA
  obtain ⟨v1, vs1, d1, ds1, p1, q1, rfl, rfl, rfl, h1, r1⟩ := trodAll_cons r0
  obtain ⟨rfl, rfl, rfl⟩ := trodAll_nil r1
  obtain rfl : args = #[v0, v1] := by cases args; simp_all
  obtain ⟨rfl, rfl⟩ := trodVars_none hV
  have k0 := h0
  have lt0 : ∀ x ∈ p0, x.block < W.heap.size := by obtain ⟨m, hm⟩ := k0; exact DataW.trod_lt m _ _ _ hm
  obtain ⟨a0, rfl, _, _, w0⟩ := open_int Tryd.underlying5 (hval 0 5 v0 rfl rfl) h0
  have k1 := h1
  have lt1 : ∀ x ∈ p1, x.block < W.heap.size := by obtain ⟨m, hm⟩ := k1; exact DataW.trod_lt m _ _ _ hm
  obtain ⟨a1, rfl, _, _, w1⟩ := open_int Tryd.underlying5 (hval 1 5 v1 rfl rfl) h1
  refine (shaLimits_walk a0 w0 a1 w1 W hK).mono fun e W' ⟨he, bel⟩ => ?_
  subst he
  exact ⟨_, rfl, _, _, _, [], _, [], hW', trodAll_mk1 (shut_bool Tryd.underlying4 _), (trodAll_cons_mk (Below.trod laidOut (by kernel_rfl) (of_decide_eq_true (by kernel_rfl)) k0 bel lt0) (trodAll_cons_mk (Below.trod laidOut (by kernel_rfl) (of_decide_eq_true (by kernel_rfl)) k1 bel lt1) trodAll_mk0)), rfl, bel.frame _, fun h => by cases h⟩
theorem over : Rows.shaLimitsRow.holds Tryd.pinned (OpenSpec.ofChange Rows.shaLimitsSpec) :=
  OpenClaim.holds_of_wide 7 Tryd.f7 rfl rfl rfl rfl rfl rfl rfl ⟨rfl, rfl, rfl, rfl, rfl⟩ rfl rfl rfl rfl rfl (by kernel_rfl) Tryd.func7 (by kernel_rfl)
    (of_decide_eq_true (by kernel_rfl)) (by unfold Func.isWrapper; first | (rw [if_pos (by decide +kernel)]; kernel_rfl) | (rw [if_neg (by decide +kernel)]; exact ⟨rfl, rfl⟩))
    (fun os started H enc _ => lifted os started H enc)
end shaLimitsF
/-- The row. -/
theorem shaLimits_row : Rows.ShaLimitsSaid := shaLimitsF.over
/-- The statement: the card. -/
theorem shaLimits_holds : Rows.ShaLimitsCardSaid :=
  Claim7.holds_tied_plain_at .later [] [.data] true Rows.shaLimitsCard.stood.harness false
    shaLimits_row (fun _ h => by cases h) (by kernel_rfl) (fun _ h => by cases h) shaLimits_row_tie rfl ⟨rfl, rfl⟩ (by kernel_rfl) rfl
    (fun f fn hf hfn => by
      obtain rfl : f = 7 := Option.some.inj ((show Tryd.prog.funcNamed "toll/tolllaw04.ShaLimits" = some 7 by kernel_rfl).symm.trans hf) |>.symm
      obtain rfl : fn = Tryd.f7 := (Option.some.inj (Tryd.func7.symm.trans hfn)).symm
      exact ⟨by kernel_rfl, fun j t ht => by
        rw [Tryd.params7] at ht
        have hm : t ∈ [5, 5] := by simpa using Array.mem_of_getElem? ht
        have hall : ([5, 5].all fun u => !Tryd.prog.wantsStandIn u) = true := by kernel_rfl
        exact (show Tryd.prog.wantsStandIn t = false by simpa using List.all_eq_true.1 hall t hm)⟩)
    (by kernel_rfl)
#print axioms shaLimits_holds
end Go.Proofs.YtgalddnblciciaaDoor
