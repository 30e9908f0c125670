/- aes.Decrypt: walked. -/
import Derived.Test.YtibgmoapkionjaaAesG
namespace Go.Proofs.Ytibgmoapkionjaa
open Go.RowKit Go.Deep

set_option maxRecDepth 100000 in
set_option maxHeartbeats 4000000 in
theorem aesdecrypt_any (key b : Nat → Nat) (w : World) (hk : Aes.B8 key) (hb : Aes.B8 b) : Calls Try.prog 18 #[.agg (arr .u8 16 key), .agg (arr .u8 16 b)] w fun e w' => e = .returned (.agg (arr .u8 16 (Aes.dec key b))) ∧ Below w.heap.size w w' := by
  have hsz := arr_size .u8 16 key
  have hsz2 := arr_size .u8 16 b
  have HK := Lib.hid hk; clear hk
  have HB := Lib.hid hb; clear hb
  have hz32 : ∀ w, (zeroValue 32).run Try.prog w = .ok (.agg (Array.replicate 176 (.int .u8 0))) w := fun _ => by kernel_rfl
  go_enter Try.func18, Try.ntmps18
  go_upto_region 1 with fail
  generalize hW : ((World.alloc _ _).alloc _ : World) = W
  have INV : Below w.heap.size w W ∧ isArr W w.heap.size 22 .u8 16 key ∧ isArr W (w.heap.size + 1) 22 .u8 16 b ∧ isArr W (w.heap.size + 2) 22 .u8 16 (fun _ => 0) := by
    rw [← hW]
    have z1 : w.heap.size + 1 = (w.alloc (Obj.cells (arr IntKind.u8 16 key) 22)).heap.size := by simp
    have z2 : w.heap.size + 2 = ((w.alloc (Obj.cells (arr IntKind.u8 16 key) 22)).alloc (Obj.cells (arr IntKind.u8 16 b) 22)).heap.size := by simp
    refine ⟨(((Below.refl _ _).alloc (Nat.le_refl _) _).alloc (by simp) _).alloc (by simp; omega) _, ?_, ?_, ?_⟩
    · exact ((isArr_new w _ _ _ _).alloc _).alloc _
    · rw [z1]; exact (isArr_new _ _ _ _ _).alloc _
    · rw [z2]; first | exact zero16 | exact zero16r
  have k1 := INV.2.1
  have I0 := Lib.hid INV
  clear hW INV
  go_upto_region 2 with (first | refine wpList_load_row rfl _ _ rfl w.heap.size rfl _ _ (0, 0) _ k1 rfl rfl (info16 _) ?_ | (go_at_call 19; refine (aeskeys_any _ _ HK.out).mono ?_; rintro e w2 ⟨rfl, hb2⟩) | (refine wpList_store_rowTo rfl _ _ _ rfl rfl w2.heap.size _ rfl rfl _ _ (heap_alloc_new _ _) (info176 _) (by rw [arr_size]; first | rfl | simp) (arr_one _ _ _) ?_; generalize hV : World.setRow _ w2.heap.size _ = V))
  have hE : EI key b w2.heap.size w V := by
    have hz := I0.out.2.2.2.lt
    have hz2 := hb2.size
    have h2 : Below W.heap.size W V := by
      rw [← hV]; exact below_setRow (hb2.alloc hb2.size _) hb2.size _
    refine ⟨I0.out.1.trans (h2.mono I0.out.1.size), I0.out.2.2.1.below h2 I0.out.2.2.1.lt, I0.out.2.2.2.below h2 I0.out.2.2.2.lt, ?_, by omega⟩
    rw [← hV]
    exact setRow_heap _ _ _ _ _ _ (heap_alloc_new _ _)
  have E0 := Lib.hid hE
  clear hE hV hb2 k1 I0
  generalize w2.heap.size = g at E0 ⊢
  have k1 := E0.out.2.1
  have hks := Aes.ks_b8 HK.out
  have HS := Lib.hid (Aes.un_b8 HK.out HB.out)
  have HKS := Lib.hid hks; clear hks
  have E2 := E0
  clear E0
  go_wp2_with fail
  go_loopw [6] (fun i wr => ∃ m : Nat, m ≤ 10 ∧ i = .int .i64 ((10 - m : Nat) : Int) ∧ EI key (Aes.un key b m) g w wr) (fun i _ => (intOf i).toNat)
  case atStart => exact ⟨0, by omega, rfl, E2.out⟩
  case round =>
    clear E2 k1
    obtain ⟨m, hm, rfl, hE⟩ := hrel
    have EE := Lib.hid hE
    obtain ⟨i, hi⟩ : ∃ i, i = 10 - m := ⟨_, rfl⟩
    rw [← hi]
    by_cases hlt : m < 10
    · have hd : decide ((1 : Int) ≤ (i : Int)) = true := by simp; omega
      have li : (i : Int) < 11 := by omega
      have ni : 1 ≤ (i : Int) := by omega
      have c1 := hE.2.1.cells
      have c2 := flat_row hE.2.2.2.1 i (by omega)
      have hst : Aes.unround (Aes.un key b m) (Aes.ks key i) ((i : Int) == 10) = Aes.un key b (m + 1) := by
        rw [hi]
        show Aes.unround (Aes.un key b m) (Aes.ks key (10 - m)) _ = Aes.unround (Aes.un key b m) (Aes.ks key (10 - m)) (10 - m == 10)
        congr 1
        rw [Bool.eq_iff_iff, beq_iff_eq, beq_iff_eq]; omega
      have ST := Lib.hid hst
      have C1 := Lib.hid c1
      have C2 := Lib.hid c2
      have HI := Lib.hid (And.intro hi hlt)
      clear hE hst c1 c2 hi hlt hm
      generalize hlb : ((i : Int) == 10) = lb at ST
      go_wp2_with fail
      go_still_tail 6, (by kernel_rfl)
      repeat (first | (refine wpStill_load_arr rfl _ _ rfl ⟨w.heap.size + 1, 0, none⟩ rfl _ _ C1.out rfl rfl (info16 _) ?_) | (refine wpStill_load_arr rfl _ _ rfl ⟨g, i * 16, none⟩ rfl _ _ C2.out rfl rfl (info16 _) ?_) | still_step)
      try refine wpStill_nil ?_
      change wpList _ _ _ _ _ (wr.drewN 1)
      have E3 := Lib.hid (EE.out.drewN 1)
      clear EE C1 C2
      generalize wr.drewN 1 = wd at E3 ⊢
      go_wp2_with (first | (go_at_call 38; refine (aesunround_any _ _ _ _ (HS.out _) (HKS.out _)).mono ?_; rintro e w6 ⟨rfl, hb6⟩; have E4 := Lib.hid (E3.out.below hb6); have k4 := E4.out.2.1; clear hb6 E3) | (refine wpList_store_row rfl _ _ _ rfl (w.heap.size + 1) _ rfl rfl _ _ k4 (info16 _) ((arr_size _ _ _).trans (arr_size _ _ _).symm) (arr_one _ _ _) ?_))
      have E5 := Lib.hid (E4.out.row (y := Aes.unround (Aes.un key b m) (Aes.ks key i) lb))
      rw [ST.out] at E5
      have ei : (i : Int) - 1 = ((10 - (m + 1) : Nat) : Int) := by have := HI.out; omega
      have EI' := Lib.hid ei; clear ei
      go_roundw
      case rel => exact ⟨m + 1, by have := HI.out; omega, congrArg (Value.int .i64) EI'.out, by first | exact E5.out | (rw [ST.out]; exact E5.out)⟩
      case measure => simp [intOf]; omega
    · obtain rfl : m = 10 := by omega
      subst hi
      have hd : decide ((1 : Int) ≤ ((10 - 10 : Nat) : Int)) = false := by decide
      have k1 := hE.2.1
      clear hlt hm hE
      go_wp2_with (first | refine wpList_load_row rfl _ _ rfl (w.heap.size + 1) rfl _ _ (0, 0) _ k1 rfl rfl (info16 _) ?_ | refine wpList_load_arr rfl _ _ rfl ⟨g, 0 * 16, none⟩ rfl _ _ (flat_row EE.out.2.2.2.1 0 (by omega)) rfl rfl (info16 _) ?_ | (go_at_call 23; refine (aesxor_any _ _ _ (HS.out _) (HKS.out 0)).mono ?_; rintro e w3 ⟨rfl, hb3⟩; have E1 := Lib.hid (EE.out.below hb3); have k7 := E1.out.2.2.1; clear hb3) | (refine wpList_store_row rfl _ _ _ rfl (w.heap.size + 2) _ rfl rfl _ _ k7 (info16 _) ((arr_size _ _ _).trans (arr_size _ _ _).symm) (arr_one _ _ _) ?_))
      exact bodyPost_ret (results_cell_row rfl _ _ (w.heap.size + 2) _ _ (0, 0) _ rfl (setRow_heap _ (w.heap.size + 2) _ _ _ (0, 0) k7) rfl rfl (info16 _)) rfl ⟨rfl, below_setRow E1.out.1 (by omega) _⟩
end Go.Proofs.Ytibgmoapkionjaa
