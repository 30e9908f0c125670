/- The reference's Encrypt, its Box; bytes16: walked. -/
import Derived.Test.YtibgmoapkionjaaAesL
import Derived.Test.YtibgmoapkionjaaSpread
namespace Go.Proofs.Ytibgmoapkionjaa
open Go.RowKit Go.Deep

def FI (key x : Nat → Nat) (g : Nat) (w wr : World) : Prop :=
  Below w.heap.size w wr ∧ isArr wr (w.heap.size + 1) 22 .u8 16 x ∧ isArr wr (w.heap.size + 2) 28 .u8 256 Fld.sb ∧ isArr wr (w.heap.size + 3) 22 .u8 16 (fun _ => 0) ∧ isArr wr g 32 .u8 176 (Aes.flat key) ∧ w.heap.size + 3 < g
theorem FI.below {key x : Nat → Nat} {g : Nat} {w wr w' : World} (h : FI key x g w wr) (e : Below wr.heap.size wr w') : FI key x g w w' :=
  ⟨h.1.trans (e.mono h.1.size), h.2.1.below e h.2.1.lt, h.2.2.1.below e h.2.2.1.lt, h.2.2.2.1.below e h.2.2.2.1.lt, h.2.2.2.2.1.below e h.2.2.2.2.1.lt, h.2.2.2.2.2⟩
theorem FI.row {key x y : Nat → Nat} {g : Nat} {w wr : World} (h : FI key x g w wr) : FI key y g w (wr.setRow (w.heap.size + 1) (arr .u8 16 y)) := by
  have hg := h.2.2.2.2.2
  exact ⟨below_setRow h.1 (by omega) _, setRow_heap _ _ _ _ _ (0, 0) h.2.1, setRow_other h.2.2.1 (by omega) _, setRow_other h.2.2.2.1 (by omega) _, setRow_other h.2.2.2.2.1 (by omega) _, hg⟩
theorem FI.drewN {key x : Nat → Nat} {g : Nat} {w wr : World} (h : FI key x g w wr) (n : Nat) : FI key x g w (wr.drewN n) := ⟨below_drewN h.1 n, h.2.1, h.2.2.1, h.2.2.2.1, h.2.2.2.2.1, h.2.2.2.2.2⟩
theorem FI.set {key x y : Nat → Nat} {g : Nat} {w wr : World} (h : FI key x g w wr) (i v : Nat) (hy : ∀ t, t < 16 → (if t = i then v else x t) = y t) : FI key y g w (wr.setCell ⟨w.heap.size + 1, i, none⟩ (.int .u8 (v : Int))) := by
  have hg := h.2.2.2.2.2
  exact ⟨below_set h.1 (by omega) _ _, (h.2.1.set i v).congr hy, h.2.2.1.setOther (by omega) _ _, h.2.2.2.1.setOther (by omega) _ _, h.2.2.2.2.1.setOther (by omega) _ _, hg⟩
theorem FI.congr {key x y : Nat → Nat} {g : Nat} {w wr : World} (h : FI key x g w wr) (e : ∀ t, t < 16 → x t = y t) : FI key y g w wr := ⟨h.1, h.2.1.congr e, h.2.2⟩

set_option maxRecDepth 100000 in
set_option maxHeartbeats 8000000 in
theorem refencrypt_any (key b : Nat → Nat) (w : World) (hk : Aes.B8 key) (hb : Aes.B8 b) : Calls Try.prog 16 #[.agg (arr .u8 16 key), .agg (arr .u8 16 b), .agg (arr .u8 256 Fld.sb)] w fun e w' => e = .returned (.agg (arr .u8 16 (Aes.enc key b))) ∧ Below w.heap.size w w' := by
  have hsz := arr_size .u8 16 key
  have hsz2 := arr_size .u8 16 b
  have hsz3 := arr_size .u8 256 Fld.sb
  have HK := Lib.hid hk; clear hk
  have HB := Lib.hid hb; clear hb
  have hz32 : ∀ w, (zeroValue 32).run Try.prog w = .ok (.agg (Array.replicate 176 (.int .u8 0))) w := fun _ => by kernel_rfl
  go_enter Try.func16, Try.ntmps16
  go_upto_region 1 with fail
  generalize hW : (((World.alloc _ _).alloc _).alloc _ : World) = W
  have INV : Below w.heap.size w W ∧ isArr W w.heap.size 22 .u8 16 key ∧ isArr W (w.heap.size + 1) 22 .u8 16 b ∧ isArr W (w.heap.size + 2) 28 .u8 256 Fld.sb ∧ isArr W (w.heap.size + 3) 22 .u8 16 (fun _ => 0) := by
    rw [← hW]
    have z1 : w.heap.size + 1 = (w.alloc (Obj.cells (arr IntKind.u8 16 key) 22)).heap.size := by simp
    have z2 : w.heap.size + 2 = ((w.alloc (Obj.cells (arr IntKind.u8 16 key) 22)).alloc (Obj.cells (arr IntKind.u8 16 b) 22)).heap.size := by simp
    have z3 : w.heap.size + 3 = (((w.alloc (Obj.cells (arr IntKind.u8 16 key) 22)).alloc (Obj.cells (arr IntKind.u8 16 b) 22)).alloc (Obj.cells (arr IntKind.u8 256 Fld.sb) 28)).heap.size := by simp
    refine ⟨((((Below.refl _ _).alloc (Nat.le_refl _) _).alloc (by simp) _).alloc (by simp; omega) _).alloc (by simp; omega) _, ?_, ?_, ?_, ?_⟩
    · exact (((isArr_new w _ _ _ _).alloc _).alloc _).alloc _
    · rw [z1]; exact ((isArr_new _ _ _ _ _).alloc _).alloc _
    · rw [z2]; exact (isArr_new _ _ _ _ _).alloc _
    · rw [z3]; first | exact zero16 | exact zero16r
  have k1 := INV.2.1
  have k2 := INV.2.2.2.1
  have I0 := Lib.hid INV
  clear hW INV
  go_upto_region 2 with (first | refine wpList_load_row rfl _ _ rfl w.heap.size rfl _ _ (0, 0) _ k1 rfl rfl (info16 _) ?_ | refine wpList_load_row rfl _ _ rfl (w.heap.size + 2) rfl _ _ (0, 0) _ k2 rfl rfl (info256 _) ?_ | (go_at_call 20; refine (refkeys_any _ _ HK.out).mono ?_; rintro e w2 ⟨rfl, hb2⟩) | (refine wpList_store_rowTo rfl _ _ _ rfl rfl w2.heap.size _ rfl rfl _ _ (heap_alloc_new _ _) (info176 _) (by rw [arr_size]; first | rfl | simp) (arr_one _ _ _) ?_; generalize hV : World.setRow _ w2.heap.size _ = V))
  have hE : FI key b w2.heap.size w V := by
    have hz := I0.out.2.2.2.2.lt
    have hz2 := hb2.size
    have h2 : Below W.heap.size W V := by
      rw [← hV]; exact below_setRow (hb2.alloc hb2.size _) hb2.size _
    refine ⟨I0.out.1.trans (h2.mono I0.out.1.size), I0.out.2.2.1.below h2 I0.out.2.2.1.lt, I0.out.2.2.2.1.below h2 I0.out.2.2.2.1.lt, I0.out.2.2.2.2.below h2 I0.out.2.2.2.2.lt, ?_, by omega⟩
    rw [← hV]
    exact setRow_heap _ _ _ _ _ _ (heap_alloc_new _ _)
  have E0 := Lib.hid (hE.congr (y := part16 b (Aes.xor b (Aes.ks key 0)) 0) fun t _ => by unfold part16; rw [if_neg (Nat.not_lt_zero _)])
  clear hE hV hb2 k1 k2 I0
  generalize w2.heap.size = g at E0 ⊢
  have hks := Aes.ks_b8 HK.out
  have HS := Lib.hid (Aes.st_b8 HK.out HB.out)
  have HKS := Lib.hid hks; clear hks
  go_upto_region 6 with fail
  go_wp2_with fail
  go_loopw [8] (fun i wr => ∃ m : Nat, m ≤ 16 ∧ i = .int .i64 m ∧ FI key (part16 b (Aes.xor b (Aes.ks key 0)) m) g w wr) (fun i _ => 16 - (intOf i).toNat)
  case atStart => exact ⟨0, by omega, rfl, E0.out⟩
  case round =>
    clear E0
    obtain ⟨j, hj, rfl, hm⟩ := hrel
    by_cases hlt : j < 16
    · have hd : decide ((j : Int) < 16) = true := by simp; omega
      have c0 := hm.2.1.cell (i := j) hlt
      have f0 := hm.2.1.frozen j
      have c1 := hm.2.2.2.2.1.cell (i := j) (by omega)
      rw [show part16 b (Aes.xor b (Aes.ks key 0)) j j = b j by unfold part16; rw [if_neg (Nat.lt_irrefl _)]] at c0
      rw [show Aes.flat key j = Aes.ks key 0 j by unfold Aes.flat; rw [show j / 16 = 0 by omega, show j % 16 = j by omega]] at c1
      have I7 := Lib.hid (fun n => (hm.drewN n).set (y := part16 b (Aes.xor b (Aes.ks key 0)) (j + 1)) j (b j ^^^ Aes.ks key 0 j) (fun t _ => part16_next b (Aes.xor b (Aes.ks key 0)) j t))
      have hx := u8_xor_nat _ _ (HB.out j) (HKS.out 0 j)
      clear hm
      generalize b j = p at c0 I7 hx
      generalize Aes.ks key 0 j = q at c1 I7 hx
      have lm : (j : Int) < 16 := by omega
      have nm : 0 ≤ (j : Int) := by omega
      have HX := Lib.hid hx; clear hx
      go_wp2_with fail
      go_still_tail 10, (by kernel_rfl)
      change wpList _ _ _ _ _ (wr.drewN 1)
      have c2 : (wr.drewN 1).cell? ⟨w.heap.size + 1, j, none⟩ = some (.int .u8 (p : Int)) := c0
      have f2 : (wr.drewN 1).frozen? ⟨w.heap.size + 1, j, none⟩ = false := f0
      have I8 := Lib.hid (I7.out 1)
      clear I7 c0 f0 c1
      generalize wr.drewN 1 = wd at c2 f2 I8 ⊢
      rw [HX.out]
      go_wp2_with fail
      go_roundw
      case rel => exact ⟨j + 1, by omega, by go_num, I8.out⟩
      case measure => simp [intOf]; omega
    · obtain rfl : j = 16 := by omega
      have hd : decide (((16 : Nat) : Int) < 16) = false := by decide
      have E2 := Lib.hid (hm.congr (y := Aes.xor b (Aes.ks key 0)) fun t ht => by unfold part16; rw [if_pos ht])
      clear hm hlt
      go_wp2_with fail
      go_loopw [9] (fun i wr => ∃ m : Nat, m ≤ 10 ∧ i = .int .i64 ((m + 1 : Nat) : Int) ∧ FI key (Aes.st key b m) g w wr) (fun i _ => 11 - (intOf i).toNat)
      case atStart => exact ⟨0, by omega, rfl, E2.out⟩
      case round =>
        clear E2
        obtain ⟨m, hm, rfl, hE⟩ := hrel
        have EE := Lib.hid hE
        obtain ⟨i, hi⟩ : ∃ i, i = m + 1 := ⟨_, rfl⟩
        rw [← hi]
        by_cases hlt : m < 10
        · have hd : decide ((i : Int) ≤ 10) = true := by simp; omega
          have li : (i : Int) < 11 := by omega
          have ni : 1 ≤ (i : Int) := by omega
          have c1 := hE.2.1.cells
          have c2 := flat_row hE.2.2.2.2.1 i (by omega)
          have c3 := hE.2.2.1.cells
          have hst : Aes.round (Aes.st key b m) (Aes.ks key i) ((i : Int) == 10) = Aes.st key b i := by
            rw [hi]
            show Aes.round (Aes.st key b m) (Aes.ks key (m + 1)) _ = Aes.round (Aes.st key b m) (Aes.ks key (m + 1)) (m + 1 == 10)
            congr 1
            rw [Bool.eq_iff_iff, beq_iff_eq, beq_iff_eq]; omega
          have ST := Lib.hid hst
          have C1 := Lib.hid c1
          have C2 := Lib.hid c2
          have C3 := Lib.hid c3
          have HI := Lib.hid hi
          clear hE hst c1 c2 c3 hi hlt hm
          generalize hlb : ((i : Int) == 10) = lb at ST
          go_wp2_with fail
          go_still_tail 7, (by kernel_rfl)
          repeat (first | (refine wpStill_load_arr rfl _ _ rfl ⟨w.heap.size + 1, 0, none⟩ rfl _ _ C1.out rfl rfl (info16 _) ?_) | (refine wpStill_load_arr rfl _ _ rfl ⟨g, i * 16, none⟩ rfl _ _ C2.out rfl rfl (info16 _) ?_) | (refine wpStill_load_arr rfl _ _ rfl ⟨w.heap.size + 2, 0, none⟩ rfl _ _ C3.out rfl rfl (info256 _) ?_) | still_step)
          try refine wpStill_nil ?_
          change wpList _ _ _ _ _ (wr.drewN 1)
          have E3 := Lib.hid (EE.out.drewN 1)
          clear EE C1 C2 C3
          generalize wr.drewN 1 = wd at E3 ⊢
          go_wp2_with (first | (go_at_call 22; refine (refround_any _ _ _ _ (HS.out _) (HKS.out _)).mono ?_; rintro e w6 ⟨rfl, hb6⟩; have E4 := Lib.hid (E3.out.below hb6); have k4 := E4.out.2.1; clear hb6 E3) | (refine wpList_store_row rfl _ _ _ rfl (w.heap.size + 1) _ rfl rfl _ _ k4 (info16 _) ((arr_size _ _ _).trans (arr_size _ _ _).symm) (arr_one _ _ _) ?_))
          have E5 := Lib.hid (E4.out.row (y := Aes.round (Aes.st key b m) (Aes.ks key i) lb))
          rw [ST.out] at E5
          go_roundw
          case rel =>
            first
              | exact ⟨i, by have := HI.out; omega, by go_num, by first | exact E5.out | (rw [ST.out]; exact E5.out)⟩
              | ((repeat apply Exists.intro)
                 refine ⟨⟨i, by have := HI.out; omega, by go_num, by first | exact E5.out | (rw [ST.out]; exact E5.out)⟩, rfl⟩)
          case measure => simp [intOf]; omega
        · obtain rfl : m = 10 := by omega
          subst hi
          have hd : decide (((11 : Nat) : Int) ≤ 10) = false := by decide
          have k1 := hE.2.1
          have k7 := hE.2.2.2.1
          clear hlt hm hE
          go_wp2_with (first | refine wpList_load_row rfl _ _ rfl (w.heap.size + 1) rfl _ _ (0, 0) _ k1 rfl rfl (info16 _) ?_ | (refine wpList_store_row rfl _ _ _ rfl (w.heap.size + 3) _ rfl rfl _ _ k7 (info16 _) ((arr_size _ _ _).trans (arr_size _ _ _).symm) (arr_one _ _ _) ?_))
          exact bodyPost_ret (results_cell_row rfl _ _ (w.heap.size + 3) _ _ (0, 0) _ rfl (setRow_heap _ (w.heap.size + 3) _ _ _ (0, 0) k7) rfl rfl (info16 _)) rfl ⟨rfl, below_setRow EE.out.1 (by omega) _⟩

set_option maxRecDepth 100000 in
theorem box7_any (w : World) : Calls Try.prog 17 #[] w fun e w' => e = .returned (.agg (arr .u8 256 Fld.sb)) ∧ Below w.heap.size w w' := by
  have hz : ∀ w, (zeroValue 28).run Try.prog w = .ok (.agg (Array.replicate 256 (.int .u8 0))) w := fun _ => by kernel_rfl
  go_enter Try.func17, Try.ntmps17
  go_upto_region 1 with fail
  generalize hW : (World.alloc _ _ : World) = W
  have INV : Below w.heap.size w W ∧ isArr W w.heap.size 28 .u8 256 (fun _ => 0) := by
    rw [← hW]; exact ⟨(Below.refl _ _).alloc (Nat.le_refl _) _, zeros256⟩
  have I0 := Lib.hid INV
  clear hW INV
  go_wp2_with (first | (go_at_call 37; refine (box6_any _).mono ?_; rintro e w2 ⟨rfl, hb2⟩; have k1 := I0.out.2.below hb2 I0.out.2.lt) | (refine wpList_store_row rfl _ _ _ rfl w.heap.size _ rfl rfl _ _ k1 (info256 _) ((arr_size _ _ _).trans (arr_size _ _ _).symm) (arr_one _ _ _) ?_))
  exact bodyPost_ret (results_cell_row rfl _ _ w.heap.size _ _ (0, 0) _ rfl (setRow_heap _ w.heap.size _ _ _ (0, 0) k1) rfl rfl (info256 _)) rfl ⟨rfl, below_setRow (I0.out.1.trans (hb2.mono I0.out.1.size)) (Nat.le_refl _) _⟩
end Go.Proofs.Ytibgmoapkionjaa
