/- aes.Round, aes.unround: walked. -/
import Derived.Test.YtibgmoapkionjaaAesC
namespace Go.Proofs.Ytibgmoapkionjaa
open Go.RowKit Go.Deep

theorem mix_fwd (b : Nat → Nat) (w : World) (hb : Aes.B8 b) : Calls Try.prog 42 #[.agg (arr .u8 16 b), .agg #[.int .u8 2, .int .u8 3, .int .u8 1, .int .u8 1]] w fun e w' => e = .returned (.agg (arr .u8 16 (Aes.mx Aes.mixN b))) ∧ Below w.heap.size w w' := by
  have := aesmix_any Aes.mixN b w (Aes.n4_b8 (by omega) (by omega) (by omega) (by omega)) hb
  rwa [arr4] at this
theorem mix_back (b : Nat → Nat) (w : World) (hb : Aes.B8 b) : Calls Try.prog 42 #[.agg (arr .u8 16 b), .agg #[.int .u8 14, .int .u8 11, .int .u8 13, .int .u8 9]] w fun e w' => e = .returned (.agg (arr .u8 16 (Aes.mx Aes.unmN b))) ∧ Below w.heap.size w w' := by
  have := aesmix_any Aes.unmN b w (Aes.n4_b8 (by omega) (by omega) (by omega) (by omega)) hb
  rwa [arr4] at this

/-- The state of Round: the blocks of the arguments, of the result and of what is moved. -/
def RI (b k x : Nat → Nat) (w wr : World) : Prop :=
  Below w.heap.size w wr ∧ isArr wr w.heap.size 22 .u8 16 b ∧ isArr wr (w.heap.size + 1) 22 .u8 16 k ∧ isArr wr (w.heap.size + 2) 22 .u8 16 (fun _ => 0) ∧ isArr wr (w.heap.size + 3) 22 .u8 16 x
theorem RI.set {b k x y : Nat → Nat} {w wr : World} (h : RI b k x w wr) (i v : Nat) (hy : ∀ t, t < 16 → (if t = i then v else x t) = y t) : RI b k y w (wr.setCell ⟨w.heap.size + 3, i, none⟩ (.int .u8 (v : Int))) :=
  ⟨below_set h.1 (by omega) _ _, h.2.1.setOther (by omega) _ _, h.2.2.1.setOther (by omega) _ _, h.2.2.2.1.setOther (by omega) _ _, (h.2.2.2.2.set i v).congr hy⟩
theorem RI.congr {b k x y : Nat → Nat} {w wr : World} (h : RI b k x w wr) (e : ∀ t, t < 16 → x t = y t) : RI b k y w wr := ⟨h.1, h.2.1, h.2.2.1, h.2.2.2.1, h.2.2.2.2.congr e⟩
theorem RI.below {b k x : Nat → Nat} {w wr w' : World} (h : RI b k x w wr) (e : Below wr.heap.size wr w') : RI b k x w w' :=
  ⟨h.1.trans (e.mono h.1.size), h.2.1.below e h.2.1.lt, h.2.2.1.below e h.2.2.1.lt, h.2.2.2.1.below e h.2.2.2.1.lt, h.2.2.2.2.below e h.2.2.2.2.lt⟩
theorem RI.row {b k x y : Nat → Nat} {w wr : World} (h : RI b k x w wr) : RI b k y w (wr.setRow (w.heap.size + 3) (arr .u8 16 y)) := by
  have hne : ∀ i, i ≠ w.heap.size + 3 → (wr.setRow (w.heap.size + 3) (arr .u8 16 y)).heap[i]? = wr.heap[i]? := fun i hi => by
    unfold World.setRow
    simp [Array.getElem?_modify, Ne.symm hi]
  exact ⟨below_setRow h.1 (by omega) _, h.2.1.of_block (hne _ (by omega)), h.2.2.1.of_block (hne _ (by omega)), h.2.2.2.1.of_block (hne _ (by omega)), setRow_heap _ _ _ _ _ (0, 0) h.2.2.2.2⟩
def two (x : Nat → Nat) (r c t : Nat) : Nat := if t % 4 < r ∨ (t % 4 = r ∧ t / 4 < c) then x t else 0
theorem two_next (x : Nat → Nat) (r c : Nat) (hr : r < 4) (t : Nat) : (if t = r + 4 * c then x (r + 4 * c) else two x r c t) = two x r (c + 1) t := by
  unfold two
  by_cases e : t = r + 4 * c
  · rw [if_pos e, if_pos (by omega), e]
  · rw [if_neg e]
    by_cases e2 : t % 4 < r ∨ (t % 4 = r ∧ t / 4 < c)
    · rw [if_pos e2, if_pos (by omega)]
    · rw [if_neg e2, if_neg (by omega)]
theorem two_row (x : Nat → Nat) (r t : Nat) (h : t < 16) : two x r 4 t = two x (r + 1) 0 t := by
  unfold two
  by_cases e : t % 4 < r + 1
  · rw [if_pos (by omega), if_pos (by omega)]
  · rw [if_neg (by omega), if_neg (by omega)]

set_option maxRecDepth 100000 in
set_option maxHeartbeats 4000000 in
theorem aesround_any (b k : Nat → Nat) (last : Bool) (w : World) (hb : Aes.B8 b) (hk : Aes.B8 k) : Calls Try.prog 21 #[.agg (arr .u8 16 b), .agg (arr .u8 16 k), .bool last] w fun e w' => e = .returned (.agg (arr .u8 16 (Aes.round b k last))) ∧ Below w.heap.size w w' := by
  have hsz := arr_size .u8 16 b
  have hsz2 := arr_size .u8 16 k
  have HB := Lib.hid hb; clear hb
  have HK := Lib.hid hk; clear hk
  go_enter Try.func21, Try.ntmps21
  go_upto_region 2 with fail
  generalize hW : (((World.alloc _ _).alloc _).alloc _ : World) = W
  have INV : RI b k (two (Aes.sr b) 0 0) w W := by
    rw [← hW]
    have z1 : w.heap.size + 1 = (w.alloc (Obj.cells (arr IntKind.u8 16 b) 22)).heap.size := by simp
    have z2 : w.heap.size + 2 = ((w.alloc (Obj.cells (arr IntKind.u8 16 b) 22)).alloc (Obj.cells (arr IntKind.u8 16 k) 22)).heap.size := by simp
    have hz : ∀ t, t < 16 → (0 : Nat) = two (Aes.sr b) 0 0 t := fun t _ => by unfold two; rw [if_neg (by omega)]
    refine ⟨((((Below.refl _ _).alloc (Nat.le_refl _) _).alloc (by simp) _).alloc (by simp; omega) _).alloc (by simp; omega) _, ?_, ?_, ?_, ?_⟩
    · exact (((isArr_new w _ _ _ _).alloc _).alloc _).alloc _
    · rw [z1]; exact ((isArr_new _ _ _ _ _).alloc _).alloc _
    · rw [z2]; first | exact zero16.alloc _ | exact zero16r.alloc _
    · have z3 : ∀ o : Obj, w.heap.size + 3 = (((w.alloc (Obj.cells (arr IntKind.u8 16 b) 22)).alloc (Obj.cells (arr IntKind.u8 16 k) 22)).alloc o).heap.size := fun _ => by simp
      rw [z3]; first | exact zero16.congr hz | exact zero16r.congr hz
  have I0 := Lib.hid INV
  clear hW INV
  go_wp2_with fail
  go_loopw [8, 9, 10] (fun _ _ i wr => ∃ r : Nat, r ≤ 4 ∧ i = .int .i64 r ∧ RI b k (two (Aes.sr b) r 0) w wr) (fun _ _ i _ => 4 - (intOf i).toNat)
  case atStart => exact ⟨0, by omega, rfl, I0.out⟩
  case round =>
    clear I0
    obtain ⟨r, hr, rfl, hm⟩ := hrel
    have HM := Lib.hid hm
    clear hm
    by_cases hlt : r < 4
    · have hd : decide ((r : Int) < 4) = true := by simp; omega
      have lr : (r : Int) < 4 := by omega
      have nr : 0 ≤ (r : Int) := by omega
      go_wp2_with fail
      go_loopw [9, 13] (fun _ i wr => ∃ c : Nat, c ≤ 4 ∧ i = .int .i64 c ∧ RI b k (two (Aes.sr b) r c) w wr) (fun _ i _ => 4 - (intOf i).toNat)
      case atStart => exact ⟨0, by omega, rfl, HM.out⟩
      case round =>
        clear HM
        obtain ⟨c, hc, rfl, hm⟩ := hrel
        by_cases hlc : c < 4
        · have hdc : decide ((c : Int) < 4) = true := by simp; omega
          have lc : (c : Int) < 4 := by omega
          have nc : 0 ≤ (c : Int) := by omega
          have cb := hm.2.1.cell (i := r + 4 * ((c + r) % 4)) (by omega)
          have cm := hm.2.2.2.2.cell (i := r + 4 * c) (by omega)
          have fm := hm.2.2.2.2.frozen (r + 4 * c)
          have hv : Fld.sb (b (r + 4 * ((c + r) % 4))) = Aes.sr b (r + 4 * c) := by
            unfold Aes.sr
            rw [show (r + 4 * c) % 4 = r by omega, show (r + 4 * c) / 4 = c by omega]
          have J := Lib.hid (hm.set (r + 4 * c) (Fld.sb (b (r + 4 * ((c + r) % 4)))) (y := two (Aes.sr b) r (c + 1)) (fun t _ => by rw [hv]; exact two_next _ _ _ hlt t))
          have hy := HB.out (r + 4 * ((c + r) % 4))
          clear hm hv
          generalize b (r + 4 * ((c + r) % 4)) = y at cb J hy
          go_wp2_with (go_at_call 39; refine (sub_any _ _ (by omega)).mono ?_; rintro e w' ⟨rfl, rfl⟩; rw [Int.toNat_natCast])
          go_roundw
          case rel => exact ⟨c + 1, by omega, by go_num, J.out⟩
          case measure => simp [intOf]; omega
        · obtain rfl : c = 4 := by omega
          have hd4 : decide (((4 : Nat) : Int) < 4) = false := by decide
          have HM := Lib.hid (hm.congr (fun t ht => two_row _ _ t ht))
          clear hm hlc
          go_wp2_with fail
          go_roundw
          case rel => exact ⟨r + 1, by omega, by go_num, HM.out⟩
          case measure => simp [intOf]; omega
    · obtain rfl : r = 4 := by omega
      have hd : decide (((4 : Nat) : Int) < 4) = false := by decide
      have hm : RI b k (Aes.sr b) w wr := HM.out.congr fun t _ => by unfold two; rw [if_pos (by omega)]
      clear HM hlt
      cases last
      · have k1 := hm.2.2.2.2
        have HM := Lib.hid hm; clear hm
        go_wp2_with (first | refine wpList_load_row rfl _ _ rfl (w.heap.size + 3) rfl _ _ (0, 0) _ k1 rfl rfl (info16 _) ?_ | (go_at_call 42; refine (mix_fwd _ _ (Aes.sr_b8 HB.out)).mono ?_; rintro e w2 ⟨rfl, hb2⟩; have M2 := Lib.hid (HM.out.below hb2); have k2 := M2.out.2.2.2.2; clear hb2) | (refine wpList_store_row rfl _ _ _ rfl (w.heap.size + 3) _ rfl rfl _ _ k2 (info16 _) ((arr_size _ _ _).trans (arr_size _ _ _).symm) (arr_one _ _ _) ?_; have M3 := Lib.hid (M2.out.row (y := Aes.mx Aes.mixN (Aes.sr b))); clear k1 k2; generalize World.setRow _ (w.heap.size + 3) _ = V at M3 ⊢; have k5 := M3.out.2.2.2.2; have k6 := M3.out.2.2.1) | refine wpList_load_row rfl _ _ rfl (w.heap.size + 3) rfl _ _ (0, 0) _ k5 rfl rfl (info16 _) ?_ | refine wpList_load_row rfl _ _ rfl (w.heap.size + 1) rfl _ _ (0, 0) _ k6 rfl rfl (info16 _) ?_ | (go_at_call 23; refine (aesxor_any _ _ _ (Aes.mx_b8 (Aes.sr_b8 HB.out)) HK.out).mono ?_; rintro e w5 ⟨rfl, hb5⟩; have M5 := Lib.hid (M3.out.below hb5); have k7 := M5.out.2.2.2.1; clear hb5) | (refine wpList_store_row rfl _ _ _ rfl (w.heap.size + 2) _ rfl rfl _ _ k7 (info16 _) ((arr_size _ _ _).trans (arr_size _ _ _).symm) (arr_one _ _ _) ?_))
        exact bodyPost_ret (results_cell_row rfl _ _ (w.heap.size + 2) _ _ (0, 0) _ rfl (setRow_heap _ (w.heap.size + 2) _ _ _ (0, 0) k7) rfl rfl (info16 _)) rfl ⟨rfl, below_setRow M5.out.1 (by omega) _⟩
      · have M3 := Lib.hid hm; clear hm
        have k5 := M3.out.2.2.2.2
        have k6 := M3.out.2.2.1
        go_wp2_with (first | refine wpList_load_row rfl _ _ rfl (w.heap.size + 3) rfl _ _ (0, 0) _ k5 rfl rfl (info16 _) ?_ | refine wpList_load_row rfl _ _ rfl (w.heap.size + 1) rfl _ _ (0, 0) _ k6 rfl rfl (info16 _) ?_ | (go_at_call 23; refine (aesxor_any _ _ _ (Aes.sr_b8 HB.out) HK.out).mono ?_; rintro e w5 ⟨rfl, hb5⟩; have M5 := Lib.hid (M3.out.below hb5); have k7 := M5.out.2.2.2.1; clear hb5) | (refine wpList_store_row rfl _ _ _ rfl (w.heap.size + 2) _ rfl rfl _ _ k7 (info16 _) ((arr_size _ _ _).trans (arr_size _ _ _).symm) (arr_one _ _ _) ?_))
        exact bodyPost_ret (results_cell_row rfl _ _ (w.heap.size + 2) _ _ (0, 0) _ rfl (setRow_heap _ (w.heap.size + 2) _ _ _ (0, 0) k7) rfl rfl (info16 _)) rfl ⟨rfl, below_setRow M5.out.1 (by omega) _⟩
end Go.Proofs.Ytibgmoapkionjaa
