/- aes.unround: walked. -/
import Derived.Test.YtibgmoapkionjaaAesD
namespace Go.Proofs.Ytibgmoapkionjaa
open Go.RowKit Go.Deep

/-- The state of unround ahead of its loops, and in them. -/
def UF (y : Nat → Nat) (w wr : World) : Prop :=
  Below w.heap.size w wr ∧ isArr wr w.heap.size 22 .u8 16 y ∧ isArr wr (w.heap.size + 2) 22 .u8 16 (fun _ => 0)
theorem UF.below {y : Nat → Nat} {w wr w' : World} (h : UF y w wr) (e : Below wr.heap.size wr w') : UF y w w' := ⟨h.1.trans (e.mono h.1.size), h.2.1.below e h.2.1.lt, h.2.2.below e h.2.2.lt⟩
theorem UF.row {y z : Nat → Nat} {w wr : World} (h : UF y w wr) : UF z w (wr.setRow w.heap.size (arr .u8 16 z)) := by
  have hne : ∀ i, i ≠ w.heap.size → (wr.setRow w.heap.size (arr .u8 16 z)).heap[i]? = wr.heap[i]? := fun i hi => by
    unfold World.setRow
    simp [Array.getElem?_modify, Ne.symm hi]
  exact ⟨below_setRow h.1 (by omega) _, setRow_heap _ _ _ _ _ (0, 0) h.2.1, h.2.2.of_block (hne _ (by omega))⟩
def UI (y x : Nat → Nat) (g : Nat) (w wr : World) : Prop := UF y w wr ∧ isArr wr g 22 .u8 16 x ∧ w.heap.size + 2 < g
theorem UI.set {y x z : Nat → Nat} {g : Nat} {w wr : World} (h : UI y x g w wr) (i v : Nat) (hz : ∀ t, t < 16 → (if t = i then v else x t) = z t) : UI y z g w (wr.setCell ⟨g, i, none⟩ (.int .u8 (v : Int))) := by
  have hg := h.2.2
  exact ⟨⟨below_set h.1.1 (by omega) _ _, h.1.2.1.setOther (by omega) _ _, h.1.2.2.setOther (by omega) _ _⟩, (h.2.1.set i v).congr hz, hg⟩
theorem UI.congr {y x z : Nat → Nat} {g : Nat} {w wr : World} (h : UI y x g w wr) (e : ∀ t, t < 16 → x t = z t) : UI y z g w wr := ⟨h.1, h.2.1.congr e, h.2.2⟩
def thr (x : Nat → Nat) (r c t : Nat) : Nat := if t % 4 < r ∨ (t % 4 = r ∧ (t / 4 + 4 - t % 4) % 4 < c) then x t else 0
theorem thr_at : ∀ r, r < 4 → ∀ c, c < 4 → ∀ t, t < 16 → (t = r + 4 * ((c + r) % 4) ↔ t % 4 = r ∧ (t / 4 + 4 - t % 4) % 4 = c) := by decide
theorem thr_next (x : Nat → Nat) (r c : Nat) (hr : r < 4) (hc : c < 4) (t : Nat) (ht : t < 16) : (if t = r + 4 * ((c + r) % 4) then x (r + 4 * ((c + r) % 4)) else thr x r c t) = thr x r (c + 1) t := by
  have key := thr_at r hr c hc t ht
  unfold thr
  by_cases e : t = r + 4 * ((c + r) % 4)
  · have k := key.1 e
    rw [if_pos e, if_pos (by omega), e]
  · have k : ¬ (t % 4 = r ∧ (t / 4 + 4 - t % 4) % 4 = c) := fun h => e (key.2 h)
    rw [if_neg e]
    by_cases e2 : t % 4 < r ∨ (t % 4 = r ∧ (t / 4 + 4 - t % 4) % 4 < c)
    · rw [if_pos e2, if_pos (by omega)]
    · rw [if_neg e2, if_neg (by omega)]
theorem thr_row (x : Nat → Nat) (r t : Nat) (h : t < 16) : thr x r 4 t = thr x (r + 1) 0 t := by
  unfold thr
  by_cases e : t % 4 < r + 1
  · rw [if_pos (by omega), if_pos (by omega)]
  · rw [if_neg (by omega), if_neg (by omega)]

set_option maxRecDepth 100000 in
set_option maxHeartbeats 8000000 in
theorem aesunround_any (b k : Nat → Nat) (last : Bool) (w : World) (hb : Aes.B8 b) (hk : Aes.B8 k) : Calls Try.prog 38 #[.agg (arr .u8 16 b), .agg (arr .u8 16 k), .bool last] w fun e w' => e = .returned (.agg (arr .u8 16 (Aes.unround b k last))) ∧ Below w.heap.size w w' := by
  have hsz := arr_size .u8 16 b
  have hsz2 := arr_size .u8 16 k
  have HX := Lib.hid (Aes.xor_b8 hb hk)
  have HB := Lib.hid hb; clear hb
  have HK := Lib.hid hk; clear hk
  obtain ⟨U, hU⟩ : ∃ U, U = Aes.unround b k last := ⟨_, rfl⟩
  rw [← hU]
  have HU := Lib.hid hU; clear hU
  cases last
  all_goals
    go_enter Try.func38, Try.ntmps38
    go_upto_region 1 with fail
    generalize hW : ((World.alloc _ _).alloc _ : World) = W
    have INV : UF b w W ∧ isArr W (w.heap.size + 1) 22 .u8 16 k := by
      rw [← hW]
      have z1 : w.heap.size + 1 = (w.alloc (Obj.cells (arr IntKind.u8 16 b) 22)).heap.size := by simp
      have z2 : w.heap.size + 2 = ((w.alloc (Obj.cells (arr IntKind.u8 16 b) 22)).alloc (Obj.cells (arr IntKind.u8 16 k) 22)).heap.size := by simp
      refine ⟨⟨(((Below.refl _ _).alloc (Nat.le_refl _) _).alloc (by simp) _).alloc (by simp; omega) _, ?_, ?_⟩, ?_⟩
      · exact ((isArr_new w _ _ _ _).alloc _).alloc _
      · rw [z2]; first | exact zero16 | exact zero16r
      · rw [z1]; exact (isArr_new _ _ _ _ _).alloc _
    have k1 := INV.1.2.1
    have k2 := INV.2
    have I0 := Lib.hid INV.1
    clear hW INV
    go_upto_region 2 with (first | refine wpList_load_row rfl _ _ rfl w.heap.size rfl _ _ (0, 0) _ k1 rfl rfl (info16 _) ?_ | refine wpList_load_row rfl _ _ rfl (w.heap.size + 1) rfl _ _ (0, 0) _ k2 rfl rfl (info16 _) ?_ | (go_at_call 23; refine (aesxor_any _ _ _ HB.out HK.out).mono ?_; rintro e w5 ⟨rfl, hb5⟩; have M5 := Lib.hid (I0.out.below hb5); have k7 := M5.out.2.1; clear hb5) | (refine wpList_store_row rfl _ _ _ rfl w.heap.size _ rfl rfl _ _ k7 (info16 _) ((arr_size _ _ _).trans (arr_size _ _ _).symm) (arr_one _ _ _) ?_; have M6 := Lib.hid (M5.out.row (z := Aes.xor b k)); clear k7; generalize World.setRow _ w.heap.size _ = V at M6 ⊢))
    clear k1 k2 I0 M5
  · have k1 := M6.out.2.1
    go_upto_region 4 with (first | refine wpList_load_row rfl _ _ rfl w.heap.size rfl _ _ (0, 0) _ k1 rfl rfl (info16 _) ?_ | (go_at_call 42; refine (mix_back _ _ HX.out).mono ?_; rintro e w2 ⟨rfl, hb2⟩; have M7 := Lib.hid (M6.out.below hb2); have k2 := M7.out.2.1; clear hb2) | (refine wpList_store_row rfl _ _ _ rfl w.heap.size _ rfl rfl _ _ k2 (info16 _) ((arr_size _ _ _).trans (arr_size _ _ _).symm) (arr_one _ _ _) ?_; have M := Lib.hid (M7.out.row (z := Aes.mx Aes.unmN (Aes.xor b k))); clear k1 k2 M7; generalize World.setRow _ w.heap.size _ = V2 at M ⊢))
    have HY := Lib.hid (Aes.mx_b8 (n := Aes.unmN) HX.out)
    have HE : Hid (U = Aes.usr (Aes.mx Aes.unmN (Aes.xor b k))) := Lib.hid (by rw [HU.out]; unfold Aes.unround; rw [if_neg (by decide)])
    clear M6 HU HX HB HK
    generalize Aes.mx Aes.unmN (Aes.xor b k) = Y at *
    obtain ⟨O, rfl⟩ : ∃ O : World, O = V2 := ⟨_, rfl⟩
    have hz : w.heap.size + 3 ≤ O.heap.size := by have := M.out.2.2.lt; omega
    go_upto_region 5 with fail
    have hU0 : ∀ o : Obj, UF Y w (O.alloc o) := fun o => M.out.below ((Below.refl _ _).alloc (Nat.le_refl _) _)
    have hA0 : ∀ t, t < 16 → (0 : Nat) = thr (Aes.usr Y) 0 0 t := fun t _ => by unfold thr; rw [if_neg (by omega)]
    generalize hW : World.alloc O _ = W2
    have hI : UI Y (thr (Aes.usr Y) 0 0) O.heap.size w W2 := by
      rw [← hW]
      exact ⟨hU0 _, by first | exact zero16.congr hA0 | exact zero16r.congr hA0, by omega⟩
    have I1 := Lib.hid hI
    clear hW hI hU0 hA0 M
    generalize O.heap.size = g at I1 hz ⊢
    go_wp2_with fail
    go_loopw [8, 9, 18] (fun _ _ i wr => ∃ r : Nat, r ≤ 4 ∧ i = .int .i64 r ∧ UI Y (thr (Aes.usr Y) r 0) g w wr) (fun _ _ i _ => 4 - (intOf i).toNat)
    case atStart => exact ⟨0, by omega, rfl, I1.out⟩
    case round =>
      clear I1
      obtain ⟨r, hr, rfl, hm⟩ := hrel
      have HM := Lib.hid hm
      clear hm
      by_cases hlt : r < 4
      · have hd : decide ((r : Int) < 4) = true := by simp; omega
        have lr : (r : Int) < 4 := by omega
        have nr : 0 ≤ (r : Int) := by omega
        go_wp2_with fail
        go_loopw [9, 21] (fun _ i wr => ∃ c : Nat, c ≤ 4 ∧ i = .int .i64 c ∧ UI Y (thr (Aes.usr Y) r c) g w wr) (fun _ i _ => 4 - (intOf i).toNat)
        case atStart => exact ⟨0, by omega, rfl, HM.out⟩
        case round =>
          clear HM
          obtain ⟨c, hc, rfl, hm⟩ := hrel
          by_cases hlc : c < 4
          · have hdc : decide ((c : Int) < 4) = true := by simp; omega
            have lc : (c : Int) < 4 := by omega
            have nc : 0 ≤ (c : Int) := by omega
            have cb := hm.1.2.1.cell (i := r + 4 * c) (by omega)
            have cm := hm.2.1.cell (i := r + 4 * ((c + r) % 4)) (by omega)
            have fm := hm.2.1.frozen (r + 4 * ((c + r) % 4))
            have hv : Fld.usb (Y (r + 4 * c)) = Aes.usr Y (r + 4 * ((c + r) % 4)) := by
              have key := (thr_at r hlt c hlc (r + 4 * ((c + r) % 4)) (by omega)).1 rfl
              unfold Aes.usr
              rw [key.2, key.1]
            have J := Lib.hid (hm.set (r + 4 * ((c + r) % 4)) (Fld.usb (Y (r + 4 * c))) (z := thr (Aes.usr Y) r (c + 1)) (fun t ht => by rw [hv]; exact thr_next _ _ _ hlt hlc t ht))
            have hy := HY.out (r + 4 * c)
            clear hm hv
            generalize Y (r + 4 * c) = y at cb J hy
            go_wp2_with (go_at_call 46; refine (unsub_any _ _ (by omega)).mono ?_; rintro e w' ⟨rfl, rfl⟩; rw [Int.toNat_natCast])
            go_roundw
            case rel => exact ⟨c + 1, by omega, by go_num, J.out⟩
            case measure => simp [intOf]; omega
          · obtain rfl : c = 4 := by omega
            have hd4 : decide (((4 : Nat) : Int) < 4) = false := by decide
            have HM := Lib.hid (hm.congr (fun t ht => thr_row _ _ t ht))
            clear hm hlc
            go_wp2_with fail
            go_roundw
            case rel => exact ⟨r + 1, by omega, by go_num, HM.out⟩
            case measure => simp [intOf]; omega
      · obtain rfl : r = 4 := by omega
        have hd : decide (((4 : Nat) : Int) < 4) = false := by decide
        have k1 : isArr wr g 22 .u8 16 U := HM.out.2.1.congr fun t _ => by rw [HE.out]; unfold thr; rw [if_pos (by omega)]
        have k7 := HM.out.1.2.2
        clear hlt
        go_wp2_with (first | refine wpList_load_row rfl _ _ rfl g rfl _ _ (0, 0) _ k1 rfl rfl (info16 _) ?_ | (refine wpList_store_row rfl _ _ _ rfl (w.heap.size + 2) _ rfl rfl _ _ k7 (info16 _) ((arr_size _ _ _).trans (arr_size _ _ _).symm) (arr_one _ _ _) ?_))
        exact bodyPost_ret (results_cell_row rfl _ _ (w.heap.size + 2) _ _ (0, 0) _ rfl (setRow_heap _ (w.heap.size + 2) _ _ _ (0, 0) k7) rfl rfl (info16 _)) rfl ⟨rfl, below_setRow HM.out.1.1 (by omega) _⟩
  · have M := M6
    go_upto_region 4 with fail
    have HY := HX
    have HE : Hid (U = Aes.usr (Aes.xor b k)) := Lib.hid (by rw [HU.out]; unfold Aes.unround; rw [if_pos rfl])
    clear M6 HU HX HB HK
    generalize Aes.xor b k = Y at *
    obtain ⟨O, rfl⟩ : ∃ O : World, O = V := ⟨_, rfl⟩
    have hz : w.heap.size + 3 ≤ O.heap.size := by have := M.out.2.2.lt; omega
    go_upto_region 5 with fail
    have hU0 : ∀ o : Obj, UF Y w (O.alloc o) := fun o => M.out.below ((Below.refl _ _).alloc (Nat.le_refl _) _)
    have hA0 : ∀ t, t < 16 → (0 : Nat) = thr (Aes.usr Y) 0 0 t := fun t _ => by unfold thr; rw [if_neg (by omega)]
    generalize hW : World.alloc O _ = W2
    have hI : UI Y (thr (Aes.usr Y) 0 0) O.heap.size w W2 := by
      rw [← hW]
      exact ⟨hU0 _, by first | exact zero16.congr hA0 | exact zero16r.congr hA0, by omega⟩
    have I1 := Lib.hid hI
    clear hW hI hU0 hA0 M
    generalize O.heap.size = g at I1 hz ⊢
    go_wp2_with fail
    go_loopw [8, 9, 18] (fun _ _ i wr => ∃ r : Nat, r ≤ 4 ∧ i = .int .i64 r ∧ UI Y (thr (Aes.usr Y) r 0) g w wr) (fun _ _ i _ => 4 - (intOf i).toNat)
    case atStart => exact ⟨0, by omega, rfl, I1.out⟩
    case round =>
      clear I1
      obtain ⟨r, hr, rfl, hm⟩ := hrel
      have HM := Lib.hid hm
      clear hm
      by_cases hlt : r < 4
      · have hd : decide ((r : Int) < 4) = true := by simp; omega
        have lr : (r : Int) < 4 := by omega
        have nr : 0 ≤ (r : Int) := by omega
        go_wp2_with fail
        go_loopw [9, 21] (fun _ i wr => ∃ c : Nat, c ≤ 4 ∧ i = .int .i64 c ∧ UI Y (thr (Aes.usr Y) r c) g w wr) (fun _ i _ => 4 - (intOf i).toNat)
        case atStart => exact ⟨0, by omega, rfl, HM.out⟩
        case round =>
          clear HM
          obtain ⟨c, hc, rfl, hm⟩ := hrel
          by_cases hlc : c < 4
          · have hdc : decide ((c : Int) < 4) = true := by simp; omega
            have lc : (c : Int) < 4 := by omega
            have nc : 0 ≤ (c : Int) := by omega
            have cb := hm.1.2.1.cell (i := r + 4 * c) (by omega)
            have cm := hm.2.1.cell (i := r + 4 * ((c + r) % 4)) (by omega)
            have fm := hm.2.1.frozen (r + 4 * ((c + r) % 4))
            have hv : Fld.usb (Y (r + 4 * c)) = Aes.usr Y (r + 4 * ((c + r) % 4)) := by
              have key := (thr_at r hlt c hlc (r + 4 * ((c + r) % 4)) (by omega)).1 rfl
              unfold Aes.usr
              rw [key.2, key.1]
            have J := Lib.hid (hm.set (r + 4 * ((c + r) % 4)) (Fld.usb (Y (r + 4 * c))) (z := thr (Aes.usr Y) r (c + 1)) (fun t ht => by rw [hv]; exact thr_next _ _ _ hlt hlc t ht))
            have hy := HY.out (r + 4 * c)
            clear hm hv
            generalize Y (r + 4 * c) = y at cb J hy
            go_wp2_with (go_at_call 46; refine (unsub_any _ _ (by omega)).mono ?_; rintro e w' ⟨rfl, rfl⟩; rw [Int.toNat_natCast])
            go_roundw
            case rel => exact ⟨c + 1, by omega, by go_num, J.out⟩
            case measure => simp [intOf]; omega
          · obtain rfl : c = 4 := by omega
            have hd4 : decide (((4 : Nat) : Int) < 4) = false := by decide
            have HM := Lib.hid (hm.congr (fun t ht => thr_row _ _ t ht))
            clear hm hlc
            go_wp2_with fail
            go_roundw
            case rel => exact ⟨r + 1, by omega, by go_num, HM.out⟩
            case measure => simp [intOf]; omega
      · obtain rfl : r = 4 := by omega
        have hd : decide (((4 : Nat) : Int) < 4) = false := by decide
        have k1 : isArr wr g 22 .u8 16 U := HM.out.2.1.congr fun t _ => by rw [HE.out]; unfold thr; rw [if_pos (by omega)]
        have k7 := HM.out.1.2.2
        clear hlt
        go_wp2_with (first | refine wpList_load_row rfl _ _ rfl g rfl _ _ (0, 0) _ k1 rfl rfl (info16 _) ?_ | (refine wpList_store_row rfl _ _ _ rfl (w.heap.size + 2) _ rfl rfl _ _ k7 (info16 _) ((arr_size _ _ _).trans (arr_size _ _ _).symm) (arr_one _ _ _) ?_))
        exact bodyPost_ret (results_cell_row rfl _ _ (w.heap.size + 2) _ _ (0, 0) _ rfl (setRow_heap _ (w.heap.size + 2) _ _ _ (0, 0) k7) rfl rfl (info16 _)) rfl ⟨rfl, below_setRow HM.out.1.1 (by omega) _⟩
end Go.Proofs.Ytibgmoapkionjaa
