/- The reference of layer 8: Block, Stream: walked. -/
import Derived.Test.YtibgmoapkionjaaCtrD
import Derived.Test.YtibgmoapkionjaaAesM
namespace Go.Proofs.Ytibgmoapkionjaa
open Go.RowKit Go.Deep

def Ctr.rh (nonce : Nat → Nat) (i m p : Nat) : Nat := if p < m then nonce p else if 15 - p < m then i / 256 ^ (15 - p) % 256 else 0
theorem Ctr.rh_all (nonce : Nat → Nat) (i p : Nat) (hp : p < 16) : Ctr.rh nonce i 8 p = Ctr.blk nonce i p := by
  unfold Ctr.rh Ctr.blk
  by_cases h : p < 8
  · rw [if_pos h, if_pos h]
  · rw [if_neg h, if_neg h, if_pos (by omega)]
theorem Ctr.rh_next (nonce : Nat → Nat) (i m p : Nat) (hm : m < 8) (hp : p < 16) : (if p = 15 - m then i / 256 ^ m % 256 else if p = m then nonce m else Ctr.rh nonce i m p) = Ctr.rh nonce i (m + 1) p := by
  unfold Ctr.rh
  by_cases h : p = 15 - m
  · rw [if_pos h, if_neg (by omega), if_pos (by omega), show 15 - p = m by omega]
  · rw [if_neg h]
    by_cases h2 : p = m
    · rw [if_pos h2, if_pos (by omega), h2]
    · rw [if_neg h2]
      by_cases h3 : p < m
      · rw [if_pos h3, if_pos (by omega)]
      · have e1 : ¬ p < m + 1 := by omega
        rw [if_neg h3, if_neg e1]
        by_cases h4 : 15 - p < m
        · have e2 : 15 - p < m + 1 := by omega
          rw [if_pos h4, if_pos e2]
        · have e2 : ¬ 15 - p < m + 1 := by omega
          rw [if_neg h4, if_neg e2]
/-- The boxes of the reference's Block. -/
def RKI (key nonce x : Nat → Nat) (w wr : World) : Prop :=
  Below w.heap.size w wr ∧ isArr wr w.heap.size 22 .u8 16 key ∧ isArr wr (w.heap.size + 1) 40 .u8 8 nonce ∧ isArr wr (w.heap.size + 2) 28 .u8 256 Fld.sb ∧ isArr wr (w.heap.size + 3) 22 .u8 16 (fun _ => 0) ∧ isArr wr (w.heap.size + 4) 22 .u8 16 x
theorem RKI.congr {key nonce x y : Nat → Nat} {w wr : World} (h : RKI key nonce x w wr) (e : ∀ t, t < 16 → x t = y t) : RKI key nonce y w wr := ⟨h.1, h.2.1, h.2.2.1, h.2.2.2.1, h.2.2.2.2.1, h.2.2.2.2.2.congr e⟩
theorem RKI.set {key nonce x : Nat → Nat} {w wr : World} (h : RKI key nonce x w wr) (i v : Nat) : RKI key nonce (fun t => if t = i then v else x t) w (wr.setCell ⟨w.heap.size + 4, i, none⟩ (.int .u8 (v : Int))) :=
  ⟨below_set h.1 (by omega) _ _, h.2.1.setOther (by omega) _ _, h.2.2.1.setOther (by omega) _ _, h.2.2.2.1.setOther (by omega) _ _, h.2.2.2.2.1.setOther (by omega) _ _, h.2.2.2.2.2.set i v⟩

set_option maxRecDepth 100000 in
set_option maxHeartbeats 4000000 in
theorem refctrblock_any (key nonce : Nat → Nat) (i : Nat) (w : World) (hk : Aes.B8 key) (hn : Aes.B8 nonce) (hi : i < 18446744073709551616) :
    Calls Try.prog 35 #[.agg (arr .u8 16 key), .agg (arr .u8 8 nonce), .int .u64 (i : Int), .agg (arr .u8 256 Fld.sb)] w fun e w' => e = .returned (.agg (arr .u8 16 (Ctr.bk key nonce i))) ∧ Below w.heap.size w w' := by
  have hsz := arr_size .u8 16 key
  have hsz2 := arr_size .u8 8 nonce
  have hsz3 := arr_size .u8 256 Fld.sb
  have HK := Lib.hid hk; clear hk
  have HN := Lib.hid hn; clear hn
  go_enter Try.func35, Try.ntmps35
  go_upto_region 2 with fail
  generalize hW : (World.alloc _ _ : World) = V
  have INV : RKI key nonce (Ctr.rh nonce i 0) w V := by
    rw [← hW]
    have z1 : w.heap.size + 1 = (w.alloc (Obj.cells (arr IntKind.u8 16 key) 22)).heap.size := by simp
    have z2 : w.heap.size + 2 = ((w.alloc (Obj.cells (arr IntKind.u8 16 key) 22)).alloc (Obj.cells (arr IntKind.u8 8 nonce) 40)).heap.size := by simp
    have z3 : w.heap.size + 3 = (((w.alloc (Obj.cells (arr IntKind.u8 16 key) 22)).alloc (Obj.cells (arr IntKind.u8 8 nonce) 40)).alloc (Obj.cells (arr IntKind.u8 256 Fld.sb) 28)).heap.size := by simp
    have z4 : ∀ o : Obj, w.heap.size + 4 = ((((w.alloc (Obj.cells (arr IntKind.u8 16 key) 22)).alloc (Obj.cells (arr IntKind.u8 8 nonce) 40)).alloc (Obj.cells (arr IntKind.u8 256 Fld.sb) 28)).alloc o).heap.size := by simp
    have hz : ∀ t, t < 16 → (0 : Nat) = Ctr.rh nonce i 0 t := fun t ht => by unfold Ctr.rh; rw [if_neg (Nat.not_lt_zero _), if_neg (Nat.not_lt_zero _)]
    refine ⟨(((((Below.refl _ _).alloc (Nat.le_refl _) _).alloc (by simp) _).alloc (by simp; omega) _).alloc (by simp; omega) _).alloc (by simp; omega) _, ?_, ?_, ?_, ?_, ?_⟩
    · exact ((((isArr_new w _ _ _ _).alloc _).alloc _).alloc _).alloc _
    · rw [z1]; exact (((isArr_new _ _ _ _ _).alloc _).alloc _).alloc _
    · rw [z2]; exact ((isArr_new _ _ _ _ _).alloc _).alloc _
    · rw [z3]; first | exact zero16.alloc _ | exact zero16r.alloc _
    · rw [z4]; first | exact zero16.congr hz | exact zero16r.congr hz
  have I0 := Lib.hid INV
  clear hW INV hsz hsz2 hsz3
  go_wp2_with fail
  go_loopw [10, 2] (fun j y wr => ∃ m : Nat, m ≤ 8 ∧ j = .int .i64 (m : Int) ∧ y = .int .u64 ((i / 256 ^ m : Nat) : Int) ∧ RKI key nonce (Ctr.rh nonce i m) w wr) (fun j _ _ => 8 - (intOf j).toNat)
  case atStart => exact ⟨0, by omega, by simp, by simp, I0.out⟩
  case round =>
    clear I0
    obtain ⟨m, hm, rfl, rfl, hI⟩ := hrel
    have HI := Lib.hid hI
    by_cases hlt : m < 8
    · have hd : decide ((m : Int) < 8) = true := by simp; omega
      have c1 := hI.2.2.1.cell (i := m) hlt
      have c2 := hI.2.2.2.2.2.cell (i := m) (by omega)
      have f2 := hI.2.2.2.2.2.frozen m
      have S1 := HI.out.set m (nonce m)
      have c3 := S1.2.2.2.2.2.cell (i := 15 - m) (by omega)
      have f3 := S1.2.2.2.2.2.frozen (15 - m)
      have S2 := Lib.hid ((S1.set (15 - m) (i / 256 ^ m % 256)).congr (fun t ht => Ctr.rh_next nonce i m t hlt ht))
      have hql : i / 256 ^ m < 18446744073709551616 := Nat.lt_of_le_of_lt (Nat.div_le_self _ _) hi
      have HDV := Lib.hid (show i / 256 ^ (m + 1) = i / 256 ^ m / 256 by rw [Nat.pow_succ, Nat.div_div_eq_div_mul])
      generalize Ctr.rh nonce i m m = old at c2
      generalize (if 15 - m = m then nonce m else Ctr.rh nonce i m (15 - m)) = old2 at c3
      have hnb := HN.out m
      generalize nonce m = nb at c1 S1 c3 f3 S2 hnb
      generalize i / 256 ^ m = q at hql S2 HDV ⊢
      clear hI S1
      obtain ⟨p, hp⟩ : ∃ p, p = 15 - m := ⟨_, rfl⟩
      have ep : 15 - (m : Int) = (p : Int) := by omega
      rw [← hp] at c3 f3 S2
      have hp16 : (p : Int) < 16 := by omega
      have hp0 : 8 ≤ (p : Int) := by omega
      obtain ⟨r, hr⟩ : ∃ r, r = q % 256 := ⟨_, rfl⟩
      rw [← hr] at S2
      have er : (q : Int) % 256 = (r : Int) := by omega
      have hr256 : r < 256 := by omega
      obtain ⟨q2, hq2⟩ : ∃ q2, q2 = q / 256 := ⟨_, rfl⟩
      have eq2 : (q : Int) / 256 = (q2 : Int) := by omega
      have hq64 : q2 < 18446744073709551616 := by omega
      have HQ2 := Lib.hid hq2
      have hm8 : (m : Int) < 8 := by omega
      clear hp hr hq2
      go_wp2_with fail
      go_roundw
      case rel => exact ⟨m + 1, by omega, by go_num, by rw [HDV.out, HQ2.out], S2.out⟩
      case measure => simp [intOf]; omega
    · obtain rfl : m = 8 := by omega
      have hd : decide (((8 : Nat) : Int) < 8) = false := by decide
      have I8 := Lib.hid (HI.out.congr (fun t ht => Ctr.rh_all nonce i t ht))
      have k1 := hI.2.1
      have k2 := I8.out.2.2.2.2.2
      have k3 := hI.2.2.2.1
      clear hI HI
      go_wp2_with (first | refine wpList_load_row rfl _ _ rfl w.heap.size rfl _ _ (0, 0) _ k1 rfl rfl (info16 _) ?_ | refine wpList_load_row rfl _ _ rfl (w.heap.size + 4) rfl _ _ (0, 0) _ k2 rfl rfl (info16 _) ?_ | refine wpList_load_row rfl _ _ rfl (w.heap.size + 2) rfl _ _ (0, 0) _ k3 rfl rfl (info256 _) ?_ | (go_at_call 16; refine (refencrypt_any _ _ _ HK.out (Ctr.blk_b8 HN.out i)).mono ?_; rintro e w9 ⟨rfl, hb9⟩; have k9 := I8.out.2.2.2.2.1.below hb9 I8.out.2.2.2.2.1.lt; have B9 := Lib.hid (I8.out.1.trans (hb9.mono I8.out.1.size)); clear hb9) | (refine wpList_store_row rfl _ _ _ rfl (w.heap.size + 3) _ rfl rfl _ _ k9 (info16 _) ((arr_size _ _ _).trans (arr_size _ _ _).symm) (arr_one _ _ _) ?_))
      exact bodyPost_ret (results_cell_row rfl _ _ (w.heap.size + 3) _ _ (0, 0) _ rfl (setRow_heap _ (w.heap.size + 3) _ _ _ (0, 0) k9) rfl rfl (info16 _)) rfl ⟨rfl, below_setRow B9.out (by omega) _⟩
end Go.Proofs.Ytibgmoapkionjaa
