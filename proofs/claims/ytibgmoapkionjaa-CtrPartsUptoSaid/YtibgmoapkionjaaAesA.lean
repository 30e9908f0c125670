/- aes.Xor: walked. -/
import Derived.Test.YtibgmoapkionjaaAesMath
import Derived.Test.YtibgmoapkionjaaArr
import Derived.StillTailTactics
import Derived.Deep.Cut
import Derived.Laws.CopyOwn
import Derived.Laws.Rows
namespace Go.Proofs.Ytibgmoapkionjaa
open Go.RowKit Go.Deep

theorem info16 (f : Nat → Nat) : ((Try.prog).info? 22).map (·.size) = some (arr .u8 16 f).size := by rw [arr_size]; rfl
/-- The first j of f carry g. -/
def part16 (f g : Nat → Nat) (j t : Nat) : Nat := if t < j then g t else f t
def XI (f g : Nat → Nat) (w wr : World) (j : Nat) : Prop :=
  Below w.heap.size w wr ∧ isArr wr w.heap.size 22 .u8 16 (part16 f (Aes.xor f g) j) ∧ isArr wr (w.heap.size + 1) 22 .u8 16 g ∧ isArr wr (w.heap.size + 2) 22 .u8 16 (fun _ => 0)
theorem part16_next (f g : Nat → Nat) (j : Nat) (t : Nat) : (if t = j then g j else part16 f g j t) = part16 f g (j + 1) t := by
  unfold part16
  by_cases e : t = j
  · subst e; simp
  · rw [if_neg e]
    by_cases e2 : t < j
    · rw [if_pos e2, if_pos (by omega)]
    · rw [if_neg e2, if_neg (by omega)]
theorem XI.set {f g : Nat → Nat} {w wr : World} {j : Nat} (h : XI f g w wr j) (n : Nat) : XI f g w ((wr.drewN n).setCell ⟨w.heap.size, j, none⟩ (.int .u8 ((f j ^^^ g j : Nat) : Int))) (j + 1) :=
  ⟨below_set (below_drewN h.1 n) (Nat.le_refl _) _ _, ((h.2.1.drewN n).set j _).congr fun t _ => part16_next f (Aes.xor f g) j t, (h.2.2.1.drewN n).setOther (by omega) _ _, (h.2.2.2.drewN n).setOther (by omega) _ _⟩
theorem zeros_get (k : IntKind) (n i : Nat) (h : i < n) : (Array.replicate n (Value.int k 0))[i]? = some (.int k ((0 : Nat) : Int)) := by simp [h]

set_option maxRecDepth 100000 in
set_option maxHeartbeats 1000000 in
theorem aesxor_any (f g : Nat → Nat) (w : World) (hf : Aes.B8 f) (hg : Aes.B8 g) : Calls Try.prog 23 #[.agg (arr .u8 16 f), .agg (arr .u8 16 g)] w fun e w' => e = .returned (.agg (arr .u8 16 (Aes.xor f g))) ∧ Below w.heap.size w w' := by
  have HF := Lib.hid hf; clear hf
  have HG := Lib.hid hg; clear hg
  have hsz := arr_size .u8 16 f
  have hsz2 := arr_size .u8 16 g
  go_enter Try.func23, Try.ntmps23
  go_upto_region 1 with fail
  generalize hW : ((World.alloc _ _).alloc _ : World) = W
  have INV : XI f g w W 0 := by
    rw [← hW]
    have z1 : w.heap.size + 1 = (w.alloc (Obj.cells (arr IntKind.u8 16 f) 22)).heap.size := by simp
    have z2 : w.heap.size + 2 = ((w.alloc (Obj.cells (arr IntKind.u8 16 f) 22)).alloc (Obj.cells (arr IntKind.u8 16 g) 22)).heap.size := by simp
    refine ⟨(((Below.refl _ _).alloc (Nat.le_refl _) _).alloc (by simp) _).alloc (by simp; omega) _, ?_, ?_, ?_⟩
    · exact (((isArr_new w _ _ _ _).alloc _).alloc _).congr fun i _ => by unfold part16; rw [if_neg (Nat.not_lt_zero _)]
    · rw [z1]; exact (isArr_new _ _ _ _ _).alloc _
    · rw [z2]; exact isArr_lit _ _ _ _ _ _ (by first | rfl | simp) (fun i hi => by first | exact zeros_get _ _ _ hi | (obtain rfl | rfl | rfl | rfl | rfl | rfl | rfl | rfl | rfl | rfl | rfl | rfl | rfl | rfl | rfl | rfl : i = 0 ∨ i = 1 ∨ i = 2 ∨ i = 3 ∨ i = 4 ∨ i = 5 ∨ i = 6 ∨ i = 7 ∨ i = 8 ∨ i = 9 ∨ i = 10 ∨ i = 11 ∨ i = 12 ∨ i = 13 ∨ i = 14 ∨ i = 15 := by omega) <;> rfl)
  have I0 := Lib.hid INV
  clear hW INV
  go_wp2_with fail
  go_loopw [5, 6] (fun _ i wr => ∃ j : Nat, j ≤ 16 ∧ i = .int .i64 j ∧ XI f g w wr j) (fun _ i _ => 16 - (intOf i).toNat)
  case atStart => exact ⟨0, by omega, rfl, I0.out⟩
  case round =>
    clear I0
    obtain ⟨j, hj, rfl, hinv⟩ := hrel
    by_cases hlt : j < 16
    · have hd : decide ((j : Int) < 16) = true := by simp; omega
      have c0 := hinv.2.1.cell (i := j) hlt
      have f0 := hinv.2.1.frozen j
      have c1 := hinv.2.2.1.cell (i := j) hlt
      rw [show part16 f (Aes.xor f g) j j = f j by unfold part16; rw [if_neg (Nat.lt_irrefl _)]] at c0
      have I7 := Lib.hid (fun n => hinv.set n)
      have hx := u8_xor_nat _ _ (HF.out j) (HG.out j)
      clear hinv
      generalize f j = p at c0 I7 hx
      generalize g j = q at c1 I7 hx
      have lm : (j : Int) < 16 := by omega
      have nm : 0 ≤ (j : Int) := by omega
      have HX := Lib.hid hx; clear hx
      go_wp2_with fail
      go_still_tail 8, (by kernel_rfl)
      change wpList _ _ _ _ _ (wr.drewN 1)
      have c2 : (wr.drewN 1).cell? ⟨w.heap.size, j, none⟩ = some (.int .u8 (p : Int)) := c0
      have f2 : (wr.drewN 1).frozen? ⟨w.heap.size, j, none⟩ = false := f0
      have I8 := Lib.hid (I7.out 1)
      clear I7 c0 f0 c1
      generalize wr.drewN 1 = wd at c2 f2 I8 ⊢
      rw [HX.out]
      go_wp2_with fail
      go_roundw
      case rel => exact ⟨j + 1, by omega, by go_num, I8.out⟩
      case measure => simp [intOf]; omega
    · obtain rfl : j = 16 := by omega
      have hd : decide (((16 : Nat) : Int) < 16) = false := by decide
      have k1 := hinv.1
      have k2 : isArr wr w.heap.size 22 .u8 16 (Aes.xor f g) := hinv.2.1.congr fun t ht => by unfold part16; rw [if_pos ht]
      have k3 := hinv.2.2.2
      clear hinv hlt
      go_wp2_with (first | refine wpList_load_row rfl _ _ rfl w.heap.size rfl _ _ (0, 0) _ k2 rfl rfl (info16 _) ?_ | (refine wpList_store_row rfl _ _ _ rfl (w.heap.size + 2) _ rfl rfl _ _ k3 (info16 _) ((arr_size _ _ _).trans (arr_size _ _ _).symm) (arr_one _ _ _) ?_))
      exact bodyPost_ret (results_cell_row rfl _ _ (w.heap.size + 2) _ _ (0, 0) _ rfl (setRow_heap wr (w.heap.size + 2) _ _ _ (0, 0) k3) rfl rfl (info16 _)) rfl ⟨rfl, below_setRow k1 (by omega) _⟩
end Go.Proofs.Ytibgmoapkionjaa
