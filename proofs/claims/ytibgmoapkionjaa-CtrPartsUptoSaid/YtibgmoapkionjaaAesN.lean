/- bytes16: walked. -/
import Derived.Test.YtibgmoapkionjaaAesM
import Derived.Test.YtibgmoapkionjaaSpreadD
import Derived.Laws.Cover3
namespace Go.Proofs.Ytibgmoapkionjaa
open Go.RowKit Go.Deep

def b16 (m i : Nat) : Nat := (Spr.l m 16).getD i 0
set_option maxRecDepth 100000 in
set_option maxHeartbeats 1000000 in
theorem bytes16_any (m : Nat) (w : World) (hs : m < 18446744073709551616) : Calls Try.prog 15 #[.int .u64 (m : Int)] w fun e w' => e = .returned (.agg (arr .u8 16 (b16 m))) ∧ Below w.heap.size w w' ∧ Aes.B8 (b16 m) := by
  have hat : ∀ (ad : Option Addr) cp wx, (Instr.arrayAt 22 (.slice ad 16 cp)).run Try.prog wx = .ok (.pointer ad) wx := fun ad cp wx => run_arrayAt wx 22 5 16 ad 16 cp Try.underlying22 (Nat.le_refl _)
  go_enter Try.func15, Try.ntmps15
  go_upto_region 1 with fail
  generalize hW : (World.alloc _ _ : World) = W
  have INV : Below w.heap.size w W ∧ isArr W w.heap.size 22 .u8 16 (fun _ => 0) := by
    rw [← hW]; exact ⟨(Below.refl _ _).alloc (Nat.le_refl _) _, by first | exact zero16 | exact zero16r⟩
  have I0 := Lib.hid INV
  clear hW INV
  go_wp2_with fail
  refine (spread_det m 16 _ hs (by omega)).mono ?_
  rintro e w2 ⟨v, rfl, ho, hb2⟩
  have hln := Spr.l_length m 16
  have hB : Aes.B8 (b16 m) := fun i => ho.1.get i
  rcases ho.bs.cases with ⟨h', hnil⟩ | ⟨g, off, gc, rfl, hc1, hc2, hc3, hc⟩
  · rw [hnil] at hln; simp at hln
  rw [hln] at hc1 ⊢
  have HC := Lib.hid (cells_of (o := 0) (n := 16) hc (by omega))
  have hf : (fun i => (Spr.l m 16).getD (0 + i) 0) = b16 m := by funext i; rw [Nat.zero_add]; rfl
  rw [hf, Nat.add_zero] at HC
  have k1 := I0.out.2.below hb2 I0.out.2.lt
  have B2 := Lib.hid (I0.out.1.trans (hb2.mono I0.out.1.size))
  clear hf hc hln ho hb2 hc1 hc2 hc3
  go_wp2_with (first | refine wpList_load_arr rfl _ _ rfl ⟨g, off, none⟩ rfl _ _ HC.out rfl rfl (info16 _) ?_ | (refine wpList_store_row rfl _ _ _ rfl w.heap.size _ rfl rfl _ _ k1 (info16 _) ((arr_size _ _ _).trans (arr_size _ _ _).symm) (arr_one _ _ _) ?_))
  exact bodyPost_ret (results_cell_row rfl _ _ w.heap.size _ _ (0, 0) _ rfl (setRow_heap _ w.heap.size _ _ _ (0, 0) k1) rfl rfl (info16 _)) rfl ⟨rfl, below_setRow B2.out (Nat.le_refl _) _, hB⟩
end Go.Proofs.Ytibgmoapkionjaa
