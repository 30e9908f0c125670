/- aes.mix: walked. -/
import Derived.Test.YtibgmoapkionjaaAesB
namespace Go.Proofs.Ytibgmoapkionjaa
open Go.RowKit Go.Deep

theorem zero_lit {w : World} (t : TypeId) (cs : Array Value) (n : Nat) (hs : cs.size = n) (h : ∀ i, i < n → cs[i]? = some (.int .u8 0)) : isArr (w.alloc (.cells cs t)) w.heap.size t .u8 n (fun _ => 0) := isArr_lit _ _ _ _ _ _ hs h
theorem sixteen (P : Nat → Prop) (h0 : P 0) (h1 : P 1) (h2 : P 2) (h3 : P 3) (h4 : P 4) (h5 : P 5) (h6 : P 6) (h7 : P 7) (h8 : P 8) (h9 : P 9) (h10 : P 10) (h11 : P 11) (h12 : P 12) (h13 : P 13) (h14 : P 14) (h15 : P 15) (i : Nat) (hi : i < 16) : P i := by
  obtain rfl | rfl | rfl | rfl | rfl | rfl | rfl | rfl | rfl | rfl | rfl | rfl | rfl | rfl | rfl | rfl : i = 0 ∨ i = 1 ∨ i = 2 ∨ i = 3 ∨ i = 4 ∨ i = 5 ∨ i = 6 ∨ i = 7 ∨ i = 8 ∨ i = 9 ∨ i = 10 ∨ i = 11 ∨ i = 12 ∨ i = 13 ∨ i = 14 ∨ i = 15 := by omega
  all_goals assumption
theorem zero16 {w : World} : isArr (w.alloc (.cells #[.int .u8 0, .int .u8 0, .int .u8 0, .int .u8 0, .int .u8 0, .int .u8 0, .int .u8 0, .int .u8 0, .int .u8 0, .int .u8 0, .int .u8 0, .int .u8 0, .int .u8 0, .int .u8 0, .int .u8 0, .int .u8 0] 22)) w.heap.size 22 .u8 16 (fun _ => 0) :=
  zero_lit _ _ _ rfl (sixteen _ rfl rfl rfl rfl rfl rfl rfl rfl rfl rfl rfl rfl rfl rfl rfl rfl)
theorem zero16r {w : World} : isArr (w.alloc (.cells (Array.replicate 16 (.int .u8 0)) 22)) w.heap.size 22 .u8 16 (fun _ => 0) :=
  zero_lit _ _ _ (by simp) (fun i hi => by simp [hi])

/-- The state of mix: the blocks of the arguments, of the result and of what is mixed. -/
def MI (n b x : Nat → Nat) (w wr : World) : Prop :=
  Below w.heap.size w wr ∧ isArr wr w.heap.size 22 .u8 16 b ∧ isArr wr (w.heap.size + 1) 62 .u8 4 n ∧ isArr wr (w.heap.size + 2) 22 .u8 16 (fun _ => 0) ∧ isArr wr (w.heap.size + 3) 22 .u8 16 x
theorem MI.step {n b x y : Nat → Nat} {w wr w' : World} (h : MI n b x w wr) (k : wr.grownBy w' (some (w.heap.size + 3))) (hy : isArr w' (w.heap.size + 3) 22 .u8 16 y) : MI n b y w w' :=
  ⟨below_only h.1 (Nat.le_refl _) k (fun g hg => by injection hg with hg; omega), h.2.1.of_block (k.block _ h.2.1.lt (by simp)), h.2.2.1.of_block (k.block _ h.2.2.1.lt (by simp)), h.2.2.2.1.of_block (k.block _ h.2.2.2.1.lt (by simp)), hy⟩

set_option maxRecDepth 100000 in
set_option maxHeartbeats 2000000 in
theorem aesmix_any (n b : Nat → Nat) (w : World) (hn : Aes.B8 n) (hb : Aes.B8 b) : Calls Try.prog 42 #[.agg (arr .u8 16 b), .agg (arr .u8 4 n)] w fun e w' => e = .returned (.agg (arr .u8 16 (Aes.mx n b))) ∧ Below w.heap.size w w' := by
  have hsz := arr_size .u8 16 b
  have hsz2 := arr_size .u8 4 n
  go_enter Try.func42, Try.ntmps42
  go_upto_region 2 with fail
  generalize hW : (((World.alloc _ _).alloc _).alloc _ : World) = W
  have INV : MI n b (fun t => if t < 4 * 0 then Aes.mx n b t else 0) w W := by
    rw [← hW]
    have z1 : w.heap.size + 1 = (w.alloc (Obj.cells (arr IntKind.u8 16 b) 22)).heap.size := by simp
    have z2 : w.heap.size + 2 = ((w.alloc (Obj.cells (arr IntKind.u8 16 b) 22)).alloc (Obj.cells (arr IntKind.u8 4 n) 62)).heap.size := by simp
    refine ⟨((((Below.refl _ _).alloc (Nat.le_refl _) _).alloc (by simp) _).alloc (by simp; omega) _).alloc (by simp; omega) _, ?_, ?_, ?_, ?_⟩
    · exact (((isArr_new w _ _ _ _).alloc _).alloc _).alloc _
    · rw [z1]; exact ((isArr_new _ _ _ _ _).alloc _).alloc _
    · rw [z2]; first | exact zero16.alloc _ | exact zero16r.alloc _
    · have z3 : ∀ o : Obj, w.heap.size + 3 = (((w.alloc (Obj.cells (arr IntKind.u8 16 b) 22)).alloc (Obj.cells (arr IntKind.u8 4 n) 62)).alloc o).heap.size := fun _ => by simp
      rw [z3]; first | exact zero16.congr fun t _ => (if_neg (by omega)).symm | exact zero16r.congr fun t _ => (if_neg (by omega)).symm
  have I0 := Lib.hid INV
  clear hW INV
  have HN := Lib.hid hn; clear hn
  have HB := Lib.hid hb; clear hb
  go_wp2_with fail
  go_loopw [7, 9] (fun _ i wr => ∃ c : Nat, c ≤ 4 ∧ i = .int .i64 c ∧ MI n b (fun t => if t < 4 * c then Aes.mx n b t else 0) w wr) (fun _ i _ => 4 - (intOf i).toNat)
  case atStart => exact ⟨0, by omega, rfl, I0.out⟩
  case round =>
    clear I0
    obtain ⟨c, hc, rfl, hm⟩ := hrel
    have HM := Lib.hid hm
    clear hm
    by_cases hlt : c < 4
    · have hd : decide ((c : Int) < 4) = true := by simp; omega
      go_wp2_with fail
      refine (mixcol_any n b _ _ _ _ c _ hlt HN.out HB.out HM.out.2.1 HM.out.2.2.1 HM.out.2.2.2.2 (by omega) (by omega)).mono ?_
      rintro e w2 ⟨rfl, ha, hg⟩
      have hI := HM.out.step hg (ha.congr (g := fun t => if t < 4 * (c + 1) then Aes.mx n b t else 0) fun t _ => by
        unfold colP
        dsimp only
        by_cases e1 : t < 4 * c
        · rw [if_neg (by omega), if_pos e1, if_pos (by omega)]
        · by_cases e2 : t < 4 * c + 4
          · rw [if_pos (by omega), if_pos (by omega)]
          · rw [if_neg (by omega), if_neg e1, if_neg (by omega)])
      have HI := Lib.hid hI
      clear hI ha hg
      go_wp2_with fail
      go_roundw
      case rel => exact ⟨c + 1, by omega, by go_num, HI.out⟩
      case measure => simp [intOf]; omega
    · obtain rfl : c = 4 := by omega
      have hd : decide (((4 : Nat) : Int) < 4) = false := by decide
      have k5 : isArr wr (w.heap.size + 3) 22 .u8 16 (Aes.mx n b) := HM.out.2.2.2.2.congr fun t ht => if_pos (by omega)
      have k3 := HM.out.2.2.2.1
      clear hlt
      go_wp2_with (first | refine wpList_load_row rfl _ _ rfl (w.heap.size + 3) rfl _ _ (0, 0) _ k5 rfl rfl (info16 _) ?_ | (refine wpList_store_row rfl _ _ _ rfl (w.heap.size + 2) _ rfl rfl _ _ k3 (info16 _) ((arr_size _ _ _).trans (arr_size _ _ _).symm) (arr_one _ _ _) ?_))
      exact bodyPost_ret (results_cell_row rfl _ _ (w.heap.size + 2) _ _ (0, 0) _ rfl (setRow_heap wr (w.heap.size + 2) _ _ _ (0, 0) k3) rfl rfl (info16 _)) rfl ⟨rfl, below_setRow HM.out.1 (by omega) _⟩
end Go.Proofs.Ytibgmoapkionjaa
