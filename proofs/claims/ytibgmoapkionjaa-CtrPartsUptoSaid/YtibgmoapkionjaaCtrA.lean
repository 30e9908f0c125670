/- ctr.Block: walked. -/
import Derived.Test.YtibgmoapkionjaaAesG
import Derived.Test.YtibgmoapkionjaaRegB
import Derived.Test.YtibgmoapkionjaaCopy
import Derived.Test.YtibgmoapkionjaaCtrMath
namespace Go.Proofs.Ytibgmoapkionjaa
open Go.RowKit Go.Deep

theorem info8 (f : Nat → Nat) : ((Try.prog).info? 40).map (·.size) = some (arr .u8 8 f).size := by rw [arr_size]; rfl
/-- The block after m bytes of the number have been laid. -/
def Ctr.half (nonce : Nat → Nat) (i m k : Nat) : Nat := if k < 8 then nonce k else if 15 - k < m then i / 256 ^ (15 - k) % 256 else 0
theorem Ctr.half_all (nonce : Nat → Nat) (i k : Nat) (hk : k < 16) : Ctr.half nonce i 8 k = Ctr.blk nonce i k := by
  unfold Ctr.half Ctr.blk
  by_cases h : k < 8
  · rw [if_pos h, if_pos h]
  · rw [if_neg h, if_neg h, if_pos (by omega)]
theorem Ctr.half_next (nonce : Nat → Nat) (i m k : Nat) (hm : m < 8) (hk : k < 16) : (if k = 15 - m then i / 256 ^ m % 256 else Ctr.half nonce i m k) = Ctr.half nonce i (m + 1) k := by
  unfold Ctr.half
  by_cases h : k = 15 - m
  · rw [if_pos h, if_neg (by omega), if_pos (by omega), show 15 - k = m by omega]
  · rw [if_neg h]
    by_cases h8 : k < 8
    · rw [if_pos h8, if_pos h8]
    · rw [if_neg h8, if_neg h8]
      by_cases h2 : 15 - k < m
      · rw [if_pos h2, if_pos (by omega)]
      · rw [if_neg h2, if_neg (by omega)]
/-- The boxes of the key and of the nonce, the result's, the block's. -/
def CKI (key nonce x : Nat → Nat) (w wr : World) : Prop :=
  Below w.heap.size w wr ∧ isArr wr w.heap.size 22 .u8 16 key ∧ isArr wr (w.heap.size + 1) 40 .u8 8 nonce ∧ isArr wr (w.heap.size + 2) 22 .u8 16 (fun _ => 0) ∧ isArr wr (w.heap.size + 3) 22 .u8 16 x
theorem CKI.congr {key nonce x y : Nat → Nat} {w wr : World} (h : CKI key nonce x w wr) (e : ∀ t, t < 16 → x t = y t) : CKI key nonce y w wr := ⟨h.1, h.2.1, h.2.2.1, h.2.2.2.1, h.2.2.2.2.congr e⟩
theorem CKI.set {key nonce x y : Nat → Nat} {w wr : World} (h : CKI key nonce x w wr) (i v : Nat) (hy : ∀ t, t < 16 → (if t = i then v else x t) = y t) : CKI key nonce y w (wr.setCell ⟨w.heap.size + 3, i, none⟩ (.int .u8 (v : Int))) :=
  ⟨below_set h.1 (by omega) _ _, h.2.1.setOther (by omega) _ _, h.2.2.1.setOther (by omega) _ _, h.2.2.2.1.setOther (by omega) _ _, (h.2.2.2.2.set i v).congr hy⟩

set_option maxRecDepth 100000 in
set_option maxHeartbeats 4000000 in
theorem ctrblock_any (key nonce : Nat → Nat) (i : Nat) (w : World) (hk : Aes.B8 key) (hn : Aes.B8 nonce) (hi : i < 18446744073709551616) :
    Calls Try.prog 34 #[.agg (arr .u8 16 key), .agg (arr .u8 8 nonce), .int .u64 (i : Int)] w fun e w' => e = .returned (.agg (arr .u8 16 (Ctr.bk key nonce i))) ∧ Below w.heap.size w w' := by
  have hsz := arr_size .u8 16 key
  have hsz2 := arr_size .u8 8 nonce
  have HK := Lib.hid hk; clear hk
  have HN := Lib.hid hn; clear hn
  go_enter Try.func34, Try.ntmps34
  go_upto_region 2 with fail
  generalize hW : (World.alloc _ _ : World) = V
  have INV : CKI key nonce (fun _ => 0) w V := by
    rw [← hW]
    have z1 : w.heap.size + 1 = (w.alloc (Obj.cells (arr IntKind.u8 16 key) 22)).heap.size := by simp
    have z2 : w.heap.size + 2 = ((w.alloc (Obj.cells (arr IntKind.u8 16 key) 22)).alloc (Obj.cells (arr IntKind.u8 8 nonce) 40)).heap.size := by simp
    have z3 : ∀ o : Obj, w.heap.size + 3 = (((w.alloc (Obj.cells (arr IntKind.u8 16 key) 22)).alloc (Obj.cells (arr IntKind.u8 8 nonce) 40)).alloc o).heap.size := by simp
    refine ⟨((((Below.refl _ _).alloc (Nat.le_refl _) _).alloc (by simp) _).alloc (by simp; omega) _).alloc (by simp; omega) _, ?_, ?_, ?_, ?_⟩
    · exact (((isArr_new w _ _ _ _).alloc _).alloc _).alloc _
    · rw [z1]; exact ((isArr_new _ _ _ _ _).alloc _).alloc _
    · rw [z2]; first | exact zero16.alloc _ | exact zero16r.alloc _
    · rw [z3]; first | exact zero16 | exact zero16r
  have I0 := Lib.hid INV
  have h0 : Below w.heap.size w V := INV.1
  clear hW INV hsz hsz2
  refine wp_reg Try.f34 2 4 (fun w' => Below w.heap.size w w') (by kernel_rfl) (by kernel_rfl) (by kernel_rfl) (below_drewN h0 1) (fun K hK h0 => ?_)
  refine reg_cast (listed' := #[false, false, false, false]) (by kernel_rfl) rfl ?_
  have HF := Lib.hid hK; clear hK
  refine reg_take 0 10 (.slice (some ⟨w.heap.size + 3, 0, none⟩) 16 16) (by kernel_rfl) (fun _ _ => by kernel_rfl) h0 ?_
  simp only [Act.put, List.setIfInBounds_toArray, List.set_cons_zero, List.set_cons_succ]
  refine reg_take 1 11 (.slice (some ⟨w.heap.size + 1, 0, none⟩) 8 8) (by kernel_rfl) (fun _ _ => by kernel_rfl) h0 ?_
  simp only [Act.put, List.setIfInBounds_toArray, List.set_cons_zero, List.set_cons_succ]
  refine reg_one 2 (by kernel_rfl) (by kernel_rfl) (HStep.of_law #[] (by kernel_rfl) fun K' hK' => ?_)
  refine copy_front rfl (.tmp 10) (.tmp 11) (by kernel_rfl) (w.heap.size + 3) 16 _ _ (by kernel_rfl) (I0.out.2.2.2.2.drewN 1) _ _ (by kernel_rfl) ((I0.out.2.2.1.drewN 1).bs HN.out (by omega)).rs ?_
  intro w7 hA7 hg7
  have h7 : Below w.heap.size w w7 := below_only h0 (Nat.le_refl _) hg7 (fun q hq => by cases hq; omega)
  have I7 : CKI key nonce (Ctr.half nonce i 0) w w7 := by
    refine ⟨h7, (I0.out.2.1.drewN 1).of_block (hg7.block _ I0.out.2.1.lt (by simp)), (I0.out.2.2.1.drewN 1).of_block (hg7.block _ I0.out.2.2.1.lt (by simp)), (I0.out.2.2.2.1.drewN 1).of_block (hg7.block _ I0.out.2.2.2.1.lt (by simp)), hA7.congr fun t ht => ?_⟩
    unfold Ctr.half
    by_cases h8 : t < 8
    · rw [if_pos (by simpa using h8), if_pos h8]; simp [List.getD, h8]
    · rw [if_neg (by simpa using h8), if_neg h8, if_neg (by omega)]
  refine hK' _ _ h7 ?_
  have hd : (opn (reg Try.f34 2) 2).dst = some 12 := by kernel_rfl
  rw [show ({ opn (reg Try.f34 2) 2 with guard := none } : Oper).dst = some 12 from hd]
  simp only [Act.put, List.setIfInBounds_toArray, List.set_cons_zero, List.set_cons_succ]
  refine reg_take 3 8 (.int .i64 8) (by kernel_rfl) (fun _ _ => by kernel_rfl) h7 ?_
  simp only [Act.put, List.setIfInBounds_toArray, List.set_cons_zero, List.set_cons_succ]
  refine reg_done (by kernel_rfl) (HF.out _ _ ?_)
  have J7 := Lib.hid I7
  clear HF h0 h7 hA7 hg7 I0 I7
  go_wp2_with fail
  go_loopw [9, 2] (fun j y wr => ∃ m : Nat, m ≤ 8 ∧ j = .int .i64 (15 - (m : Int)) ∧ y = .int .u64 ((i / 256 ^ m : Nat) : Int) ∧ CKI key nonce (Ctr.half nonce i m) w wr) (fun j _ _ => (intOf j).toNat)
  case atStart => exact ⟨0, by omega, by simp, by simp, J7.out⟩
  case round =>
    clear J7
    obtain ⟨m, hm, rfl, rfl, hI⟩ := hrel
    have HI := Lib.hid hI
    by_cases hlt : m < 8
    · have hge : decide (8 ≤ 15 - (m : Int)) = true := by simp; omega
      have hcell := hI.2.2.2.2.cell (i := 15 - m) (by omega)
      have hfroz := hI.2.2.2.2.frozen (15 - m)
      have e15 : 15 - (m : Int) = ((15 - m : Nat) : Int) := by omega
      have hql : i / 256 ^ m < 18446744073709551616 := Nat.lt_of_le_of_lt (Nat.div_le_self _ _) hi
      have NX := Lib.hid (HI.out.set (15 - m) (i / 256 ^ m % 256) (fun t ht => Ctr.half_next nonce i m t hlt ht))
      have HDV := Lib.hid (show i / 256 ^ (m + 1) = i / 256 ^ m / 256 by rw [Nat.pow_succ, Nat.div_div_eq_div_mul])
      generalize Ctr.half nonce i m (15 - m) = old at hcell
      generalize i / 256 ^ m = q at hql NX HDV ⊢
      clear hI
      obtain ⟨p, hp⟩ : ∃ p, p = 15 - m := ⟨_, rfl⟩
      have ep : 15 - (m : Int) = (p : Int) := by omega
      have HP := Lib.hid hp
      have HEP := Lib.hid ep
      rw [← hp] at hcell hfroz NX
      rw [ep] at hge ⊢
      have hp16 : (p : Int) < 16 := by omega
      have hp0 : 8 ≤ (p : Int) := by omega
      clear e15 hp ep
      go_wp2_with fail
      go_roundw
      case rel => exact ⟨m + 1, by omega, by have := HP.out; congr 1; omega, by rw [HDV.out]; rfl, NX.out⟩
      case measure => have := HP.out; simp [intOf]; omega
    · obtain rfl : m = 8 := by omega
      have hge : decide (8 ≤ 15 - ((8 : Nat) : Int)) = false := by decide
      have k1 := hI.2.1
      have I8 := Lib.hid (HI.out.congr (fun t ht => Ctr.half_all nonce i t ht))
      have k2 := I8.out.2.2.2.2
      clear hI HI
      go_wp2_with (first | refine wpList_load_row rfl _ _ rfl w.heap.size rfl _ _ (0, 0) _ k1 rfl rfl (info16 _) ?_ | refine wpList_load_row rfl _ _ rfl (w.heap.size + 3) rfl _ _ (0, 0) _ k2 rfl rfl (info16 _) ?_ | (go_at_call 14; refine (aesencrypt_any _ _ _ HK.out (Ctr.blk_b8 HN.out i)).mono ?_; rintro e w9 ⟨rfl, hb9⟩; have k9 := I8.out.2.2.2.1.below hb9 I8.out.2.2.2.1.lt; have B9 := Lib.hid (I8.out.1.trans (hb9.mono I8.out.1.size)); clear hb9) | (refine wpList_store_row rfl _ _ _ rfl (w.heap.size + 2) _ rfl rfl _ _ k9 (info16 _) ((arr_size _ _ _).trans (arr_size _ _ _).symm) (arr_one _ _ _) ?_))
      exact bodyPost_ret (results_cell_row rfl _ _ (w.heap.size + 2) _ _ (0, 0) _ rfl (setRow_heap _ (w.heap.size + 2) _ _ _ (0, 0) k9) rfl rfl (info16 _)) rfl ⟨rfl, below_setRow B9.out (by omega) _⟩
end Go.Proofs.Ytibgmoapkionjaa
