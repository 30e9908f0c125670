/- aes.Encrypt, aes.Decrypt: walked. -/
import Derived.Test.YtibgmoapkionjaaAesF
namespace Go.Proofs.Ytibgmoapkionjaa
open Go.RowKit Go.Deep

theorem flat_row {w : World} {g : Nat} {key : Nat → Nat} (h : isArr w g 32 .u8 176 (Aes.flat key)) (i : Nat) (hi : i < 11) : ∀ j v, (arr .u8 16 (Aes.ks key i))[j]? = some v → w.cell? ((⟨g, i * 16, none⟩ : Addr).add j) = some v := fun j v hj => by
  have hj16 : j < 16 := by
    rcases Nat.lt_or_ge j 16 with h' | h'
    · exact h'
    · rw [Array.getElem?_eq_none (by rw [arr_size]; exact h')] at hj; cases hj
  rw [arr_get _ _ _ _ hj16] at hj
  rw [Addr.add_lit, h.cell (by omega), ← hj]
  unfold Aes.flat
  rw [show (i * 16 + j) / 16 = i by omega, show (i * 16 + j) % 16 = j by omega]
theorem setRow_other {w : World} {b c n : Nat} {t : TypeId} {k : IntKind} {f : Nat → Nat} (h : isArr w b t k n f) (hne : b ≠ c) (cs : Array Value) : isArr (w.setRow c cs) b t k n f := h.of_block (by
  unfold World.setRow
  simp [Array.getElem?_modify, Ne.symm hne])

/-- The state of Encrypt and of Decrypt: the blocks of the argument, of the result and of the round keys. -/
def EI (key x : Nat → Nat) (g : Nat) (w wr : World) : Prop :=
  Below w.heap.size w wr ∧ isArr wr (w.heap.size + 1) 22 .u8 16 x ∧ isArr wr (w.heap.size + 2) 22 .u8 16 (fun _ => 0) ∧ isArr wr g 32 .u8 176 (Aes.flat key) ∧ w.heap.size + 2 < g
theorem EI.below {key x : Nat → Nat} {g : Nat} {w wr w' : World} (h : EI key x g w wr) (e : Below wr.heap.size wr w') : EI key x g w w' := ⟨h.1.trans (e.mono h.1.size), h.2.1.below e h.2.1.lt, h.2.2.1.below e h.2.2.1.lt, h.2.2.2.1.below e h.2.2.2.1.lt, h.2.2.2.2⟩
theorem EI.row {key x y : Nat → Nat} {g : Nat} {w wr : World} (h : EI key x g w wr) : EI key y g w (wr.setRow (w.heap.size + 1) (arr .u8 16 y)) := by
  have hg := h.2.2.2.2
  exact ⟨below_setRow h.1 (by omega) _, setRow_heap _ _ _ _ _ (0, 0) h.2.1, setRow_other h.2.2.1 (by omega) _, setRow_other h.2.2.2.1 (by omega) _, hg⟩
theorem EI.drewN {key x : Nat → Nat} {g : Nat} {w wr : World} (h : EI key x g w wr) (n : Nat) : EI key x g w (wr.drewN n) := ⟨below_drewN h.1 n, h.2.1, h.2.2.1, h.2.2.2.1, h.2.2.2.2⟩

set_option maxRecDepth 100000 in
set_option maxHeartbeats 4000000 in
theorem aesencrypt_any (key b : Nat → Nat) (w : World) (hk : Aes.B8 key) (hb : Aes.B8 b) : Calls Try.prog 14 #[.agg (arr .u8 16 key), .agg (arr .u8 16 b)] w fun e w' => e = .returned (.agg (arr .u8 16 (Aes.enc key b))) ∧ Below w.heap.size w w' := by
  have hsz := arr_size .u8 16 key
  have hsz2 := arr_size .u8 16 b
  have HK := Lib.hid hk; clear hk
  have HB := Lib.hid hb; clear hb
  have hz32 : ∀ w, (zeroValue 32).run Try.prog w = .ok (.agg (Array.replicate 176 (.int .u8 0))) w := fun _ => by kernel_rfl
  go_enter Try.func14, Try.ntmps14
  go_upto_region 1 with fail
  generalize hW : ((World.alloc _ _).alloc _ : World) = W
  have INV : Below w.heap.size w W ∧ isArr W w.heap.size 22 .u8 16 key ∧ isArr W (w.heap.size + 1) 22 .u8 16 b ∧ isArr W (w.heap.size + 2) 22 .u8 16 (fun _ => 0) := by
    rw [← hW]
    have z1 : w.heap.size + 1 = (w.alloc (Obj.cells (arr IntKind.u8 16 key) 22)).heap.size := by simp
    have z2 : w.heap.size + 2 = ((w.alloc (Obj.cells (arr IntKind.u8 16 key) 22)).alloc (Obj.cells (arr IntKind.u8 16 b) 22)).heap.size := by simp
    refine ⟨(((Below.refl _ _).alloc (Nat.le_refl _) _).alloc (by simp) _).alloc (by simp; omega) _, ?_, ?_, ?_⟩
    · exact ((isArr_new w _ _ _ _).alloc _).alloc _
    · rw [z1]; exact (isArr_new _ _ _ _ _).alloc _
    · rw [z2]; first | exact zero16 | exact zero16r
  have k1 := INV.2.1
  have I0 := Lib.hid INV
  clear hW INV
  go_upto_region 2 with (first | refine wpList_load_row rfl _ _ rfl w.heap.size rfl _ _ (0, 0) _ k1 rfl rfl (info16 _) ?_ | (go_at_call 19; refine (aeskeys_any _ _ HK.out).mono ?_; rintro e w2 ⟨rfl, hb2⟩) | (refine wpList_store_rowTo rfl _ _ _ rfl rfl w2.heap.size _ rfl rfl _ _ (heap_alloc_new _ _) (info176 _) (by rw [arr_size]; first | rfl | simp) (arr_one _ _ _) ?_; generalize hV : World.setRow _ w2.heap.size _ = V))
  have hE : EI key b w2.heap.size w V := by
    have hz := I0.out.2.2.2.lt
    have hz2 := hb2.size
    have h2 : Below W.heap.size W V := by
      rw [← hV]; exact below_setRow (hb2.alloc hb2.size _) hb2.size _
    refine ⟨I0.out.1.trans (h2.mono I0.out.1.size), I0.out.2.2.1.below h2 I0.out.2.2.1.lt, I0.out.2.2.2.below h2 I0.out.2.2.2.lt, ?_, by omega⟩
    rw [← hV]
    exact setRow_heap _ _ _ _ _ _ (heap_alloc_new _ _)
  have E0 := Lib.hid hE
  clear hE hV hb2 k1 I0
  generalize w2.heap.size = g at E0 ⊢
  have k1 := E0.out.2.1
  have hks := Aes.ks_b8 HK.out
  have HS := Lib.hid (Aes.st_b8 HK.out HB.out)
  have HKS := Lib.hid hks; clear hks
  go_upto_region 3 with (first | refine wpList_load_row rfl _ _ rfl (w.heap.size + 1) rfl _ _ (0, 0) _ k1 rfl rfl (info16 _) ?_ | refine wpList_load_arr rfl _ _ rfl ⟨g, 0 * 16, none⟩ rfl _ _ (flat_row E0.out.2.2.2.1 0 (by omega)) rfl rfl (info16 _) ?_ | (go_at_call 23; refine (aesxor_any _ _ _ HB.out (HKS.out 0)).mono ?_; rintro e w3 ⟨rfl, hb3⟩; have E1 := Lib.hid (E0.out.below hb3); have k2 := E1.out.2.1; clear hb3) | (refine wpList_store_row rfl _ _ _ rfl (w.heap.size + 1) _ rfl rfl _ _ k2 (info16 _) ((arr_size _ _ _).trans (arr_size _ _ _).symm) (arr_one _ _ _) ?_; have E2 := Lib.hid (E1.out.row (y := Aes.xor b (Aes.ks key 0))); clear k1 k2 E1; generalize World.setRow _ (w.heap.size + 1) _ = V2 at E2 ⊢))
  clear E0
  go_wp2_with fail
  go_loopw [6] (fun i wr => ∃ m : Nat, m ≤ 10 ∧ i = .int .i64 ((m + 1 : Nat) : Int) ∧ EI key (Aes.st key b m) g w wr) (fun i _ => 11 - (intOf i).toNat)
  case atStart => exact ⟨0, by omega, rfl, E2.out⟩
  case round =>
    clear E2
    obtain ⟨m, hm, rfl, hE⟩ := hrel
    have EE := Lib.hid hE
    obtain ⟨i, hi⟩ : ∃ i, i = m + 1 := ⟨_, rfl⟩
    rw [← hi]
    by_cases hlt : m < 10
    · have hd : decide ((i : Int) ≤ 10) = true := by simp; omega
      have li : (i : Int) < 11 := by omega
      have ni : 1 ≤ (i : Int) := by omega
      have c1 := hE.2.1.cells
      have c2 := flat_row hE.2.2.2.1 i (by omega)
      have hst : Aes.round (Aes.st key b m) (Aes.ks key i) ((i : Int) == 10) = Aes.st key b i := by
        rw [hi]
        show Aes.round (Aes.st key b m) (Aes.ks key (m + 1)) _ = Aes.round (Aes.st key b m) (Aes.ks key (m + 1)) (m + 1 == 10)
        congr 1
        rw [Bool.eq_iff_iff, beq_iff_eq, beq_iff_eq]; omega
      have ST := Lib.hid hst
      have C1 := Lib.hid c1
      have C2 := Lib.hid c2
      have HI := Lib.hid hi
      clear hE hst c1 c2 hi hlt hm
      generalize hlb : ((i : Int) == 10) = lb at ST
      go_wp2_with fail
      go_still_tail 6, (by kernel_rfl)
      repeat (first | (refine wpStill_load_arr rfl _ _ rfl ⟨w.heap.size + 1, 0, none⟩ rfl _ _ C1.out rfl rfl (info16 _) ?_) | (refine wpStill_load_arr rfl _ _ rfl ⟨g, i * 16, none⟩ rfl _ _ C2.out rfl rfl (info16 _) ?_) | still_step)
      try refine wpStill_nil ?_
      change wpList _ _ _ _ _ (wr.drewN 1)
      have E3 := Lib.hid (EE.out.drewN 1)
      clear EE C1 C2
      generalize wr.drewN 1 = wd at E3 ⊢
      go_wp2_with (first | (go_at_call 21; refine (aesround_any _ _ _ _ (HS.out _) (HKS.out _)).mono ?_; rintro e w6 ⟨rfl, hb6⟩; have E4 := Lib.hid (E3.out.below hb6); have k4 := E4.out.2.1; clear hb6 E3) | (refine wpList_store_row rfl _ _ _ rfl (w.heap.size + 1) _ rfl rfl _ _ k4 (info16 _) ((arr_size _ _ _).trans (arr_size _ _ _).symm) (arr_one _ _ _) ?_))
      have E5 := Lib.hid (E4.out.row (y := Aes.round (Aes.st key b m) (Aes.ks key i) lb))
      rw [ST.out] at E5
      go_roundw
      case rel => exact ⟨i, by have := HI.out; omega, by go_num, by first | exact E5.out | (rw [ST.out]; exact E5.out)⟩
      case measure => simp [intOf]; omega
    · obtain rfl : m = 10 := by omega
      subst hi
      have hd : decide (((11 : Nat) : Int) ≤ 10) = false := by decide
      have k1 := hE.2.1
      have k7 := hE.2.2.1
      clear hlt hm hE
      go_wp2_with (first | refine wpList_load_row rfl _ _ rfl (w.heap.size + 1) rfl _ _ (0, 0) _ k1 rfl rfl (info16 _) ?_ | (refine wpList_store_row rfl _ _ _ rfl (w.heap.size + 2) _ rfl rfl _ _ k7 (info16 _) ((arr_size _ _ _).trans (arr_size _ _ _).symm) (arr_one _ _ _) ?_))
      exact bodyPost_ret (results_cell_row rfl _ _ (w.heap.size + 2) _ _ (0, 0) _ rfl (setRow_heap _ (w.heap.size + 2) _ _ _ (0, 0) k7) rfl rfl (info16 _)) rfl ⟨rfl, below_setRow EE.out.1 (by omega) _⟩
end Go.Proofs.Ytibgmoapkionjaa
