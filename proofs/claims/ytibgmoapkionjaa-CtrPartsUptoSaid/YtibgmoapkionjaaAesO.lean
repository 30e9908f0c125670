/- The laws' awake: walked. -/
import Derived.Test.YtibgmoapkionjaaAesN
import Derived.Test.YtibgmoapkionjaaAesMathB
namespace Go.Proofs.Ytibgmoapkionjaa
open Go.RowKit Go.Deep

theorem run_index_rows {w : World} (f : Nat → Nat) (i : Nat) (hi : i < 11) : (Instr.index 32 (.agg (arr .u8 176 f)) (.int .i64 (i : Int))).run Try.prog w = .ok (.agg (arr .u8 16 (fun j => f (i * 16 + j)))) w := by
  have h : (Try.prog).underlying 32 = some (.array 11 22) := Try.underlying32
  have he : (Try.prog).underlying 22 = some (.array 16 5) := Try.underlying22
  obtain ⟨inf, hinf⟩ := info_of_underlying he
  have hs : (Try.prog).cellsOf 22 = 16 := by kernel_rfl
  have hx : (arr .u8 176 f).extract (i * 16) (i * 16 + 16) = arr .u8 16 (fun j => f (i * 16 + j)) := by
    apply arr_of_get
    · rw [Array.size_extract, arr_size]; omega
    · intro j hj
      rw [Array.getElem?_extract, if_pos (by rw [arr_size]; omega), arr_get _ _ _ _ (by omega)]
  have hn : (0 : Int) ≤ (i : Int) ∧ (i : Int) < 11 := by omega
  simp [Instr.index, run_underlying h, asIntOf, hi, go_sem, part, isAgg, run_underlying he, run_sizeOf _ hinf, hs, hx]
theorem exec_index_rows {o : Oper} {a : Act} {w : World} (f : Nat → Nat) (i : Nat) (x y : Operand) (ho : o.op = .index 32 x y) (hx : a.eval x = .agg (arr .u8 176 f)) (hy : a.eval y = .int .i64 (i : Int)) (hi : i < 11) :
    (execOp a.eval o).run Try.prog w = .ok (.value (.agg (arr .u8 16 (fun j => f (i * 16 + j))))) w := by
  unfold execOp
  simp only [ho, hx, hy, Sem.run_bind, run_index_rows f i hi, Result.andThen_ok, Sem.run_pure]
theorem exec_eql16 {o : Oper} {a : Act} {w : World} (f g : Nat → Nat) (x y : Operand) (ho : o.op = .binOp .eql 22 x y 22) (hx : a.eval x = .agg (arr .u8 16 f)) (hy : a.eval y = .agg (arr .u8 16 g)) :
    (execOp a.eval o).run Try.prog w = .ok (.value (.bool (sameArr 16 f g))) w :=
  exec_eql_arr (P := Try.prog) (k := .u8) (n := 16) f g ho hx hy Try.underlying22 Try.underlying5 (by kernel_rfl) (by kernel_rfl)
theorem exec_neq16 {o : Oper} {a : Act} {w : World} (f g : Nat → Nat) (x y : Operand) (ho : o.op = .binOp .neq 22 x y 22) (hx : a.eval x = .agg (arr .u8 16 f)) (hy : a.eval y = .agg (arr .u8 16 g)) :
    (execOp a.eval o).run Try.prog w = .ok (.value (.bool (!sameArr 16 f g))) w :=
  run_neqIn_arr (P := Try.prog) (k := .u8) (n := 16) f g ho hx hy Try.underlying22 Try.underlying5 (by kernel_rfl) (by kernel_rfl)

def Aes.dk (i : Nat) : Nat := i % 256
def Aes.db (i : Nat) : Nat := 17 * i % 256
theorem Aes.dk_b8 : Aes.B8 Aes.dk := fun _ => Nat.mod_lt _ (by omega)
theorem Aes.db_b8 : Aes.B8 Aes.db := fun _ => Nat.mod_lt _ (by omega)
theorem Aes.doc : Aes.enc Aes.dk Aes.db 0 = 105 ∧ Aes.enc Aes.dk Aes.db 1 = 196 ∧ Aes.enc Aes.dk Aes.db 2 = 224 ∧ Aes.enc Aes.dk Aes.db 15 = 90 := by
  have h := Aes.enc_doc
  simp only [Bool.and_eq_true, beq_iff_eq] at h
  have e := Aes.encR_eq Aes.dk Aes.db
  exact ⟨(e 0 (by omega)).symm.trans h.1.1.1, (e 1 (by omega)).symm.trans h.1.1.2, (e 2 (by omega)).symm.trans h.1.2, (e 15 (by omega)).symm.trans h.2⟩
def AW (j : Nat) (w wr : World) : Prop :=
  Below w.heap.size w wr ∧ isArr wr w.heap.size 22 .u8 16 (fst Aes.dk j) ∧ isArr wr (w.heap.size + 1) 22 .u8 16 (fst Aes.db j)
set_option maxRecDepth 100000 in
set_option maxHeartbeats 4000000 in
theorem aesAwake_any (w : World) : Calls Try.prog 13 #[] w (RetBool true w) := by
  go_enter Try.func13, Try.ntmps13
  go_upto_region 3 with fail
  generalize hW : (World.alloc _ _ : World) = W
  have INV : AW 0 w W := by
    have hz : ∀ f : Nat → Nat, ∀ t, t < 16 → (0 : Nat) = fst f 0 t := fun f t _ => (if_neg (Nat.not_lt_zero _)).symm
    rw [← hW]
    refine ⟨((Below.refl _ _).alloc (Nat.le_refl _) _).alloc (by simp) _, ?_, ?_⟩
    · first | exact (zero16.congr (hz _)).alloc _ | exact (zero16r.congr (hz _)).alloc _
    · have z1 : ∀ o : Obj, w.heap.size + 1 = (w.alloc o).heap.size := fun _ => by simp
      rw [z1]; first | exact zero16.congr (hz _) | exact zero16r.congr (hz _)
  have I0 := Lib.hid INV
  clear hW INV
  go_wp2_with fail
  go_loopw [3] (fun i wr => ∃ j : Nat, j ≤ 16 ∧ i = .int .i64 j ∧ AW j w wr) (fun i _ => 16 - (intOf i).toNat)
  case atStart => exact ⟨0, by omega, rfl, I0.out⟩
  case round =>
    clear I0
    obtain ⟨j, hj, rfl, hb, h1, h2⟩ := hrel
    by_cases hlt : j < 16
    · have hd : decide ((j : Int) < 16) = true := by simp; omega
      have lj : (j : Int) < 16 := by omega
      have nj : 0 ≤ (j : Int) := by omega
      have c1 := h1.cell (i := j) hlt
      have f1 := h1.frozen j
      have c2 := h2.cell (i := j) hlt
      have f2 := h2.frozen j
      have J := Lib.hid (show AW (j + 1) w ((wr.setCell ⟨w.heap.size, j, none⟩ (.int .u8 ((j : Nat) : Int))).setCell ⟨w.heap.size + 1, j, none⟩ (.int .u8 ((17 * j : Nat) : Int))) from
        ⟨below_set (below_set hb (Nat.le_refl _) _ _) (by omega) _ _, ((h1.set j j).congr fun t _ => fst_next _ _ _ _ (by unfold Aes.dk; omega)).setOther (by omega) _ _, ((h2.setOther (by omega) _ _).set j (17 * j)).congr fun t _ => fst_next _ _ _ _ (by unfold Aes.db; omega)⟩)
      clear hb h1 h2
      go_wp2_with fail
      go_roundw
      case rel => exact ⟨j + 1, by omega, by go_num, J.out⟩
      case measure => simp [intOf]; omega
    · obtain rfl : j = 16 := by omega
      have hd : decide (((16 : Nat) : Int) < 16) = false := by decide
      have k1 : isArr wr w.heap.size 22 .u8 16 Aes.dk := h1.congr fun t ht => if_pos ht
      have k2 : isArr wr (w.heap.size + 1) 22 .u8 16 Aes.db := h2.congr fun t ht => if_pos ht
      obtain ⟨E, hE⟩ : ∃ E, E = Aes.enc Aes.dk Aes.db := ⟨_, rfl⟩
      have HE8 : Aes.B8 E := by rw [hE]; exact Aes.enc_b8 Aes.dk_b8 Aes.db_b8
      have enc : ∀ w1, Calls Try.prog 14 #[.agg (arr .u8 16 Aes.dk), .agg (arr .u8 16 Aes.db)] w1 fun e w2 => e = .returned (.agg (arr .u8 16 E)) ∧ Below w1.heap.size w1 w2 := fun w1 => by
        rw [hE]; exact aesencrypt_any _ _ _ Aes.dk_b8 Aes.db_b8
      have hdoc : E 0 = 105 ∧ E 1 = 196 ∧ E 2 = 224 ∧ E 15 = 90 := by rw [hE]; exact Aes.doc
      have hdec : Aes.Eq16 (Aes.dec Aes.dk E) Aes.db := by rw [hE]; exact Aes.dec_enc Aes.dk_b8 Aes.db_b8
      have HD := Lib.hid (And.intro hdoc (And.intro hdec HE8))
      have BB := Lib.hid hb
      clear hlt hj h1 h2 hE hdoc hdec HE8 hb
      go_upto_region 9 with (first | refine wpList_load_row rfl _ _ rfl w.heap.size rfl _ _ (0, 0) _ k1 rfl rfl (info16 _) ?_ | refine wpList_load_row rfl _ _ rfl (w.heap.size + 1) rfl _ _ (0, 0) _ k2 rfl rfl (info16 _) ?_ | (go_at_call 14; refine (enc _).mono ?_; rintro e w2 ⟨rfl, hb2⟩) | (refine wpList_store_rowTo rfl _ _ _ rfl rfl w2.heap.size _ rfl rfl _ _ (heap_alloc_new _ _) (info16 _) (by rw [arr_size]; rfl) (arr_one _ _ _) ?_; generalize hV : World.setRow _ w2.heap.size _ = V))
      have hbV : Below wr.heap.size wr V := by rw [← hV]; exact below_setRow (hb2.alloc hb2.size _) hb2.size _
      have hA : isArr V w2.heap.size 22 .u8 16 E := by rw [← hV]; exact setRow_heap _ _ _ _ _ _ (heap_alloc_new _ _)
      have VB := Lib.hid (BB.out.trans (hbV.mono BB.out.size))
      have VA := Lib.hid (And.intro (k1.below hbV k1.lt) (And.intro (k2.below hbV k2.lt) hA))
      clear hV hbV hA hb2 k1 k2 BB enc
      generalize w2.heap.size = ge at VA ⊢
      generalize hn0 : w.heap.size = n0 at VA VB ⊢
      obtain ⟨n1, hn1⟩ : ∃ n1, n1 = n0 + 1 := ⟨_, rfl⟩
      rw [← hn1] at VA ⊢
      have L1 : ∀ w', Below V.heap.size V w' → ∀ i v, (arr .u8 16 Aes.dk)[i]? = some v → w'.cell? ((⟨n0, 0, none⟩ : Addr).add i) = some v := fun w' h => (VA.out.1.below h VA.out.1.lt).cells
      have L2 : ∀ w', Below V.heap.size V w' → ∀ i v, (arr .u8 16 Aes.db)[i]? = some v → w'.cell? ((⟨n1, 0, none⟩ : Addr).add i) = some v := fun w' h => (VA.out.2.1.below h VA.out.2.1.lt).cells
      have L4 : ∀ w', Below V.heap.size V w' → ∀ i v, (arr .u8 16 E)[i]? = some v → w'.cell? ((⟨ge, 0, none⟩ : Addr).add i) = some v := fun w' h => (VA.out.2.2.below h VA.out.2.2.lt).cells
      have LE : ∀ (i c : Nat), i < 16 → E i = c → ∀ w', Below V.heap.size V w' → w'.cell? ⟨ge, i, none⟩ = some (.int .u8 (c : Int)) := fun i c hi e w' h => by
        rw [← e]; exact (VA.out.2.2.below h VA.out.2.2.lt).cell hi
      have E0 := LE 0 105 (by omega) HD.out.1.1
      have E1 := LE 1 196 (by omega) HD.out.1.2.1
      have E2 := LE 2 224 (by omega) HD.out.1.2.2.1
      have E15 := LE 15 90 (by omega) HD.out.1.2.2.2
      have T1 : sameArr 16 (Aes.dec Aes.dk E) Aes.db = true := sameArr_yes HD.out.2.1
      have T2 : sameArr 16 (fun j => Aes.flat Aes.dk (0 * 16 + j)) Aes.dk = true := sameArr_yes fun i hi => by
        unfold Aes.flat
        rw [show (0 * 16 + i) / 16 = 0 by omega, show (0 * 16 + i) % 16 = i by omega]; rfl
      have T3 : sameArr 16 (Aes.xor Aes.dk Aes.dk) (fun _ => 0) = true := sameArr_yes fun i hi => by unfold Aes.xor; exact Nat.xor_self _
      refine wp_reg Try.f13 9 40 (fun w' => Below V.heap.size V w') (by kernel_rfl) (by kernel_rfl) (by kernel_rfl) (below_drewN (Below.refl _ _) 1) (fun K hK h0 => ?_)
      refine reg_cast (listed' := #[false, false, false, false, false, false, false, false, false, false, false, false, false, false, false, false, false, false, false, false, false, false, false, false, false, false, false, false, false, false, false, false, false, false, false, false, false, false, false, false]) (by kernel_rfl) rfl ?_
      have HF := Lib.hid hK; clear hK
      refine reg_take 0 21 (.pointer (some ⟨ge, 0, none⟩)) (by kernel_rfl) (fun _ _ => by kernel_rfl) h0 ?_
      simp only [Act.put, List.setIfInBounds_toArray, List.set_cons_zero, List.set_cons_succ]
      refine reg_take 1 22 (.int .u8 105) (by kernel_rfl) (fun w' k => exec_load_u8 (.tmp 21) ⟨ge, 0, none⟩ _ (by kernel_rfl) (by kernel_rfl) (E0 w' k)) h0 ?_
      simp only [Act.put, List.setIfInBounds_toArray, List.set_cons_zero, List.set_cons_succ]
      refine reg_take 2 23 (.bool true) (by kernel_rfl) (fun _ _ => by kernel_rfl) h0 ?_
      simp only [Act.put, List.setIfInBounds_toArray, List.set_cons_zero, List.set_cons_succ]
      refine reg_take 3 24 (.bool true) (by kernel_rfl) (fun _ _ => by kernel_rfl) h0 ?_
      simp only [Act.put, List.setIfInBounds_toArray, List.set_cons_zero, List.set_cons_succ]
      refine reg_take 4 25 (.pointer (some ⟨ge, 1, none⟩)) (by kernel_rfl) (fun _ _ => by kernel_rfl) h0 ?_
      simp only [Act.put, List.setIfInBounds_toArray, List.set_cons_zero, List.set_cons_succ]
      refine reg_take 5 26 (.int .u8 196) (by kernel_rfl) (fun w' k => exec_load_u8 (.tmp 25) ⟨ge, 1, none⟩ _ (by kernel_rfl) (by kernel_rfl) (E1 w' k)) h0 ?_
      simp only [Act.put, List.setIfInBounds_toArray, List.set_cons_zero, List.set_cons_succ]
      refine reg_take 6 27 (.bool true) (by kernel_rfl) (fun _ _ => by kernel_rfl) h0 ?_
      simp only [Act.put, List.setIfInBounds_toArray, List.set_cons_zero, List.set_cons_succ]
      refine reg_take 7 28 (.bool true) (by kernel_rfl) (fun _ _ => by kernel_rfl) h0 ?_
      simp only [Act.put, List.setIfInBounds_toArray, List.set_cons_zero, List.set_cons_succ]
      refine reg_take 8 29 (.bool true) (by kernel_rfl) (fun _ _ => by kernel_rfl) h0 ?_
      simp only [Act.put, List.setIfInBounds_toArray, List.set_cons_zero, List.set_cons_succ]
      refine reg_take 9 30 (.pointer (some ⟨ge, 2, none⟩)) (by kernel_rfl) (fun _ _ => by kernel_rfl) h0 ?_
      simp only [Act.put, List.setIfInBounds_toArray, List.set_cons_zero, List.set_cons_succ]
      refine reg_take 10 31 (.int .u8 224) (by kernel_rfl) (fun w' k => exec_load_u8 (.tmp 30) ⟨ge, 2, none⟩ _ (by kernel_rfl) (by kernel_rfl) (E2 w' k)) h0 ?_
      simp only [Act.put, List.setIfInBounds_toArray, List.set_cons_zero, List.set_cons_succ]
      refine reg_take 11 32 (.bool true) (by kernel_rfl) (fun _ _ => by kernel_rfl) h0 ?_
      simp only [Act.put, List.setIfInBounds_toArray, List.set_cons_zero, List.set_cons_succ]
      refine reg_take 12 33 (.bool true) (by kernel_rfl) (fun _ _ => by kernel_rfl) h0 ?_
      simp only [Act.put, List.setIfInBounds_toArray, List.set_cons_zero, List.set_cons_succ]
      refine reg_take 13 34 (.bool true) (by kernel_rfl) (fun _ _ => by kernel_rfl) h0 ?_
      simp only [Act.put, List.setIfInBounds_toArray, List.set_cons_zero, List.set_cons_succ]
      refine reg_take 14 35 (.pointer (some ⟨ge, 15, none⟩)) (by kernel_rfl) (fun _ _ => by kernel_rfl) h0 ?_
      simp only [Act.put, List.setIfInBounds_toArray, List.set_cons_zero, List.set_cons_succ]
      refine reg_take 15 36 (.int .u8 90) (by kernel_rfl) (fun w' k => exec_load_u8 (.tmp 35) ⟨ge, 15, none⟩ _ (by kernel_rfl) (by kernel_rfl) (E15 w' k)) h0 ?_
      simp only [Act.put, List.setIfInBounds_toArray, List.set_cons_zero, List.set_cons_succ]
      refine reg_take 16 37 (.bool true) (by kernel_rfl) (fun _ _ => by kernel_rfl) h0 ?_
      simp only [Act.put, List.setIfInBounds_toArray, List.set_cons_zero, List.set_cons_succ]
      refine reg_take 17 38 (.bool true) (by kernel_rfl) (fun _ _ => by kernel_rfl) h0 ?_
      simp only [Act.put, List.setIfInBounds_toArray, List.set_cons_zero, List.set_cons_succ]
      refine reg_take 18 39 (.bool true) (by kernel_rfl) (fun _ _ => by kernel_rfl) h0 ?_
      simp only [Act.put, List.setIfInBounds_toArray, List.set_cons_zero, List.set_cons_succ]
      refine reg_load 19 40 (by kernel_rfl) _ (.tmp 1) (by kernel_rfl) ⟨n0, 0, none⟩ (by kernel_rfl) (arr .u8 16 Aes.dk) _ L1 rfl rfl (info16 _) h0 ?_
      simp only [Act.put, List.setIfInBounds_toArray, List.set_cons_zero, List.set_cons_succ]
      refine reg_load 20 41 (by kernel_rfl) _ (.tmp 4) (by kernel_rfl) ⟨ge, 0, none⟩ (by kernel_rfl) (arr .u8 16 E) _ L4 rfl rfl (info16 _) h0 ?_
      simp only [Act.put, List.setIfInBounds_toArray, List.set_cons_zero, List.set_cons_succ]
      refine reg_load 22 43 (by kernel_rfl) _ (.tmp 2) (by kernel_rfl) ⟨n1, 0, none⟩ (by kernel_rfl) (arr .u8 16 Aes.db) _ L2 rfl rfl (info16 _) h0 ?_
      simp only [Act.put, List.setIfInBounds_toArray, List.set_cons_zero, List.set_cons_succ]
      refine reg_call 21 42 18 #[.agg (arr .u8 16 Aes.dk), .agg (arr .u8 16 E)] (by kernel_rfl) (by kernel_rfl) ?_
      refine (aesdecrypt_any _ _ _ Aes.dk_b8 HD.out.2.2).mono ?_
      rintro e wz ⟨rfl, hbz⟩
      have h0 := below_then h0 hbz
      refine ⟨_, rfl, h0, ?_⟩
      simp only [Act.put, List.setIfInBounds_toArray, List.set_cons_zero, List.set_cons_succ]
      refine reg_take 23 44 (.bool true) (by kernel_rfl) (fun w' _ => (exec_eql16 (Aes.dec Aes.dk E) (Aes.db) (.tmp 42) (.tmp 43) (by kernel_rfl) (by kernel_rfl) (by kernel_rfl)).trans (by rw [T1])) h0 ?_
      simp only [Act.put, List.setIfInBounds_toArray, List.set_cons_zero, List.set_cons_succ]
      refine reg_take 24 45 (.bool true) (by kernel_rfl) (fun _ _ => by kernel_rfl) h0 ?_
      simp only [Act.put, List.setIfInBounds_toArray, List.set_cons_zero, List.set_cons_succ]
      refine reg_take 25 46 (.bool true) (by kernel_rfl) (fun _ _ => by kernel_rfl) h0 ?_
      simp only [Act.put, List.setIfInBounds_toArray, List.set_cons_zero, List.set_cons_succ]
      refine reg_load 26 47 (by kernel_rfl) _ (.tmp 1) (by kernel_rfl) ⟨n0, 0, none⟩ (by kernel_rfl) (arr .u8 16 Aes.dk) _ L1 rfl rfl (info16 _) h0 ?_
      simp only [Act.put, List.setIfInBounds_toArray, List.set_cons_zero, List.set_cons_succ]
      refine reg_load 29 50 (by kernel_rfl) _ (.tmp 1) (by kernel_rfl) ⟨n0, 0, none⟩ (by kernel_rfl) (arr .u8 16 Aes.dk) _ L1 rfl rfl (info16 _) h0 ?_
      simp only [Act.put, List.setIfInBounds_toArray, List.set_cons_zero, List.set_cons_succ]
      refine reg_call 27 48 19 #[.agg (arr .u8 16 Aes.dk)] (by kernel_rfl) (by kernel_rfl) ?_
      refine (aeskeys_any _ _ Aes.dk_b8).mono ?_
      rintro e wz ⟨rfl, hbz⟩
      have h0 := below_then h0 hbz
      refine ⟨_, rfl, h0, ?_⟩
      simp only [Act.put, List.setIfInBounds_toArray, List.set_cons_zero, List.set_cons_succ]
      refine reg_take 28 49 (.agg (arr .u8 16 (fun j => Aes.flat Aes.dk (0 * 16 + j)))) (by kernel_rfl) (fun w' _ => exec_index_rows (Aes.flat Aes.dk) 0 (.tmp 48) (.const (.int .i64 0)) (by kernel_rfl) (by kernel_rfl) (by kernel_rfl) (by omega)) h0 ?_
      simp only [Act.put, List.setIfInBounds_toArray, List.set_cons_zero, List.set_cons_succ]
      refine reg_take 30 51 (.bool true) (by kernel_rfl) (fun w' _ => (exec_eql16 (fun j => Aes.flat Aes.dk (0 * 16 + j)) (Aes.dk) (.tmp 49) (.tmp 50) (by kernel_rfl) (by kernel_rfl) (by kernel_rfl)).trans (by rw [T2])) h0 ?_
      simp only [Act.put, List.setIfInBounds_toArray, List.set_cons_zero, List.set_cons_succ]
      refine reg_take 31 52 (.bool true) (by kernel_rfl) (fun _ _ => by kernel_rfl) h0 ?_
      simp only [Act.put, List.setIfInBounds_toArray, List.set_cons_zero, List.set_cons_succ]
      refine reg_take 32 53 (.bool true) (by kernel_rfl) (fun _ _ => by kernel_rfl) h0 ?_
      simp only [Act.put, List.setIfInBounds_toArray, List.set_cons_zero, List.set_cons_succ]
      refine reg_take 36 57 (.agg (arr .u8 16 (fun _ => 0))) (by kernel_rfl) (fun _ _ => by kernel_rfl) h0 ?_
      simp only [Act.put, List.setIfInBounds_toArray, List.set_cons_zero, List.set_cons_succ]
      refine reg_load 33 54 (by kernel_rfl) _ (.tmp 1) (by kernel_rfl) ⟨n0, 0, none⟩ (by kernel_rfl) (arr .u8 16 Aes.dk) _ L1 rfl rfl (info16 _) h0 ?_
      simp only [Act.put, List.setIfInBounds_toArray, List.set_cons_zero, List.set_cons_succ]
      refine reg_load 34 55 (by kernel_rfl) _ (.tmp 1) (by kernel_rfl) ⟨n0, 0, none⟩ (by kernel_rfl) (arr .u8 16 Aes.dk) _ L1 rfl rfl (info16 _) h0 ?_
      simp only [Act.put, List.setIfInBounds_toArray, List.set_cons_zero, List.set_cons_succ]
      refine reg_call 35 56 23 #[.agg (arr .u8 16 Aes.dk), .agg (arr .u8 16 Aes.dk)] (by kernel_rfl) (by kernel_rfl) ?_
      refine (aesxor_any _ _ _ Aes.dk_b8 Aes.dk_b8).mono ?_
      rintro e wz ⟨rfl, hbz⟩
      have h0 := below_then h0 hbz
      refine ⟨_, rfl, h0, ?_⟩
      simp only [Act.put, List.setIfInBounds_toArray, List.set_cons_zero, List.set_cons_succ]
      refine reg_take 37 58 (.bool true) (by kernel_rfl) (fun w' _ => (exec_eql16 (Aes.xor Aes.dk Aes.dk) (fun _ => 0) (.tmp 56) (.tmp 57) (by kernel_rfl) (by kernel_rfl) (by kernel_rfl)).trans (by rw [T3])) h0 ?_
      simp only [Act.put, List.setIfInBounds_toArray, List.set_cons_zero, List.set_cons_succ]
      refine reg_take 38 59 (.bool true) (by kernel_rfl) (fun _ _ => by kernel_rfl) h0 ?_
      simp only [Act.put, List.setIfInBounds_toArray, List.set_cons_zero, List.set_cons_succ]
      refine reg_take 39 0 (.bool true) (by kernel_rfl) (fun _ _ => by kernel_rfl) h0 ?_
      simp only [Act.put, List.setIfInBounds_toArray, List.set_cons_zero, List.set_cons_succ]
      refine reg_done (by kernel_rfl) (HF.out _ _ ?_)
      have h0 := VB.out.trans (h0.mono (by rw [← hn0]; exact VB.out.size))
      clear HF
      go_wp2_with fail
      go_ret
      subst hn0
      exact ⟨rfl, h0⟩
end Go.Proofs.Ytibgmoapkionjaa
