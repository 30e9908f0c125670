/- A round is that of the reference implementation, and encryption consists of rounds: for every key, block, flag and number the law returns true. No condition. -/
import Derived.Test.YtibgmoapkionjaaAesKit
namespace Go.Proofs.Ytibgmoapkionjaa
open Go.ChangeShapes Go.WideShapes Go.ChangeAt Go.RowKit Go.Deep

theorem exec_conv_u8_i64 {o : Oper} {a : Act} {w : World} (x : Operand) (n : Nat) (ho : o.op = .convert 5 3 x) (hx : a.eval x = .int .u8 (n : Int)) (hn : n < 256) : (execOp a.eval o).run Try.prog w = .ok (.value (.int .i64 (n : Int))) w := by
  unfold execOp
  simp only [ho, hx]
  have h0 : 0 ≤ (n : Int) := by omega
  have h1 : (n : Int) < 256 := by omega
  have hw : IntKind.i64.wrap (n : Int) = (n : Int) := IntWalk.i64_in _ (by omega)
  go_simp
theorem exec_rem11 {o : Oper} {a : Act} {w : World} (x : Operand) (n m : Nat) (ho : o.op = .binOp .rem 3 x (.const (.int .i64 11)) 3) (hx : a.eval x = .int .i64 (n : Int)) (hn : n < 256) (hm : m = n % 11) : (execOp a.eval o).run Try.prog w = .ok (.value (.int .i64 (m : Int))) w := by
  unfold execOp
  simp only [ho, hx]
  have tm : (n : Int).tmod 11 = (m : Int) := by rw [Int.tmod_eq_emod_of_nonneg (by omega)]; omega
  have hw : IntKind.i64.wrap (m : Int) = (m : Int) := IntWalk.i64_in _ (by omega)
  have h0 : 0 ≤ (n : Int) := by omega
  have h2 : (n : Int) % 11 = (m : Int) := by omega
  clear hm
  go_simp
theorem exec_addr11 {o : Oper} {a : Act} {w : World} (x y : Operand) (g m : Nat) (ho : o.op = .indexAddr 32 x y) (hx : a.eval x = .pointer (some ⟨g, 0, none⟩)) (hy : a.eval y = .int .i64 (m : Int)) (hm : m < 11) : (execOp a.eval o).run Try.prog w = .ok (.value (.pointer (some ⟨g, m * 16, none⟩))) w := by
  unfold execOp
  simp only [ho, hx, hy]
  have h0 : 0 ≤ (m : Int) := by omega
  have h1 : (m : Int) < 11 := by omega
  go_simp
attribute [local irreducible] wpAnyH in
set_option maxRecDepth 100000 in
set_option maxHeartbeats 4000000 in
theorem aesRounds_core (key b : Nat → Nat) (hk : Aes.B8 key) (hb : Aes.B8 b) (last : Bool) (n : Nat) (hn : n < 256) (w : World) : Calls Try.prog 6 #[.agg (arr .u8 16 key), .agg (arr .u8 16 b), .bool last, .int .u8 (n : Int)] w (RetBool true w) := by
  have hz32 : ∀ w, (zeroValue 32).run Try.prog w = .ok (.agg (Array.replicate 176 (.int .u8 0))) w := fun _ => by kernel_rfl
  obtain ⟨m, hm⟩ : ∃ m, m = n % 11 := ⟨_, rfl⟩
  have hm11 : m < 11 := by omega
  have HM := Lib.hid hm; clear hm
  have hks := Aes.ks_b8 hk
  have HRW : arr .u8 16 (fun j => Aes.flat key (m * 16 + j)) = arr .u8 16 (Aes.ks key m) := arr_congr _ _ _ _ fun j hj => by
    unfold Aes.flat
    rw [show (m * 16 + j) / 16 = m by omega, show (m * 16 + j) % 16 = j by omega]
  have HR2 := Lib.hid HRW; clear HRW
  have HS := Lib.hid (Aes.st_b8 hk hb)
  have hsz := arr_size .u8 16 key
  have hsz2 := arr_size .u8 16 b
  go_enter Try.func6, Try.ntmps6
  go_wp2_with fail
  refine (aesAwake_any _).mono ?_
  rintro e w1 ⟨rfl, hb1⟩
  go_upto_region 3 with fail
  obtain ⟨a1, a2, a3⟩ := two_boxes w key b
  have h1 := a1.below hb1 (by simp; omega)
  have h2 := a2.below hb1 (by simp)
  have VB := Lib.hid (a3.trans (hb1.mono (by simp; omega)))
  have VA := Lib.hid (And.intro h1 h2)
  have hz := h2.lt
  clear a1 a2 a3 h1 h2 hb1
  obtain ⟨V, hV⟩ : ∃ V : World, V = w1 := ⟨_, rfl⟩
  rw [← hV] at VA VB hz ⊢
  clear hV
  generalize hn0 : w.heap.size = n0 at VA VB hz ⊢
  obtain ⟨n1, hn1⟩ : ∃ n1, n1 = n0 + 1 := ⟨_, rfl⟩
  rw [← hn1] at VA hz ⊢
  have HN1 := Lib.hid hn1; clear hn1
  have L1 := cells_at VA.out.1
  have L2 := cells_at VA.out.2
  go_upto_region 4 with (first | refine wpList_load_row rfl _ _ rfl n0 rfl _ _ (0, 0) _ VA.out.1 rfl rfl (info16 _) ?_ | (go_at_call 19; refine (aeskeys_any _ _ hk).mono ?_; rintro e w2 ⟨rfl, hb2⟩) | (refine wpList_store_rowTo rfl _ _ _ rfl rfl w2.heap.size _ rfl rfl _ _ (heap_alloc_new _ _) (info176 _) (by rw [arr_size]; first | rfl | simp) (arr_one _ _ _) ?_; generalize hV2 : World.setRow _ w2.heap.size _ = V2))
  have hbV : Below V.heap.size V V2 := by rw [← hV2]; exact below_setRow (hb2.alloc hb2.size _) hb2.size _
  have hA : isArr V2 w2.heap.size 32 .u8 176 (Aes.flat key) := by rw [← hV2]; exact setRow_heap _ _ _ _ _ _ (heap_alloc_new _ _)
  have A1 := Lib.hid (And.intro (VA.out.1.below hbV VA.out.1.lt) (And.intro (VA.out.2.below hbV VA.out.2.lt) (And.intro hA (VB.out.trans (hbV.mono (by rw [← hn0]; exact VB.out.size))))))
  clear hV2 hbV hA hb2 L1 L2
  generalize w2.heap.size = g1 at A1 ⊢
  have L1 := cells_at A1.out.1
  have L2 := cells_at A1.out.2.1
  have M1 : ∀ w', Below V2.heap.size V2 w' → ∀ i v, (arr .u8 16 (Aes.ks key m))[i]? = some v → w'.cell? ((⟨g1, m * 16, none⟩ : Addr).add i) = some v := fun w' h => flat_row (A1.out.2.2.1.below h A1.out.2.2.1.lt) m hm11
  refine wp_reg Try.f6 4 20 (fun w' => Below V2.heap.size V2 w') (by kernel_rfl) (by kernel_rfl) (by kernel_rfl) (below_drewN (Below.refl _ _) 1) (fun K hK h0 => ?_)
  refine reg_cast (listed' := #[false, false, false, false, false, false, false, false, false, false, false, false, false, false, false, false, false, false, false, false]) (by kernel_rfl) rfl ?_
  have HF := Lib.hid hK; clear hK
  refine reg_take 1 17 (.int .u8 (n : Int)) (by kernel_rfl) (fun _ _ => by kernel_rfl) h0 ?_
  simp only [Act.put, List.setIfInBounds_toArray, List.set_cons_zero, List.set_cons_succ]
  refine reg_take 2 18 (.int .i64 (n : Int)) (by kernel_rfl) (fun _ _ => exec_conv_u8_i64 (.tmp 17) n (by kernel_rfl) (by kernel_rfl) hn) h0 ?_
  simp only [Act.put, List.setIfInBounds_toArray, List.set_cons_zero, List.set_cons_succ]
  refine reg_take 3 19 (.int .i64 (m : Int)) (by kernel_rfl) (fun _ _ => exec_rem11 (.tmp 18) n m (by kernel_rfl) (by kernel_rfl) hn HM.out) h0 ?_
  simp only [Act.put, List.setIfInBounds_toArray, List.set_cons_zero, List.set_cons_succ]
  refine reg_take 4 20 (.pointer (some ⟨g1, m * 16, none⟩)) (by kernel_rfl) (fun _ _ => exec_addr11 (.tmp 9) (.tmp 19) g1 m (by kernel_rfl) (by kernel_rfl) (by kernel_rfl) hm11) h0 ?_
  simp only [Act.put, List.setIfInBounds_toArray, List.set_cons_zero, List.set_cons_succ]
  refine reg_take 6 22 (.bool last) (by kernel_rfl) (fun _ _ => by kernel_rfl) h0 ?_
  simp only [Act.put, List.setIfInBounds_toArray, List.set_cons_zero, List.set_cons_succ]
  refine reg_take 12 28 (.int .u8 (n : Int)) (by kernel_rfl) (fun _ _ => by kernel_rfl) h0 ?_
  simp only [Act.put, List.setIfInBounds_toArray, List.set_cons_zero, List.set_cons_succ]
  refine reg_take 13 29 (.int .i64 (n : Int)) (by kernel_rfl) (fun _ _ => exec_conv_u8_i64 (.tmp 28) n (by kernel_rfl) (by kernel_rfl) hn) h0 ?_
  simp only [Act.put, List.setIfInBounds_toArray, List.set_cons_zero, List.set_cons_succ]
  refine reg_take 14 30 (.int .i64 (m : Int)) (by kernel_rfl) (fun _ _ => exec_rem11 (.tmp 29) n m (by kernel_rfl) (by kernel_rfl) hn HM.out) h0 ?_
  simp only [Act.put, List.setIfInBounds_toArray, List.set_cons_zero, List.set_cons_succ]
  refine reg_take 16 32 (.bool last) (by kernel_rfl) (fun _ _ => by kernel_rfl) h0 ?_
  simp only [Act.put, List.setIfInBounds_toArray, List.set_cons_zero, List.set_cons_succ]
  refine reg_load 0 16 (by kernel_rfl) _ (.tmp 5) (by kernel_rfl) ⟨n1, 0, none⟩ (by kernel_rfl) (arr .u8 16 b) _ L2 rfl rfl (info16 _) h0 ?_
  simp only [Act.put, List.setIfInBounds_toArray, List.set_cons_zero, List.set_cons_succ]
  refine reg_load 5 21 (by kernel_rfl) _ (.tmp 20) (by kernel_rfl) ⟨g1, m * 16, none⟩ (by kernel_rfl) (arr .u8 16 (Aes.ks key m)) _ M1 rfl rfl (info16 _) h0 ?_
  simp only [Act.put, List.setIfInBounds_toArray, List.set_cons_zero, List.set_cons_succ]
  refine reg_load 8 24 (by kernel_rfl) _ (.tmp 5) (by kernel_rfl) ⟨n1, 0, none⟩ (by kernel_rfl) (arr .u8 16 b) _ L2 rfl rfl (info16 _) h0 ?_
  simp only [Act.put, List.setIfInBounds_toArray, List.set_cons_zero, List.set_cons_succ]
  refine reg_load 9 25 (by kernel_rfl) _ (.tmp 4) (by kernel_rfl) ⟨n0, 0, none⟩ (by kernel_rfl) (arr .u8 16 key) _ L1 rfl rfl (info16 _) h0 ?_
  simp only [Act.put, List.setIfInBounds_toArray, List.set_cons_zero, List.set_cons_succ]
  refine reg_call 7 23 21 #[.agg (arr .u8 16 b), .agg (arr .u8 16 (Aes.ks key m)), .bool last] (by kernel_rfl) (by kernel_rfl) ?_
  refine (aesround_any _ _ _ _ hb (hks m)).mono ?_
  rintro e wz ⟨rfl, hbz⟩
  have h0 := below_then h0 hbz
  refine ⟨_, rfl, h0, ?_⟩
  simp only [Act.put, List.setIfInBounds_toArray, List.set_cons_zero, List.set_cons_succ]
  refine reg_call 10 26 17 #[] (by kernel_rfl) (by kernel_rfl) ?_
  refine (box7_any _).mono ?_
  rintro e wz ⟨rfl, hbz⟩
  have h0 := below_then h0 hbz
  refine ⟨_, rfl, h0, ?_⟩
  simp only [Act.put, List.setIfInBounds_toArray, List.set_cons_zero, List.set_cons_succ]
  refine reg_call 11 27 20 #[.agg (arr .u8 16 key), .agg (arr .u8 256 Fld.sb)] (by kernel_rfl) (by kernel_rfl) ?_
  refine (refkeys_any _ _ hk).mono ?_
  rintro e wz ⟨rfl, hbz⟩
  have h0 := below_then h0 hbz
  refine ⟨_, rfl, h0, ?_⟩
  simp only [Act.put, List.setIfInBounds_toArray, List.set_cons_zero, List.set_cons_succ]
  refine reg_take 15 31 (.agg (arr .u8 16 (Aes.ks key m))) (by kernel_rfl) (fun w' _ => (exec_index_rows (Aes.flat key) m (.tmp 27) (.tmp 30) (by kernel_rfl) (by kernel_rfl) (by kernel_rfl) hm11).trans (by rw [HR2.out])) h0 ?_
  simp only [Act.put, List.setIfInBounds_toArray, List.set_cons_zero, List.set_cons_succ]
  refine reg_call 17 33 17 #[] (by kernel_rfl) (by kernel_rfl) ?_
  refine (box7_any _).mono ?_
  rintro e wz ⟨rfl, hbz⟩
  have h0 := below_then h0 hbz
  refine ⟨_, rfl, h0, ?_⟩
  simp only [Act.put, List.setIfInBounds_toArray, List.set_cons_zero, List.set_cons_succ]
  refine reg_call 18 34 22 #[.agg (arr .u8 16 b), .agg (arr .u8 16 (Aes.ks key m)), .bool last, .agg (arr .u8 256 Fld.sb)] (by kernel_rfl) (by kernel_rfl) ?_
  refine (refround_any _ _ _ _ hb (hks m)).mono ?_
  rintro e wz ⟨rfl, hbz⟩
  have h0 := below_then h0 hbz
  refine ⟨_, rfl, h0, ?_⟩
  simp only [Act.put, List.setIfInBounds_toArray, List.set_cons_zero, List.set_cons_succ]
  refine reg_take 19 35 (.bool false) (by kernel_rfl) (fun w' _ => (exec_neq16 ((Aes.round b (Aes.ks key m) last)) ((Aes.round b (Aes.ks key m) last)) (.tmp 23) (.tmp 34) (by kernel_rfl) (by kernel_rfl) (by kernel_rfl)).trans (by rw [sameArr_refl]; rfl)) h0 ?_
  simp only [Act.put, List.setIfInBounds_toArray, List.set_cons_zero, List.set_cons_succ]
  refine reg_done (by kernel_rfl) (HF.out _ _ ?_)
  clear HF
  obtain ⟨V3, hV3⟩ : ∃ V3 : World, V3 = wz := ⟨_, rfl⟩
  rw [← hV3] at h0 ⊢
  have A2 := Lib.hid (And.intro (A1.out.1.below h0 A1.out.1.lt) (And.intro (A1.out.2.1.below h0 A1.out.2.1.lt) (And.intro (A1.out.2.2.1.below h0 A1.out.2.2.1.lt) (A1.out.2.2.2.trans (h0.mono (by rw [← hn0]; exact A1.out.2.2.2.size))))))
  clear h0 A1 L1 L2 M1 hV3 HR2 hm11 HM
  have kk := A2.out.2.1
  go_upto_region 7 with (first | refine wpList_load_row rfl _ _ rfl n1 rfl _ _ (0, 0) _ kk rfl rfl (info16 _) ?_ | refine wpList_load_arr rfl _ _ rfl ⟨g1, 0 * 16, none⟩ rfl _ _ (flat_row A2.out.2.2.1 0 (by omega)) rfl rfl (info16 _) ?_ | (go_at_call 23; refine (aesxor_any _ _ _ hb (hks 0)).mono ?_; rintro e w3 ⟨rfl, hb3⟩) | (refine wpList_store_rowTo rfl _ _ _ rfl rfl w3.heap.size _ rfl rfl _ _ (heap_alloc_new _ _) (info16 _) (by rw [arr_size]; rfl) (arr_one _ _ _) ?_; generalize hU : World.setRow _ w3.heap.size _ = U))
  have hbU : Below V3.heap.size V3 U := by rw [← hU]; exact below_setRow (hb3.alloc hb3.size _) hb3.size _
  have hA : isArr U w3.heap.size 22 .u8 16 (Aes.st key b 0) := by rw [← hU]; exact setRow_heap _ _ _ _ _ _ (heap_alloc_new _ _)
  have hzz : n0 < w3.heap.size ∧ n1 < w3.heap.size ∧ g1 < w3.heap.size := ⟨Nat.lt_of_lt_of_le A2.out.1.lt hb3.size, Nat.lt_of_lt_of_le A2.out.2.1.lt hb3.size, Nat.lt_of_lt_of_le A2.out.2.2.1.lt hb3.size⟩
  have A3 := Lib.hid (And.intro (A2.out.1.below hbU A2.out.1.lt) (And.intro (A2.out.2.1.below hbU A2.out.2.1.lt) (And.intro (A2.out.2.2.1.below hbU A2.out.2.2.1.lt) (And.intro hA (A2.out.2.2.2.trans (hbU.mono (by rw [← hn0]; exact A2.out.2.2.2.size)))))))
  clear hU hbU hA hb3 kk A2
  generalize w3.heap.size = gx at A3 hzz ⊢
  have hnw : w.heap.size ≤ gx := by omega
  go_wp2_with fail
  go_loopw [11] (fun i wr => ∃ t : Nat, t ≤ 10 ∧ i = .int .i64 ((t + 1 : Nat) : Int) ∧ isArr wr n0 22 .u8 16 key ∧ isArr wr n1 22 .u8 16 b ∧ isArr wr g1 32 .u8 176 (Aes.flat key) ∧ isArr wr gx 22 .u8 16 (Aes.st key b t) ∧ Below n0 w wr) (fun i _ => 11 - (intOf i).toNat)
  case atStart => exact ⟨0, by omega, rfl, A3.out⟩
  case round =>
    clear A3
    obtain ⟨t, ht, rfl, q1, q2, q3, q4, q5⟩ := hrel
    obtain ⟨i, hi⟩ : ∃ i, i = t + 1 := ⟨_, rfl⟩
    rw [← hi]
    by_cases hlt : t < 10
    · have hd : decide ((i : Int) ≤ 10) = true := by simp; omega
      have li : (i : Int) < 11 := by omega
      have ni : 1 ≤ (i : Int) := by omega
      have hst : Aes.round (Aes.st key b t) (Aes.ks key i) ((i : Int) == 10) = Aes.st key b i := by
        rw [hi]
        show Aes.round (Aes.st key b t) (Aes.ks key (t + 1)) _ = Aes.round (Aes.st key b t) (Aes.ks key (t + 1)) (t + 1 == 10)
        congr 1
        rw [Bool.eq_iff_iff, beq_iff_eq, beq_iff_eq]; omega
      have ST := Lib.hid hst
      have C1 := Lib.hid q4.cells
      have C2 := Lib.hid (flat_row q3 i (by omega))
      have HI := Lib.hid hi
      have QQ := Lib.hid (And.intro (q1.drewN 1) (And.intro (q2.drewN 1) (And.intro (q3.drewN 1) (And.intro (q4.drewN 1) (below_drewN q5 1)))))
      clear q1 q2 q3 q4 q5 hst hi hlt ht
      generalize hlb : ((i : Int) == 10) = lb at ST
      go_wp2_with fail
      go_still_tail 6, (by kernel_rfl)
      repeat (first | (refine wpStill_load_arr rfl _ _ rfl ⟨gx, 0, none⟩ rfl _ _ C1.out rfl rfl (info16 _) ?_) | (refine wpStill_load_arr rfl _ _ rfl ⟨g1, i * 16, none⟩ rfl _ _ C2.out rfl rfl (info16 _) ?_) | still_step)
      try refine wpStill_nil ?_
      change wpList _ _ _ _ _ (wr.drewN 1)
      clear C1 C2
      generalize wr.drewN 1 = wd at QQ ⊢
      go_wp2_with (first | (go_at_call 21; refine (aesround_any _ _ _ _ (HS.out _) (hks _)).mono ?_; rintro e w6 ⟨rfl, hb6⟩; have k4 := QQ.out.2.2.2.1.below hb6 QQ.out.2.2.2.1.lt; have Q6 := Lib.hid (And.intro (QQ.out.1.below hb6 QQ.out.1.lt) (And.intro (QQ.out.2.1.below hb6 QQ.out.2.1.lt) (And.intro (QQ.out.2.2.1.below hb6 QQ.out.2.2.1.lt) (QQ.out.2.2.2.2.trans (hb6.mono (by rw [← hn0]; exact QQ.out.2.2.2.2.size)))))); clear hb6 QQ) | (refine wpList_store_row rfl _ _ _ rfl gx _ rfl rfl _ _ k4 (info16 _) ((arr_size _ _ _).trans (arr_size _ _ _).symm) (arr_one _ _ _) ?_))
      have Q7 : Hid (isArr (w6.setRow gx (arr .u8 16 (Aes.round (Aes.st key b t) (Aes.ks key i) lb))) n0 22 .u8 16 key ∧ isArr (w6.setRow gx (arr .u8 16 (Aes.round (Aes.st key b t) (Aes.ks key i) lb))) n1 22 .u8 16 b ∧ isArr (w6.setRow gx (arr .u8 16 (Aes.round (Aes.st key b t) (Aes.ks key i) lb))) g1 32 .u8 176 (Aes.flat key) ∧ isArr (w6.setRow gx (arr .u8 16 (Aes.round (Aes.st key b t) (Aes.ks key i) lb))) gx 22 .u8 16 (Aes.round (Aes.st key b t) (Aes.ks key i) lb) ∧ Below n0 w (w6.setRow gx (arr .u8 16 (Aes.round (Aes.st key b t) (Aes.ks key i) lb)))) := Lib.hid
        ⟨setRow_other Q6.out.1 (by omega) _, setRow_other Q6.out.2.1 (by omega) _, setRow_other Q6.out.2.2.1 (by omega) _, setRow_heap _ _ _ _ _ (0, 0) k4, below_setRow Q6.out.2.2.2 (by omega) _⟩
      rw [ST.out] at Q7
      go_roundw
      case rel => exact ⟨i, by have := HI.out; omega, by go_num, by first | exact Q7.out | (rw [ST.out]; exact Q7.out)⟩
      case measure => simp [intOf]; omega
    · obtain rfl : t = 10 := by omega
      subst hi
      have hd : decide (((11 : Nat) : Int) ≤ 10) = false := by decide
      have QQ := Lib.hid q5
      have L1 := cells_at q1
      have L2 := cells_at q2
      have L3 := cells_at q4
      clear hlt ht q1 q2 q3 q4 q5
      go_wp2_with fail
      refine wp_reg Try.f6 11 6 (fun w' => Below wr.heap.size wr w') (by kernel_rfl) (by kernel_rfl) (by kernel_rfl) (below_drewN (Below.refl _ _) 1) (fun K hK h0 => ?_)
      refine reg_cast (listed' := #[false, false, false, false, false, false]) (by kernel_rfl) rfl ?_
      have HF := Lib.hid hK; clear hK
      refine reg_load 0 51 (by kernel_rfl) _ (.tmp 10) (by kernel_rfl) ⟨gx, 0, none⟩ (by kernel_rfl) (arr .u8 16 (Aes.st key b 10)) _ L3 rfl rfl (info16 _) h0 ?_
      simp only [Act.put, List.setIfInBounds_toArray, List.set_cons_zero, List.set_cons_succ]
      refine reg_load 1 52 (by kernel_rfl) _ (.tmp 4) (by kernel_rfl) ⟨n0, 0, none⟩ (by kernel_rfl) (arr .u8 16 key) _ L1 rfl rfl (info16 _) h0 ?_
      simp only [Act.put, List.setIfInBounds_toArray, List.set_cons_zero, List.set_cons_succ]
      refine reg_load 2 53 (by kernel_rfl) _ (.tmp 5) (by kernel_rfl) ⟨n1, 0, none⟩ (by kernel_rfl) (arr .u8 16 b) _ L2 rfl rfl (info16 _) h0 ?_
      simp only [Act.put, List.setIfInBounds_toArray, List.set_cons_zero, List.set_cons_succ]
      refine reg_call 3 54 14 #[.agg (arr .u8 16 key), .agg (arr .u8 16 b)] (by kernel_rfl) (by kernel_rfl) ?_
      refine (aesencrypt_any _ _ _ hk hb).mono ?_
      rintro e wz ⟨rfl, hbz⟩
      have h0 := below_then h0 hbz
      refine ⟨_, rfl, h0, ?_⟩
      simp only [Act.put, List.setIfInBounds_toArray, List.set_cons_zero, List.set_cons_succ]
      refine reg_take 4 55 (.bool true) (by kernel_rfl) (fun w' _ => (exec_eql16 (Aes.st key b 10) (Aes.enc key b) (.tmp 51) (.tmp 54) (by kernel_rfl) (by kernel_rfl) (by kernel_rfl)).trans (by rw [show Aes.enc key b = Aes.st key b 10 from rfl, sameArr_refl])) h0 ?_
      simp only [Act.put, List.setIfInBounds_toArray, List.set_cons_zero, List.set_cons_succ]
      refine reg_take 5 8 (.bool true) (by kernel_rfl) (fun _ _ => by kernel_rfl) h0 ?_
      simp only [Act.put, List.setIfInBounds_toArray, List.set_cons_zero, List.set_cons_succ]
      refine reg_done (by kernel_rfl) (HF.out _ _ ?_)
      clear HF
      go_wp2_with fail
      go_ret
      subst hn0
      exact ⟨rfl, QQ.out.trans (h0.mono QQ.out.size)⟩

theorem aesRounds_walk (f : Nat → Int) (wf : ∀ j, j < 16 → (Lit.int .u8 (f j)).wf = true) (g : Nat → Int) (wg : ∀ j, j < 16 → (Lit.int .u8 (g j)).wf = true) (last : Bool) (n : Int) (wn : (Lit.int .u8 n).wf = true) (w : World) :
    Calls Try.prog 6 #[.agg ((List.range 16).map fun i => Value.int .u8 (f i)).toArray, .agg ((List.range 16).map fun i => Value.int .u8 (g i)).toArray, .bool last, .int .u8 n] w (RetBool true w) := by
  obtain ⟨key, hk, e1⟩ := bytes_arg f wf
  obtain ⟨b, hb, e2⟩ := bytes_arg g wg
  rw [e1, e2]
  have hn := u8_range wn
  obtain ⟨m, rfl⟩ := Int.eq_ofNat_of_zero_le hn.1
  exact aesRounds_core key b hk hb last m (by omega) w

/-! ### THE ROW's STEP -/
namespace aesRoundsF
theorem own : ownKnob Try.prog.godebug = none := by kernel_rfl
theorem laidOut : laidOutB Try.prog = true := by kernel_rfl
set_option maxRecDepth 100000 in
theorem lifted (os : Os) (started : os.Started) (H : Type) (enc : TypeId × Value → H) :
    ReturnsInHanded {} Try.checked os 6 .any (Rows.aesRoundsSpec.pre6 enc Try.prog Try.f6 Rows.aesRoundsRow.domain false) (Rows.aesRoundsSpec.post enc Try.prog Try.f6 false true false false) := by
  refine returnsInHanded_of_change (C := Try.checked) own started (by kernel_rfl) Try.func6
    (ChangeSpec.witness6 (enc := enc) (C := Try.checked) false ⟨#[], #[.agg #[.int .u8 0, .int .u8 0, .int .u8 0, .int .u8 0, .int .u8 0, .int .u8 0, .int .u8 0, .int .u8 0, .int .u8 0, .int .u8 0, .int .u8 0, .int .u8 0, .int .u8 0, .int .u8 0, .int .u8 0, .int .u8 0], .agg #[.int .u8 0, .int .u8 0, .int .u8 0, .int .u8 0, .int .u8 0, .int .u8 0, .int .u8 0, .int .u8 0, .int .u8 0, .int .u8 0, .int .u8 0, .int .u8 0, .int .u8 0, .int .u8 0, .int .u8 0, .int .u8 0], .bool false, .int .u8 0], []⟩ 8 (by kernel_rfl) (by kernel_rfl) (by kernel_rfl) (by kernel_rfl)) ?_
  intro W base args ds gs before hval0 hW _ _
  have hval : ∀ (j : Nat) t v, Try.f6.params[j]? = some t → args[j]? = some v → Value.okWide Try.prog W .any base t v := hval0
  have hW' := hW
  obtain ⟨p, q, hA0, hV, rfl, _, _⟩ := hW
  have hA : DataW.TrodAll enc Try.prog W 0 (fun _ => true) true Try.f6.params.toList args.toList ds p := hA0
  rw [Try.params6] at hA hval
  obtain ⟨v0, vs0, d0, ds0, p0, q0, hargs, rfl, rfl, h0, r0⟩ := trodAll_cons hA
  obtain ⟨v1, vs1, d1, ds1, p1, q1, rfl, rfl, rfl, h1, r1⟩ := trodAll_cons r0
  obtain ⟨v2, vs2, d2, ds2, p2, q2, rfl, rfl, rfl, h2, r2⟩ := trodAll_cons r1
  obtain ⟨v3, vs3, d3, ds3, p3, q3, rfl, rfl, rfl, h3, r3⟩ := trodAll_cons r2
  obtain ⟨rfl, rfl, rfl⟩ := trodAll_nil r3
  obtain rfl : args = #[v0, v1, v2, v3] := by cases args; simp_all
  obtain ⟨rfl, rfl⟩ := trodVars_none hV
  have k0 := h0
  have lt0 : ∀ x ∈ p0, x.block < W.heap.size := by obtain ⟨m, hm⟩ := k0; exact DataW.trod_lt m _ _ _ hm
  obtain ⟨a0, rfl, w0⟩ := open_int_array Try.underlying22 Try.underlying5 (by kernel_rfl) (by kernel_rfl) (hval 0 22 v0 rfl rfl) h0
  have k1 := h1
  have lt1 : ∀ x ∈ p1, x.block < W.heap.size := by obtain ⟨m, hm⟩ := k1; exact DataW.trod_lt m _ _ _ hm
  obtain ⟨a1, rfl, w1⟩ := open_int_array Try.underlying22 Try.underlying5 (by kernel_rfl) (by kernel_rfl) (hval 1 22 v1 rfl rfl) h1
  have k2 := h2
  have lt2 : ∀ x ∈ p2, x.block < W.heap.size := by obtain ⟨m, hm⟩ := k2; exact DataW.trod_lt m _ _ _ hm
  obtain ⟨a2, rfl, _, _⟩ := open_bool Try.underlying4 (hval 2 4 v2 rfl rfl) h2
  have k3 := h3
  have lt3 : ∀ x ∈ p3, x.block < W.heap.size := by obtain ⟨m, hm⟩ := k3; exact DataW.trod_lt m _ _ _ hm
  obtain ⟨a3, rfl, _, _, w3⟩ := open_int Try.underlying5 (hval 3 5 v3 rfl rfl) h3
  refine (aesRounds_walk a0 w0 a1 w1 a2 a3 w3 W).mono fun e W' ⟨he, bel⟩ => ?_
  subst he
  exact ⟨_, rfl, _, _, _, [], _, [], hW', trodAll_mk1 (shut_bool Try.underlying4 _), (trodAll_cons_mk (Below.trod laidOut (by kernel_rfl) (of_decide_eq_true (by kernel_rfl)) k0 bel lt0) (trodAll_cons_mk (Below.trod laidOut (by kernel_rfl) (of_decide_eq_true (by kernel_rfl)) k1 bel lt1) (trodAll_cons_mk (Below.trod laidOut (by kernel_rfl) (of_decide_eq_true (by kernel_rfl)) k2 bel lt2) (trodAll_cons_mk (Below.trod laidOut (by kernel_rfl) (of_decide_eq_true (by kernel_rfl)) k3 bel lt3) trodAll_mk0)))), rfl, bel.frame _, fun h => by cases h⟩
theorem over : Rows.aesRoundsRow.holds Try.pinned (OpenSpec.ofChange Rows.aesRoundsSpec) :=
  OpenClaim.holds_of_wide 6 Try.f6 rfl rfl rfl rfl rfl rfl rfl ⟨rfl, rfl, rfl, rfl, rfl⟩ rfl rfl rfl rfl rfl (by kernel_rfl) Try.func6 (by kernel_rfl)
    (of_decide_eq_true (by kernel_rfl)) (by unfold Func.isWrapper; first | (rw [if_pos (by decide +kernel)]; kernel_rfl) | (rw [if_neg (by decide +kernel)]; exact ⟨rfl, rfl⟩))
    (fun os started H enc _ => lifted os started H enc)
end aesRoundsF
/-- The statement. -/
theorem aesRounds_holds : Rows.AesRoundsSaid := aesRoundsF.over
#print axioms aesRounds_holds
end Go.Proofs.Ytibgmoapkionjaa
