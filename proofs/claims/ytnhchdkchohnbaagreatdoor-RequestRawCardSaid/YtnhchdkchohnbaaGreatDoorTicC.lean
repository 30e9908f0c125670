/- Layer 12: Number and Bytes of a ticket, in the reference. -/
import Derived.Test.YtnhchdkchohnbaaGreatDoorTicB
namespace Go.Proofs.YtnhchdkchohnbaaGreatDoor
open Go.RowKit Go.Deep

theorem exec_load_one {o : Oper} {a : Act} {w : World} (x : Operand) (ad : Addr) (ty : TypeId) (v : Value) (ho : o.op = .load ty x) (hx : a.eval x = .pointer (some ad))
    (hu : (match Tryz.prog.underlying ty with | some (.struct _) => false | some (.array _ _) => false | some _ => true | none => false) = true) (_hz : (Tryz.prog.info? ty).map (·.size) = some 1) (hc : w.cell? ad = some v) :
    (execOp a.eval o).run Tryz.prog w = .ok (.value v) w := by
  have hagg : (isAgg ty).run Tryz.prog w = .ok false w := by
    unfold isAgg
    cases hd : Tryz.prog.underlying ty with
    | none => rw [hd] at hu; cases hu
    | some d =>
      rw [Sem.run_bind, run_underlying hd w]
      rw [hd] at hu
      cases d <;> simp_all
  unfold execOp
  simp only [ho, hx, Instr.loadAt, Instr.sureAddr, Sem.run_bind, Sem.run_pure, Result.andThen_ok]
  simp [loadVar, Sem.run_bind, hagg]
  go_simp
section
variable {ops : Array Oper} {Q : Exit → Act → World → Prop} {md : Region.Mode} {S : World → Prop} {fuel : Nat} {listed : Array Bool} {a : Act} {w : World}
theorem exec_lists_five (o : Oper) (a : Act) (w : World) (x1 x2 x3 x4 x5 : Operand) (p1 p2 p3 p4 p5 : Option Addr) (n1 n2 n3 n4 n5 m1 m2 m3 m4 m5 : Nat) (ho : o.op = .buildSlice 95 5 #[(0, x1), (1, x2), (2, x3), (3, x4), (4, x5)]) (h1 : a.eval x1 = .slice p1 n1 m1) (h2 : a.eval x2 = .slice p2 n2 m2) (h3 : a.eval x3 = .slice p3 n3 m3) (h4 : a.eval x4 = .slice p4 n4 m4) (h5 : a.eval x5 = .slice p5 n5 m5) :
    (execOp a.eval o).run Tryz.prog w = .ok (.value (.slice (some ⟨w.heap.size, 0, none⟩) 5 5)) (w.alloc (.cells #[.slice p1 n1 m1, .slice p2 n2 m2, .slice p3 n3 m3, .slice p4 n4 m4, .slice p5 n5 m5] 24)) := by
  unfold execOp
  simp only [ho]
  rw [show (#[(0, x1), (1, x2), (2, x3), (3, x4), (4, x5)] : Array (Nat × Operand)).map (fun (i, x) => (i, a.eval x)) = #[(0, .slice p1 n1 m1), (1, .slice p2 n2 m2), (2, .slice p3 n3 m3), (3, .slice p4 n4 m4), (4, .slice p5 n5 m5)] by simp [h1, h2, h3, h4, h5]]
  kernel_rfl
theorem HStep.lists5 {i : Nat} {o : Oper} (dst : Option Tmp) (hdst : o.dst = dst) (hw : Region.wanted o (yielded ops a.tmps) = true) (x1 x2 x3 x4 x5 : Operand) (u1 u2 u3 u4 u5 : Value) (l1 l2 l3 l4 l5 : List Nat) (ho : o.op = .buildSlice 95 5 #[(0, x1), (1, x2), (2, x3), (3, x4), (4, x5)]) (h1 : a.eval x1 = u1) (h2 : a.eval x2 = u2) (h3 : a.eval x3 = u3) (h4 : a.eval x4 = u4) (h5 : a.eval x5 = u5)
    (k1 : Rs w u1 l1) (k2 : Rs w u2 l2) (k3 : Rs w u3 l3) (k4 : Rs w u4 l4) (k5 : Rs w u5 l5)
    (hS : ∀ w', Below w.heap.size w w' → S w')
    (h : ∀ (w' : World) (v : Value), Below w.heap.size w w' → Bss w' v [l1, l2, l3, l4, l5] → wpAnyH Tryz.prog md ops Q S fuel (listed.setIfInBounds i true) (a.put dst v) w') : HStep Tryz.prog md ops Q S fuel listed a w i o := by
  obtain ⟨p1, m1, rfl⟩ := k1.form
  obtain ⟨p2, m2, rfl⟩ := k2.form
  obtain ⟨p3, m3, rfl⟩ := k3.form
  obtain ⟨p4, m4, rfl⟩ := k4.form
  obtain ⟨p5, m5, rfl⟩ := k5.form
  exact HStep.value dst hdst hw _ _ (exec_lists_five o a w x1 x2 x3 x4 x5 p1 p2 p3 p4 p5 _ _ _ _ _ m1 m2 m3 m4 m5 ho h1 h2 h3 h4 h5) (hS _ ((Below.refl _ _).alloc (Nat.le_refl _) _)) (h _ _ ((Below.refl _ _).alloc (Nat.le_refl _) _) (bss_five k1 k2 k3 k4 k5))
end
set_option maxRecDepth 100000 in
theorem refnumber8_any (x : Nat) (w : World) (hx : x < 9223372036854775808) : Calls Tryz.prog 81 #[.int .i64 (x : Int)] w (RetOwn (Wir.enc 8 x) w) := by
  have hwx : IntKind.u64.wrap (x : Int) = (x : Int) := by simp only [IntKind.wrap_u64]; omega
  go_enter Tryz.func81, Tryz.ntmps81
  go_wp2_with fail
  refine (refPut_any 8 x _ (by omega)).mono ?_
  rintro e w1 ⟨hb1, ht⟩
  have e8 : Wir.putNumber 8 x = some (Wir.enc 8 x) := putNumber_enc 8 x (by omega) (by omega)
  rw [e8] at ht
  rcases ht with ⟨hno, _⟩ | ⟨l1, u1, hl1, rfl, o1⟩
  · cases hno
  cases hl1
  go_wp2_with fail
  go_ret
  exact ⟨_, rfl, o1, hb1⟩
/-- What a load of the name in a ticket's block reads. -/
theorem Tb.cn {W : World} {b : Nat} {r : ByteArray} {u : Value} {ss : List ByteArray} {s e : Int} {key : Nat → Nat} (h : Tb W b r u ss s e key) : ∀ (j : Nat) (v : Value), (#[.string r, u] : Array Value)[j]? = some v → W.cell? ((⟨b, 0, none⟩ : Addr).add j) = some v := fun j v hj => by
  rw [Addr.add_lit, Nat.zero_add]
  match j, hj with
  | 0, hj => cases hj; exact h.c0
  | 1, hj => cases hj; exact h.c1
attribute [local irreducible] wpAnyH in
set_option maxRecDepth 100000 in
set_option maxHeartbeats 4000000 in
theorem reftkbytes_any (r : ByteArray) (u : Value) (ss : List ByteArray) (s e : Int) (key : Nat → Nat) (w : World) (hr : r.size ≤ maxLen) (hk : Aes.B8 key) (h : Ss w u ss) (hv : Tic.valid (tic r ss s e key) = true) :
    Calls Tryz.prog 47 #[.agg (tk r u s e key)] w (RetOwn (Tic.bytes (tic r ss s e key)) w) := by
  have hsz := tk_size r u s e key
  have T0 := Tb.new (W := w) (s := s) (e := e) h hr hk
  have G0 := below_of_only (only_alloc (only_refl w none) (.cells (tk r u s e key) 41))
  have hlt : w.heap.size < (w.alloc (.cells (tk r u s e key) 41)).heap.size := by simp
  obtain ⟨ua, uc, rfl⟩ := h.form
  obtain ⟨v1, v2, v3, v4⟩ := (Tic.valid_iff _).1 hv
  have hnl := Nam.bytes_len v1
  dsimp only [tic] at v1 v2 v3 v4 hnl
  obtain ⟨a, rfl⟩ := Int.eq_ofNat_of_zero_le v2
  obtain ⟨b, rfl⟩ := Int.eq_ofNat_of_zero_le (Int.le_trans v2 v3)
  have hbt : Tic.bytes (tic r ss a b key) = Wir.join [[1], Nam.bytes (nm r ss), Wir.enc 8 a, Wir.enc 8 b, Sea.nl 16 key] := by
    unfold Tic.bytes tic Wir.join
    simp
  have hjl : (Wir.join [[1], Nam.bytes (nm r ss), Wir.enc 8 a, Wir.enc 8 b, Sea.nl 16 key]).length ≤ 140737488355328 := by
    unfold Wir.join
    simp only [List.flatten_cons, List.flatten_nil, List.length_append, List.length_cons, List.length_nil, Wir.enc_length, Sea.nl_length]
    omega
  rw [hbt]
  clear h hv hbt v2 hnl
  go_enter Tryz.func47, Tryz.ntmps47
  go_upto_region 1 with fail
  generalize w.alloc (.cells (tk r (.slice ua ss.length uc) a b key) 41) = V at *
  generalize hB : w.heap.size = B at *
  refine wp_reg Tryz.f47 1 15 (fun w' => Below V.heap.size V w') (by kernel_rfl) (by kernel_rfl) (by kernel_rfl) (below_drewN (Below.refl _ _) 1) (fun K hK h0 => ?_)
  refine reg_cast (listed' := #[false, false, false, false, false, false, false, false, false, false, false, false, false, false, false]) (by kernel_rfl) rfl ?_
  have HF := Lib.hid hK; clear hK
  refine reg_take 1 4 (.pointer (some ⟨B, 0, none⟩)) (by kernel_rfl) (fun _ _ => by kernel_rfl) h0 ?_
  simp only [Act.put, List.setIfInBounds_toArray, List.set_cons_zero, List.set_cons_succ]
  refine reg_load 2 5 (by kernel_rfl) 29 (.tmp 4) (by kernel_rfl) ⟨B, 0, none⟩ (by kernel_rfl) #[.string r, .slice ua ss.length uc] _ (fun w' hw' => (T0.below hw').cn) Tryz.underlying29 rfl (by kernel_rfl) h0 ?_
  simp only [Act.put, List.setIfInBounds_toArray, List.set_cons_zero, List.set_cons_succ]
  refine reg_take 4 7 (.pointer (some ⟨B, 2, none⟩)) (by kernel_rfl) (fun _ _ => by kernel_rfl) h0 ?_
  simp only [Act.put, List.setIfInBounds_toArray, List.set_cons_zero, List.set_cons_succ]
  refine reg_take 5 8 (.int .i64 (a : Int)) (by kernel_rfl) (fun w' hw' => exec_load_one (.tmp 7) ⟨B, 2, none⟩ 2 (.int .i64 (a : Int)) (by kernel_rfl) (by kernel_rfl) (by kernel_rfl) (by kernel_rfl) ((fun w' hw' => (T0.below hw').c2) w' hw')) h0 ?_
  simp only [Act.put, List.setIfInBounds_toArray, List.set_cons_zero, List.set_cons_succ]
  refine reg_take 7 10 (.pointer (some ⟨B, 3, none⟩)) (by kernel_rfl) (fun _ _ => by kernel_rfl) h0 ?_
  simp only [Act.put, List.setIfInBounds_toArray, List.set_cons_zero, List.set_cons_succ]
  refine reg_take 8 11 (.int .i64 (b : Int)) (by kernel_rfl) (fun w' hw' => exec_load_one (.tmp 10) ⟨B, 3, none⟩ 2 (.int .i64 (b : Int)) (by kernel_rfl) (by kernel_rfl) (by kernel_rfl) (by kernel_rfl) ((fun w' hw' => (T0.below hw').c3) w' hw')) h0 ?_
  simp only [Act.put, List.setIfInBounds_toArray, List.set_cons_zero, List.set_cons_succ]
  refine reg_take 10 13 (.pointer (some ⟨B, 4, none⟩)) (by kernel_rfl) (fun _ _ => by kernel_rfl) h0 ?_
  simp only [Act.put, List.setIfInBounds_toArray, List.set_cons_zero, List.set_cons_succ]
  refine reg_take 11 14 (.slice (some ⟨B, 4, none⟩) 16 16) (by kernel_rfl) (fun _ _ => by kernel_rfl) h0 ?_
  simp only [Act.put, List.setIfInBounds_toArray, List.set_cons_zero, List.set_cons_succ]
  refine reg_two 0 3 (by kernel_rfl) (by kernel_rfl) (HStep.byte (some 3) (by kernel_rfl) (by kernel_rfl) (.const (.int .u8 1)) 1 (by kernel_rfl) rfl (by omega) (fun w' k => h0.trans (k.mono h0.size)) ?_) (HStep.call (some 6) (by kernel_rfl) (by kernel_rfl) 80 #[.agg #[.string r, .slice ua ss.length uc]] (by kernel_rfl) ?_)
  · intro w1 g1 hb_1 r1
    have h_1 := h0.trans (hb_1.mono h0.size)
    simp only [Act.put, List.setIfInBounds_toArray, List.set_cons_zero, List.set_cons_succ]
    refine reg_one 3 (by kernel_rfl) (by kernel_rfl) (HStep.call (some 6) (by kernel_rfl) (by kernel_rfl) 80 #[.agg #[.string r, .slice ua ss.length uc]] (by kernel_rfl) ?_)
    refine (refbytes_any r _ ss _ (T0.below h_1).2.1 v1).mono ?_
    rintro e w2 ⟨vN, rfl, oN, hq⟩
    obtain ⟨xN, yN, rfl⟩ := oN.form
    have hb_2 := hq
    have h_2 := h_1.trans (hb_2.mono h_1.size)
    have r1 := r1.below hb_2
    refine ⟨_, rfl, h_2, ?_⟩
    simp only [Act.put, List.setIfInBounds_toArray, List.set_cons_zero, List.set_cons_succ]
    refine reg_one 6 (by kernel_rfl) (by kernel_rfl) (HStep.call (some 9) (by kernel_rfl) (by kernel_rfl) 81 #[.int .i64 (a : Int)] (by kernel_rfl) ?_)
    refine (refnumber8_any a _ (by omega)).mono ?_
    rintro e w3 ⟨vS, rfl, oS, hq⟩
    obtain ⟨xS, yS, rfl⟩ := oS.form
    have hb_3 := hq
    have h_3 := h_2.trans (hb_3.mono h_2.size)
    have r1 := r1.below hb_3
    have oN := oN.below hb_3
    refine ⟨_, rfl, h_3, ?_⟩
    simp only [Act.put, List.setIfInBounds_toArray, List.set_cons_zero, List.set_cons_succ]
    refine reg_one 9 (by kernel_rfl) (by kernel_rfl) (HStep.call (some 12) (by kernel_rfl) (by kernel_rfl) 81 #[.int .i64 (b : Int)] (by kernel_rfl) ?_)
    refine (refnumber8_any b _ (by omega)).mono ?_
    rintro e w4 ⟨vE, rfl, oE, hq⟩
    obtain ⟨xE, yE, rfl⟩ := oE.form
    have hb_4 := hq
    have h_4 := h_3.trans (hb_4.mono h_3.size)
    have r1 := r1.below hb_4
    have oN := oN.below hb_4
    have oS := oS.below hb_4
    refine ⟨_, rfl, h_4, ?_⟩
    simp only [Act.put, List.setIfInBounds_toArray, List.set_cons_zero, List.set_cons_succ]
    refine reg_one 12 (by kernel_rfl) (by kernel_rfl) (HStep.lists5 (some 15) (by kernel_rfl) (by kernel_rfl) (.tmp 3) (.tmp 6) (.tmp 9) (.tmp 12) (.tmp 14) _ _ _ _ _ _ _ _ _ _ (by kernel_rfl) rfl rfl rfl rfl rfl r1 oN.bs.rs oS.bs.rs oE.bs.rs (T0.below h_4).key_rs  (fun w' k => h_4.trans (k.mono h_4.size)) ?_)
    intro w5 v5 hb_5 hbss
    have h_5 := h_4.trans (hb_5.mono h_4.size)
    have r1 := r1.below hb_5
    have oN := oN.below hb_5
    have oS := oS.below hb_5
    have oE := oE.below hb_5
    simp only [Act.put, List.setIfInBounds_toArray, List.set_cons_zero, List.set_cons_succ]
    refine reg_one 13 (by kernel_rfl) (by kernel_rfl) (HStep.call (some 16) (by kernel_rfl) (by kernel_rfl) 52 #[v5] (by kernel_rfl) ?_)
    refine (refJoin_any _ _ _ hbss hjl).mono ?_
    rintro e w6 ⟨vJ, rfl, oJ, hq⟩
    have oJ := oJ.mono (base' := V.heap.size) h_5.size
    have hb_6 := hq
    have h_6 := h_5.trans (hb_6.mono h_5.size)
    have r1 := r1.below hb_6
    have oN := oN.below hb_6
    have oS := oS.below hb_6
    have oE := oE.below hb_6
    have hbss := hbss.below hb_6
    refine ⟨_, rfl, h_6, ?_⟩
    simp only [Act.put, List.setIfInBounds_toArray, List.set_cons_zero, List.set_cons_succ]
    refine reg_take 14 2 (vJ) (by kernel_rfl) (fun _ _ => by kernel_rfl) h_6 ?_
    simp only [Act.put, List.setIfInBounds_toArray, List.set_cons_zero, List.set_cons_succ]
    refine reg_done (by kernel_rfl) (HF.out _ _ ?_)
    subst hB
    have BF := G0.trans (h_6.mono G0.size)
    have OF := oJ.mono G0.size
    go_wp2_with fail
    go_ret
    exact ⟨_, rfl, OF, BF⟩
  · refine (refbytes_any r _ ss _ (T0.below h0).2.1 v1).mono ?_
    rintro e w7 ⟨vN, rfl, oN, hq⟩
    obtain ⟨xN, yN, rfl⟩ := oN.form
    have hb_7 := hq
    have h_7 := h0.trans (hb_7.mono h0.size)
    refine ⟨_, rfl, h_7, ?_⟩
    simp only [Act.put, List.setIfInBounds_toArray, List.set_cons_zero, List.set_cons_succ]
    refine reg_two 0 6 (by kernel_rfl) (by kernel_rfl) (HStep.byte (some 3) (by kernel_rfl) (by kernel_rfl) (.const (.int .u8 1)) 1 (by kernel_rfl) rfl (by omega) (fun w' k => h_7.trans (k.mono h_7.size)) ?_) (HStep.call (some 9) (by kernel_rfl) (by kernel_rfl) 81 #[.int .i64 (a : Int)] (by kernel_rfl) ?_)
    · intro w8 g8 hb_8 r1
      have h_8 := h_7.trans (hb_8.mono h_7.size)
      have oN := oN.below hb_8
      simp only [Act.put, List.setIfInBounds_toArray, List.set_cons_zero, List.set_cons_succ]
      refine reg_one 6 (by kernel_rfl) (by kernel_rfl) (HStep.call (some 9) (by kernel_rfl) (by kernel_rfl) 81 #[.int .i64 (a : Int)] (by kernel_rfl) ?_)
      refine (refnumber8_any a _ (by omega)).mono ?_
      rintro e w9 ⟨vS, rfl, oS, hq⟩
      obtain ⟨xS, yS, rfl⟩ := oS.form
      have hb_9 := hq
      have h_9 := h_8.trans (hb_9.mono h_8.size)
      have oN := oN.below hb_9
      have r1 := r1.below hb_9
      refine ⟨_, rfl, h_9, ?_⟩
      simp only [Act.put, List.setIfInBounds_toArray, List.set_cons_zero, List.set_cons_succ]
      refine reg_one 9 (by kernel_rfl) (by kernel_rfl) (HStep.call (some 12) (by kernel_rfl) (by kernel_rfl) 81 #[.int .i64 (b : Int)] (by kernel_rfl) ?_)
      refine (refnumber8_any b _ (by omega)).mono ?_
      rintro e w10 ⟨vE, rfl, oE, hq⟩
      obtain ⟨xE, yE, rfl⟩ := oE.form
      have hb_10 := hq
      have h_10 := h_9.trans (hb_10.mono h_9.size)
      have oN := oN.below hb_10
      have r1 := r1.below hb_10
      have oS := oS.below hb_10
      refine ⟨_, rfl, h_10, ?_⟩
      simp only [Act.put, List.setIfInBounds_toArray, List.set_cons_zero, List.set_cons_succ]
      refine reg_one 12 (by kernel_rfl) (by kernel_rfl) (HStep.lists5 (some 15) (by kernel_rfl) (by kernel_rfl) (.tmp 3) (.tmp 6) (.tmp 9) (.tmp 12) (.tmp 14) _ _ _ _ _ _ _ _ _ _ (by kernel_rfl) rfl rfl rfl rfl rfl r1 oN.bs.rs oS.bs.rs oE.bs.rs (T0.below h_10).key_rs  (fun w' k => h_10.trans (k.mono h_10.size)) ?_)
      intro w11 v11 hb_11 hbss
      have h_11 := h_10.trans (hb_11.mono h_10.size)
      have oN := oN.below hb_11
      have r1 := r1.below hb_11
      have oS := oS.below hb_11
      have oE := oE.below hb_11
      simp only [Act.put, List.setIfInBounds_toArray, List.set_cons_zero, List.set_cons_succ]
      refine reg_one 13 (by kernel_rfl) (by kernel_rfl) (HStep.call (some 16) (by kernel_rfl) (by kernel_rfl) 52 #[v11] (by kernel_rfl) ?_)
      refine (refJoin_any _ _ _ hbss hjl).mono ?_
      rintro e w12 ⟨vJ, rfl, oJ, hq⟩
      have oJ := oJ.mono (base' := V.heap.size) h_11.size
      have hb_12 := hq
      have h_12 := h_11.trans (hb_12.mono h_11.size)
      have oN := oN.below hb_12
      have r1 := r1.below hb_12
      have oS := oS.below hb_12
      have oE := oE.below hb_12
      have hbss := hbss.below hb_12
      refine ⟨_, rfl, h_12, ?_⟩
      simp only [Act.put, List.setIfInBounds_toArray, List.set_cons_zero, List.set_cons_succ]
      refine reg_take 14 2 (vJ) (by kernel_rfl) (fun _ _ => by kernel_rfl) h_12 ?_
      simp only [Act.put, List.setIfInBounds_toArray, List.set_cons_zero, List.set_cons_succ]
      refine reg_done (by kernel_rfl) (HF.out _ _ ?_)
      subst hB
      have BF := G0.trans (h_12.mono G0.size)
      have OF := oJ.mono G0.size
      go_wp2_with fail
      go_ret
      exact ⟨_, rfl, OF, BF⟩
    · refine (refnumber8_any a _ (by omega)).mono ?_
      rintro e w13 ⟨vS, rfl, oS, hq⟩
      obtain ⟨xS, yS, rfl⟩ := oS.form
      have hb_13 := hq
      have h_13 := h_7.trans (hb_13.mono h_7.size)
      have oN := oN.below hb_13
      refine ⟨_, rfl, h_13, ?_⟩
      simp only [Act.put, List.setIfInBounds_toArray, List.set_cons_zero, List.set_cons_succ]
      refine reg_two 0 9 (by kernel_rfl) (by kernel_rfl) (HStep.byte (some 3) (by kernel_rfl) (by kernel_rfl) (.const (.int .u8 1)) 1 (by kernel_rfl) rfl (by omega) (fun w' k => h_13.trans (k.mono h_13.size)) ?_) (HStep.call (some 12) (by kernel_rfl) (by kernel_rfl) 81 #[.int .i64 (b : Int)] (by kernel_rfl) ?_)
      · intro w14 g14 hb_14 r1
        have h_14 := h_13.trans (hb_14.mono h_13.size)
        have oN := oN.below hb_14
        have oS := oS.below hb_14
        simp only [Act.put, List.setIfInBounds_toArray, List.set_cons_zero, List.set_cons_succ]
        refine reg_one 9 (by kernel_rfl) (by kernel_rfl) (HStep.call (some 12) (by kernel_rfl) (by kernel_rfl) 81 #[.int .i64 (b : Int)] (by kernel_rfl) ?_)
        refine (refnumber8_any b _ (by omega)).mono ?_
        rintro e w15 ⟨vE, rfl, oE, hq⟩
        obtain ⟨xE, yE, rfl⟩ := oE.form
        have hb_15 := hq
        have h_15 := h_14.trans (hb_15.mono h_14.size)
        have oN := oN.below hb_15
        have oS := oS.below hb_15
        have r1 := r1.below hb_15
        refine ⟨_, rfl, h_15, ?_⟩
        simp only [Act.put, List.setIfInBounds_toArray, List.set_cons_zero, List.set_cons_succ]
        refine reg_one 12 (by kernel_rfl) (by kernel_rfl) (HStep.lists5 (some 15) (by kernel_rfl) (by kernel_rfl) (.tmp 3) (.tmp 6) (.tmp 9) (.tmp 12) (.tmp 14) _ _ _ _ _ _ _ _ _ _ (by kernel_rfl) rfl rfl rfl rfl rfl r1 oN.bs.rs oS.bs.rs oE.bs.rs (T0.below h_15).key_rs  (fun w' k => h_15.trans (k.mono h_15.size)) ?_)
        intro w16 v16 hb_16 hbss
        have h_16 := h_15.trans (hb_16.mono h_15.size)
        have oN := oN.below hb_16
        have oS := oS.below hb_16
        have r1 := r1.below hb_16
        have oE := oE.below hb_16
        simp only [Act.put, List.setIfInBounds_toArray, List.set_cons_zero, List.set_cons_succ]
        refine reg_one 13 (by kernel_rfl) (by kernel_rfl) (HStep.call (some 16) (by kernel_rfl) (by kernel_rfl) 52 #[v16] (by kernel_rfl) ?_)
        refine (refJoin_any _ _ _ hbss hjl).mono ?_
        rintro e w17 ⟨vJ, rfl, oJ, hq⟩
        have oJ := oJ.mono (base' := V.heap.size) h_16.size
        have hb_17 := hq
        have h_17 := h_16.trans (hb_17.mono h_16.size)
        have oN := oN.below hb_17
        have oS := oS.below hb_17
        have r1 := r1.below hb_17
        have oE := oE.below hb_17
        have hbss := hbss.below hb_17
        refine ⟨_, rfl, h_17, ?_⟩
        simp only [Act.put, List.setIfInBounds_toArray, List.set_cons_zero, List.set_cons_succ]
        refine reg_take 14 2 (vJ) (by kernel_rfl) (fun _ _ => by kernel_rfl) h_17 ?_
        simp only [Act.put, List.setIfInBounds_toArray, List.set_cons_zero, List.set_cons_succ]
        refine reg_done (by kernel_rfl) (HF.out _ _ ?_)
        subst hB
        have BF := G0.trans (h_17.mono G0.size)
        have OF := oJ.mono G0.size
        go_wp2_with fail
        go_ret
        exact ⟨_, rfl, OF, BF⟩
      · refine (refnumber8_any b _ (by omega)).mono ?_
        rintro e w18 ⟨vE, rfl, oE, hq⟩
        obtain ⟨xE, yE, rfl⟩ := oE.form
        have hb_18 := hq
        have h_18 := h_13.trans (hb_18.mono h_13.size)
        have oN := oN.below hb_18
        have oS := oS.below hb_18
        refine ⟨_, rfl, h_18, ?_⟩
        simp only [Act.put, List.setIfInBounds_toArray, List.set_cons_zero, List.set_cons_succ]
        refine reg_one 0 (by kernel_rfl) (by kernel_rfl) (HStep.byte (some 3) (by kernel_rfl) (by kernel_rfl) (.const (.int .u8 1)) 1 (by kernel_rfl) rfl (by omega) (fun w' k => h_18.trans (k.mono h_18.size)) ?_)
        intro w19 g19 hb_19 r1
        have h_19 := h_18.trans (hb_19.mono h_18.size)
        have oN := oN.below hb_19
        have oS := oS.below hb_19
        have oE := oE.below hb_19
        simp only [Act.put, List.setIfInBounds_toArray, List.set_cons_zero, List.set_cons_succ]
        refine reg_one 12 (by kernel_rfl) (by kernel_rfl) (HStep.lists5 (some 15) (by kernel_rfl) (by kernel_rfl) (.tmp 3) (.tmp 6) (.tmp 9) (.tmp 12) (.tmp 14) _ _ _ _ _ _ _ _ _ _ (by kernel_rfl) rfl rfl rfl rfl rfl r1 oN.bs.rs oS.bs.rs oE.bs.rs (T0.below h_19).key_rs  (fun w' k => h_19.trans (k.mono h_19.size)) ?_)
        intro w20 v20 hb_20 hbss
        have h_20 := h_19.trans (hb_20.mono h_19.size)
        have oN := oN.below hb_20
        have oS := oS.below hb_20
        have oE := oE.below hb_20
        have r1 := r1.below hb_20
        simp only [Act.put, List.setIfInBounds_toArray, List.set_cons_zero, List.set_cons_succ]
        refine reg_one 13 (by kernel_rfl) (by kernel_rfl) (HStep.call (some 16) (by kernel_rfl) (by kernel_rfl) 52 #[v20] (by kernel_rfl) ?_)
        refine (refJoin_any _ _ _ hbss hjl).mono ?_
        rintro e w21 ⟨vJ, rfl, oJ, hq⟩
        have oJ := oJ.mono (base' := V.heap.size) h_20.size
        have hb_21 := hq
        have h_21 := h_20.trans (hb_21.mono h_20.size)
        have oN := oN.below hb_21
        have oS := oS.below hb_21
        have oE := oE.below hb_21
        have r1 := r1.below hb_21
        have hbss := hbss.below hb_21
        refine ⟨_, rfl, h_21, ?_⟩
        simp only [Act.put, List.setIfInBounds_toArray, List.set_cons_zero, List.set_cons_succ]
        refine reg_take 14 2 (vJ) (by kernel_rfl) (fun _ _ => by kernel_rfl) h_21 ?_
        simp only [Act.put, List.setIfInBounds_toArray, List.set_cons_zero, List.set_cons_succ]
        refine reg_done (by kernel_rfl) (HF.out _ _ ?_)
        subst hB
        have BF := G0.trans (h_21.mono G0.size)
        have OF := oJ.mono G0.size
        go_wp2_with fail
        go_ret
        exact ⟨_, rfl, OF, BF⟩

end Go.Proofs.YtnhchdkchohnbaaGreatDoor
