/- Layer 14: a request in memory; head, Size and Bytes. -/
import Derived.Test.YtnhchdkchohnbaaGreatDoorAutG
namespace Go.Proofs.YtnhchdkchohnbaaGreatDoor
open Go.RowKit Go.Deep

def Qb (W : World) (b : Nat) (u : Value) (x : List Nat) (v : Value) (y : List Nat) : Prop := Hb W b #[u, v] 59 ∧ Rs W u x ∧ Rs W v y
section
variable {W : World} {b : Nat} {u v : Value} {x y : List Nat}
theorem Qb.below {W' : World} (h : Qb W b u x v y) (k : Below W.heap.size W W') : Qb W' b u x v y := ⟨(k.block b h.1.lt).trans h.1, h.2.1.below k, h.2.2.below k⟩
theorem Qb.only {W' : World} (h : Qb W b u x v y) (k : W.grownBy W' none) : Qb W' b u x v y := h.below (below_of_only k)
theorem Qb.new (hu : Rs W u x) (hv : Rs W v y) : Qb (W.alloc (.cells #[u, v] 59)) W.heap.size u x v y :=
  ⟨Hb.new _ _ _, hu.below (below_of_only (only_alloc (only_refl W none) _)), hv.below (below_of_only (only_alloc (only_refl W none) _))⟩
theorem Qb.c0 (h : Qb W b u x v y) : W.cell? ⟨b, 0, none⟩ = some u := h.1.cell (i := 0) rfl
theorem Qb.c1 (h : Qb W b u x v y) : W.cell? ⟨b, 1, none⟩ = some v := h.1.cell (i := 1) rfl
end
set_option maxRecDepth 100000 in
theorem info_rq (u v : Value) : (Tryz.prog.info? 59).map (·.size) = some (#[u, v] : Array Value).size := by rw [show (#[u, v] : Array Value).size = 2 from rfl]; kernel_rfl
set_option maxRecDepth 100000 in
theorem info_h3 : (Tryz.prog.info? 102).map (·.size) = some (#[.int .u8 65, .int .u8 80, .int .u8 1] : Array Value).size := by rw [show (#[.int .u8 65, .int .u8 80, .int .u8 1] : Array Value).size = 3 from rfl]; kernel_rfl
theorem h3_one : (#[.int .u8 65, .int .u8 80, .int .u8 1] : Array Value).all (·.oneCell') = true := by simp only [List.all_toArray, List.all_cons, List.all_nil]; rfl
theorem h3_rs {W : World} {b : Nat} (h : Hb W b #[.int .u8 65, .int .u8 80, .int .u8 1] 102) : Rs W (.slice (some ⟨b, 0, none⟩) 3 3) [65, 80, 1] :=
  ⟨fun i hi => by simp at hi; omega, by decide, .inr ⟨_, 3, rfl, by decide, fun i hi => by
    rw [Addr.add_lit, Nat.zero_add]
    match i, hi with
    | 0, _ => exact h.cell (i := 0) rfl
    | 1, _ => exact h.cell (i := 1) rfl
    | 2, _ => exact h.cell (i := 2) rfl⟩⟩
theorem bss_three {w : World} {u v x : Value} {a b c : List Nat} (hu : Rs w u a) (hv : Rs w v b) (hx : Rs w x c) : Bss (w.alloc (.cells #[u, v, x] 24)) (.slice (some ⟨w.heap.size, 0, none⟩) 3 3) [a, b, c] :=
  bss_built w [u, v, x] [a, b, c] rfl (by simp) fun i t ht => by
    match i with
    | 0 => simp at ht; subst ht; exact hu
    | 1 => simp at ht; subst ht; exact hv
    | 2 => simp at ht; subst ht; exact hx
    | _ + 3 => simp at ht
theorem putString_two (l : List Nat) (h : l.length < 65536) : Wir.putString 2 l = some (Wir.enc 2 l.length ++ l) := by
  have := putNumber_enc 2 l.length (by omega) (by omega)
  unfold Wir.putString
  rw [show ((2 : Int)) = ((2 : Nat) : Int) from rfl, this]; rfl
set_option maxRecDepth 100000 in
theorem head_any (w : World) : Calls Tryz.prog 56 #[] w fun e w' => e = .returned (.agg #[.int .u8 65, .int .u8 80, .int .u8 1]) ∧ w.grownBy w' none := by
  have H := Hb.new w #[.int .u8 65, .int .u8 80, .int .u8 1] 102
  go_enter Tryz.func56, Tryz.ntmps56
  go_wp2_with fail
  refine bodyPost_ret (results_cell_row rfl _ _ w.heap.size _ _ (0, 0) _ rfl H rfl rfl (by kernel_rfl)) rfl ?_
  exact ⟨rfl, only_alloc (only_refl w none) _⟩
set_option maxRecDepth 100000 in
set_option maxHeartbeats 4000000 in
attribute [local irreducible] wpAnyH in
theorem rqsize_any (u v : Value) (x y : List Nat) (w : World) (hu : Rs w u x) (hv : Rs w v y) (hx : x.length ≤ 1000000000) (hy : y.length ≤ 1000000000) :
    Calls Tryz.prog 41 #[.agg #[u, v]] w fun e w' => e = .returned (.int .i64 ((7 + x.length + y.length : Nat) : Int)) ∧ w.grownBy w' none := by
  have T0 := Qb.new hu hv
  have G0 := only_alloc (only_refl w none) (.cells #[u, v] 59)
  obtain ⟨ua, uc, rfl⟩ := hu.form
  obtain ⟨va, vc, rfl⟩ := hv.form
  clear hu hv
  obtain ⟨n1, hn1⟩ : ∃ n, IntKind.i64.wrap (5 + (x.length : Int)) = n := ⟨_, rfl⟩
  obtain ⟨n2, hn2⟩ : ∃ n, IntKind.i64.wrap (n1 + 2) = n := ⟨_, rfl⟩
  obtain ⟨n3, hn3⟩ : ∃ n, IntKind.i64.wrap (n2 + (y.length : Int)) = n := ⟨_, rfl⟩
  have e1 : n1 = 5 + (x.length : Int) := by rw [← hn1]; simp only [IntKind.wrap_i64]; omega
  have e2 : n2 = 7 + (x.length : Int) := by rw [← hn2, e1]; simp only [IntKind.wrap_i64]; omega
  have e3 : n3 = ((7 + x.length + y.length : Nat) : Int) := by rw [← hn3, e2]; simp only [IntKind.wrap_i64]; omega
  have E3 := Lib.hid e3
  clear e1 e2 e3
  go_enter Tryz.func41, Tryz.ntmps41
  go_upto_region 1 with fail
  generalize w.alloc (.cells #[.slice ua x.length uc, .slice va y.length vc] 59) = V at *
  generalize w.heap.size = b at T0 ⊢
  refine wp_reg Tryz.f41 1 13 (fun w' => Below V.heap.size V w') (by kernel_rfl) (by kernel_rfl) (by kernel_rfl) (below_drewN (Below.refl _ _) 1) (fun K hK h0 => ?_)
  refine reg_cast (listed' := #[false, false, false, false, false, false, false, false, false, false, false, false, false]) (by kernel_rfl) rfl ?_
  have HF := Lib.hid hK; clear hK
  refine reg_take 3 6 (.pointer (some ⟨b, 0, none⟩)) (by kernel_rfl) (fun _ _ => by kernel_rfl) h0 ?_
  simp only [Act.put, List.setIfInBounds_toArray, List.set_cons_zero, List.set_cons_succ]
  refine reg_take 4 7 (.slice ua x.length uc) (by kernel_rfl) (fun w' hw' => exec_load_one (.tmp 6) ⟨b, 0, none⟩ 24 (.slice ua x.length uc) (by kernel_rfl) (by kernel_rfl) (by kernel_rfl) (by kernel_rfl) ((fun w' hw' => (T0.below hw').c0) w' hw')) h0 ?_
  simp only [Act.put, List.setIfInBounds_toArray, List.set_cons_zero, List.set_cons_succ]
  refine reg_take 5 8 (.int .i64 x.length) (by kernel_rfl) (fun _ _ => by kernel_rfl) h0 ?_
  simp only [Act.put, List.setIfInBounds_toArray, List.set_cons_zero, List.set_cons_succ]
  refine reg_take 8 11 (.pointer (some ⟨b, 1, none⟩)) (by kernel_rfl) (fun _ _ => by kernel_rfl) h0 ?_
  simp only [Act.put, List.setIfInBounds_toArray, List.set_cons_zero, List.set_cons_succ]
  refine reg_take 9 12 (.slice va y.length vc) (by kernel_rfl) (fun w' hw' => exec_load_one (.tmp 11) ⟨b, 1, none⟩ 24 (.slice va y.length vc) (by kernel_rfl) (by kernel_rfl) (by kernel_rfl) (by kernel_rfl) ((fun w' hw' => (T0.below hw').c1) w' hw')) h0 ?_
  simp only [Act.put, List.setIfInBounds_toArray, List.set_cons_zero, List.set_cons_succ]
  refine reg_take 10 13 (.int .i64 y.length) (by kernel_rfl) (fun _ _ => by kernel_rfl) h0 ?_
  simp only [Act.put, List.setIfInBounds_toArray, List.set_cons_zero, List.set_cons_succ]
  refine reg_one 0 (by kernel_rfl) (by kernel_rfl) (HStep.call (some 3) (by kernel_rfl) (by kernel_rfl) 56 #[] (by kernel_rfl) ?_)
  refine (head_any _).mono ?_
  rintro e w1 ⟨rfl, hg⟩
  have hb_1 := below_of_only hg
  have h_1 := h0.trans (hb_1.mono h0.size)
  refine ⟨_, rfl, h_1, ?_⟩
  simp only [Act.put, List.setIfInBounds_toArray, List.set_cons_zero, List.set_cons_succ]
  refine reg_take 1 4 (.int .i64 3) (by kernel_rfl) (fun _ _ => by kernel_rfl) h_1 ?_
  simp only [Act.put, List.setIfInBounds_toArray, List.set_cons_zero, List.set_cons_succ]
  refine reg_take 2 5 (.int .i64 5) (by kernel_rfl) (fun _ _ => by kernel_rfl) h_1 ?_
  simp only [Act.put, List.setIfInBounds_toArray, List.set_cons_zero, List.set_cons_succ]
  refine reg_take 6 9 (.int .i64 n1) (by kernel_rfl) (fun _ _ => by rw [← hn1]; kernel_rfl) h_1 ?_
  simp only [Act.put, List.setIfInBounds_toArray, List.set_cons_zero, List.set_cons_succ]
  refine reg_take 7 10 (.int .i64 n2) (by kernel_rfl) (fun _ _ => by rw [← hn2]; kernel_rfl) h_1 ?_
  simp only [Act.put, List.setIfInBounds_toArray, List.set_cons_zero, List.set_cons_succ]
  refine reg_take 11 14 (.int .i64 n3) (by kernel_rfl) (fun _ _ => by rw [← hn3]; kernel_rfl) h_1 ?_
  simp only [Act.put, List.setIfInBounds_toArray, List.set_cons_zero, List.set_cons_succ]
  refine reg_take 12 2 (.int .i64 n3) (by kernel_rfl) (fun _ _ => by kernel_rfl) h_1 ?_
  simp only [Act.put, List.setIfInBounds_toArray, List.set_cons_zero, List.set_cons_succ]
  refine reg_done (by kernel_rfl) (HF.out _ _ ?_)
  have G1 := only_trans G0 (only_of_below h_1 none)
  go_wp2_with fail
  go_ret
  refine ⟨?_, G1⟩
  rw [E3.out]
  rfl
set_option maxRecDepth 100000 in
set_option maxHeartbeats 4000000 in
theorem rqbytes_any (u v : Value) (x y : List Nat) (w : World) (hu : Rs w u x) (hv : Rs w v y) (hx : x.length ≤ 1000000000) (hy : y.length ≤ 1000000000) :
    Calls Tryz.prog 40 #[.agg #[u, v]] w (RetPut (Req.bytes x y) w) := by
  have T0 := Qb.new hu hv
  have G0 := only_alloc (only_refl w none) (.cells #[u, v] 59)
  obtain ⟨ua, uc, rfl⟩ := hu.form
  obtain ⟨va, vc, rfl⟩ := hv.form
  generalize hR : Req.bytes x y = R
  have HR := Lib.hid hR
  clear hu hv hR
  have e2 : (#[Value.slice ua x.length uc, Value.slice va y.length vc] : Array Value).size = 2 := rfl
  go_enter Tryz.func40, Tryz.ntmps40
  go_wp2_with (refine wpList_load_row rfl _ _ rfl w.heap.size rfl _ _ (0, 0) _ T0.1 rfl rfl (info_rq _ _) ?_)
  refine (rqsize_any _ _ x y _ T0.2.1 T0.2.2 hx hy).mono ?_
  rintro e w1 ⟨rfl, g1⟩
  have G1 := only_trans G0 g1
  have T1 := T0.only g1
  clear T0 G0 g1
  by_cases hbig : 65536 < 7 + x.length + y.length
  · have E1 := Lib.hid (show R = none by rw [← HR.out]; unfold Req.bytes; rw [if_pos hbig])
    clear HR
    go_wp2_with fail
    all_goals first | omega | skip
    go_ret2
    exact ⟨below_of_only G1, .inl ⟨E1.out, rfl⟩⟩
  · have E1 := Lib.hid (show R = some (Wir.join [[65, 80, 1], Wir.enc 2 x.length ++ x, Wir.enc 2 y.length ++ y]) by
      rw [← HR.out]; unfold Req.bytes Wir.join; rw [if_neg hbig]; simp)
    clear HR
    have c0 := T1.c0
    go_wp2_with fail
    all_goals first | omega | skip
    refine (string_put 2 _ x w1 T1.2.1 (by omega) (by omega)).mono ?_
    rintro e w2 ⟨hb2, ht⟩
    rw [putString_two x (by omega)] at ht
    rcases ht with ⟨hno, _⟩ | ⟨l0, u0, hl0, rfl, o0⟩
    · cases hno
    cases hl0
    have G2 := only_trans G1 (only_of_below hb2 none)
    have T2 := T1.only (only_of_below hb2 none)
    clear c0 T1 G1 hb2
    have c1 := T2.c1
    go_wp2_with fail
    refine (string_put 2 _ y w2 T2.2.2 (by omega) (by omega)).mono ?_
    rintro e w3 ⟨hb3, ht⟩
    rw [putString_two y (by omega)] at ht
    rcases ht with ⟨hno, _⟩ | ⟨l1, u1, hl1, rfl, o1⟩
    · cases hno
    cases hl1
    have G3 := only_trans G2 (only_of_below hb3 none)
    have o0 := o0.below hb3
    have hlx := Wir.enc_length 2 x.length
    have hly := Wir.enc_length 2 y.length
    clear c1 T2 G2 hb3
    generalize hX : Wir.enc 2 x.length ++ x = X at *
    generalize hY : Wir.enc 2 y.length ++ y = Y at *
    have lX : X.length = 2 + x.length := by rw [← hX, List.length_append, hlx]
    have lY : Y.length = 2 + y.length := by rw [← hY, List.length_append, hly]
    have LX := Lib.hid lX
    have LY := Lib.hid lY
    clear hX hY hlx hly lX lY
    obtain ⟨x0, y0, rfl⟩ := o0.form
    obtain ⟨x1, y1, rfl⟩ := o1.form
    have O0 := Lib.hid o0.bs.rs
    have O1 := Lib.hid o1.bs.rs
    clear o0 o1
    go_wp2_with fail
    refine (head_any w3).mono ?_
    rintro e w4 ⟨rfl, g4⟩
    have F := fresh_row w4 #[.int .u8 0, .int .u8 0, .int .u8 0] #[.int .u8 65, .int .u8 80, .int .u8 1] 102
    have F4 := only_trans g4 F.2
    have G4 := only_trans G3 F4
    have O0 := Lib.hid (O0.out.below (below_of_only F4))
    have O1 := Lib.hid (O1.out.below (below_of_only F4))
    have K4 := Lib.hid (h3_rs F.1)
    have e3 : (#[.int .u8 65, .int .u8 80, .int .u8 1] : Array Value).size = 3 := rfl
    clear G3 F4 g4
    go_upto_region 10 with (refine wpList_store_rowTo rfl _ _ _ rfl rfl w4.heap.size _ rfl rfl _ _ (heap_alloc_new _ _) info_h3 (by rfl) h3_one ?_)
    generalize World.setRow _ w4.heap.size _ = W4 at *
    generalize w4.heap.size = b4 at *
    clear F
    have HB := bss_three K4.out O0.out O1.out
    have G5 := only_alloc G4 (.cells #[.slice (some ⟨b4, 0, none⟩) 3 3, .slice x0 X.length y0, .slice x1 Y.length y1] 24)
    have hjl : (Wir.join [[65, 80, 1], X, Y]).length ≤ 140737488355328 := by
      unfold Wir.join
      simp only [List.flatten_cons, List.flatten_nil, List.length_append, List.length_cons, List.length_nil, LX.out, LY.out]
      omega
    go_wp2_with fail
    refine (join_any _ _ _ HB hjl).mono ?_
    rintro e w5 ⟨v5, rfl, o5, hb5⟩
    have G6 := only_trans G5 (only_of_below hb5 none)
    have O5 := Lib.hid (o5.mono G5.size)
    clear o5 HB G5 hb5 hjl
    go_wp2_with fail
    go_ret2
    exact ⟨below_of_only G6, .inr ⟨_, _, E1.out, rfl, O5.out⟩⟩
end Go.Proofs.YtnhchdkchohnbaaGreatDoor
