/- ctr.Stream, New, Next, Used, Crypt: walked. -/
import Derived.Test.YtibgmoapkionjaaCtrC
namespace Go.Proofs.Ytibgmoapkionjaa
open Go.RowKit Go.Deep

theorem mask_any (key nonce : Nat → Nat) (a : Nat) (v : Value) (l : List Nat) (base : Nat) (w : World) (hk : Aes.B8 key) (hn : Aes.B8 nonce) (ha : a ≤ 4611686018427387904) (hlen : l.length ≤ 140737488355328) (hown : Own w base v l) :
    Calls Try.prog 43 #[.agg (arr .u8 16 key), .agg (arr .u8 8 nonce), .int .i64 (a : Int), v] w fun e w' => e = .returned (.tuple #[]) ∧ Own w' base v (Ctr.crypt key nonce a l) ∧ w.grownBy w' v.ownBlock := by
  by_cases h0 : l.length = 0
  · obtain rfl : l = [] := List.eq_nil_of_length_eq_zero h0
    refine (mask_nil key nonce a v base w hown).mono ?_
    rintro e w' ⟨rfl, hb⟩
    exact ⟨rfl, hown.below hb, only_of_below hb _⟩
  · rcases hown.cases with ⟨_, h⟩ | ⟨g, cap, rfl, hbg, hgw, hc, hm, _, _⟩
    · rw [h] at h0; simp at h0
    · exact mask_some key nonce a l base g cap w hk hn ha (by omega) hlen hown hbg hgw hc hm
theorem mask_int (key nonce : Nat → Nat) (a : Int) (v : Value) (l : List Nat) (base : Nat) (w : World) (hk : Aes.B8 key) (hn : Aes.B8 nonce) (h0 : 0 ≤ a) (ha : a ≤ 4611686018427387904) (hlen : l.length ≤ 140737488355328) (hown : Own w base v l) :
    Calls Try.prog 43 #[.agg (arr .u8 16 key), .agg (arr .u8 8 nonce), .int .i64 a, v] w fun e w' => e = .returned (.tuple #[]) ∧ Own w' base v (Ctr.crypt key nonce a.toNat l) ∧ w.grownBy w' v.ownBlock := by
  obtain ⟨n, rfl⟩ := Int.eq_ofNat_of_zero_le h0
  exact mask_any key nonce n v l base w hk hn (by omega) hlen hown

/-! ### Stream -/
set_option maxRecDepth 100000 in
set_option maxHeartbeats 2000000 in
theorem ctrstream_bad (key nonce : Nat → Nat) (a n : Int) (w : World) (h : a < 0 ∨ 1099511627776 < a ∨ n < 0 ∨ 1048576 < n) :
    Calls Try.prog 26 #[.agg (arr .u8 16 key), .agg (arr .u8 8 nonce), .int .i64 a, .int .i64 n] w (RetOwn [] w) := by
  have hsz := arr_size .u8 16 key
  have hsz2 := arr_size .u8 8 nonce
  have key1 : decide (a < 0) = true ∨ (decide (a < 0) = false ∧ decide (1099511627776 < a) = true) ∨ (decide (a < 0) = false ∧ decide (1099511627776 < a) = false ∧ decide (n < 0) = true) ∨ (decide (a < 0) = false ∧ decide (1099511627776 < a) = false ∧ decide (n < 0) = false ∧ decide (1048576 < n) = true) := by
    by_cases h1 : a < 0
    · exact .inl (by simpa using h1)
    · by_cases h2 : 1099511627776 < a
      · exact .inr (.inl ⟨by simpa using h1, by simpa using h2⟩)
      · by_cases h3 : n < 0
        · exact .inr (.inr (.inl ⟨by simpa using h1, by simpa using h2, by simpa using h3⟩))
        · exact .inr (.inr (.inr ⟨by simpa using h1, by simpa using h2, by simpa using h3, by simp; omega⟩))
  clear h
  rcases key1 with d1 | ⟨d1, d2⟩ | ⟨d1, d2, d3⟩ | ⟨d1, d2, d3, d4⟩
  all_goals
    go_enter Try.func26, Try.ntmps26
    go_wp2_with fail
    go_ret
    exact ⟨_, rfl, Own.nil _ _, ((Below.refl _ _).alloc (Nat.le_refl _) _).alloc (by simp) _⟩

set_option maxRecDepth 100000 in
set_option maxHeartbeats 2000000 in
theorem ctrstream_ok (key nonce : Nat → Nat) (a n : Nat) (w : World) (hk : Aes.B8 key) (hn : Aes.B8 nonce) (ha : a ≤ 1099511627776) (hn2 : n ≤ 1048576) :
    Calls Try.prog 26 #[.agg (arr .u8 16 key), .agg (arr .u8 8 nonce), .int .i64 (a : Int), .int .i64 (n : Int)] w (RetOwn (Ctr.str key nonce a n) w) := by
  have hsz := arr_size .u8 16 key
  have hsz2 := arr_size .u8 8 nonce
  have HK := Lib.hid hk; have HN := Lib.hid hn
  clear hk hn
  have d1 : decide ((a : Int) < 0) = false := by simp
  have d2 : decide (1099511627776 < (a : Int)) = false := by simp; omega
  have d3 : decide ((n : Int) < 0) = false := by simp
  have d4 : decide (1048576 < (n : Int)) = false := by simp; omega
  go_enter Try.func26, Try.ntmps26
  go_upto_region 3 with fail
  generalize hW : (World.alloc _ _ : World) = V
  have INV : isArr V w.heap.size 22 .u8 16 key ∧ isArr V (w.heap.size + 1) 40 .u8 8 nonce ∧ Below w.heap.size w V := by
    rw [← hW]
    have z1 : w.heap.size + 1 = (w.alloc (Obj.cells (arr IntKind.u8 16 key) 22)).heap.size := by simp
    refine ⟨(isArr_new w _ _ _ _).alloc _, ?_, ((Below.refl _ _).alloc (Nat.le_refl _) _).alloc (by simp) _⟩
    rw [z1]; exact isArr_new _ _ _ _ _
  have I0 := Lib.hid INV
  clear hW INV hsz hsz2
  go_wp2_with (first | (at_make; go_must (refine wpList_makefull_bs rfl _ _ rfl V.heap.size _ _ _ _ n rfl rfl rfl rfl (by omega) (Nat.le_refl _) ?_; intro w1 hown hgr; have k1 := I0.out.1.of_block (hgr.block _ I0.out.1.lt (by simp)); have k2 := I0.out.2.1.of_block (hgr.block _ I0.out.2.1.lt (by simp)); have B1 := Lib.hid (below_of_only hgr); have HO := Lib.hid hown; clear hown hgr)) | refine wpList_load_row rfl _ _ rfl w.heap.size rfl _ _ (0, 0) _ k1 rfl rfl (info16 _) ?_ | refine wpList_load_row rfl _ _ rfl (w.heap.size + 1) rfl _ _ (0, 0) _ k2 rfl rfl (info8 _) ?_ | (go_at_call 43; refine (mask_any key nonce a _ _ _ _ HK.out HN.out (by omega) (by simp; omega) HO.out).mono ?_; rintro e w2 ⟨rfl, ho2, hg2⟩; have HO2 := Lib.hid ho2; have HG2 := Lib.hid hg2; clear ho2 hg2))
  go_ret
  have hs := I0.out.2.2.size
  refine ⟨_, rfl, ?_, ?_⟩
  · have h := HO2.out.mono hs
    rw [Ctr.crypt_zeros] at h
    simpa [Ctr.str_length] using h
  · exact below_only (I0.out.2.2.trans (B1.out.mono hs)) (Nat.le_refl _) HG2.out (fun g hg => by simp [Value.ownBlock] at hg; omega)
theorem ctrstream_any (key nonce : Nat → Nat) (a n : Int) (w : World) (hk : Aes.B8 key) (hn : Aes.B8 nonce) :
    Calls Try.prog 26 #[.agg (arr .u8 16 key), .agg (arr .u8 8 nonce), .int .i64 a, .int .i64 n] w (RetOwn (Ctr.strI key nonce a n) w) := by
  unfold Ctr.strI
  by_cases h : a < 0 ∨ 1099511627776 < a ∨ n < 0 ∨ 1048576 < n
  · rw [if_pos h]; exact ctrstream_bad key nonce a n w h
  · rw [if_neg h]
    obtain ⟨x, rfl⟩ := Int.eq_ofNat_of_zero_le (show 0 ≤ a by omega)
    obtain ⟨y, rfl⟩ := Int.eq_ofNat_of_zero_le (show 0 ≤ n by omega)
    exact ctrstream_ok key nonce x y w hk hn (by omega) (by omega)

/-! ### the cipher -/
/-- The cells of a cipher. -/
def cph (key nonce : Nat → Nat) (u : Int) : Array Value := #[.int .u8 (key 0 : Int), .int .u8 (key 1 : Int), .int .u8 (key 2 : Int), .int .u8 (key 3 : Int), .int .u8 (key 4 : Int), .int .u8 (key 5 : Int), .int .u8 (key 6 : Int), .int .u8 (key 7 : Int), .int .u8 (key 8 : Int), .int .u8 (key 9 : Int), .int .u8 (key 10 : Int), .int .u8 (key 11 : Int), .int .u8 (key 12 : Int), .int .u8 (key 13 : Int), .int .u8 (key 14 : Int), .int .u8 (key 15 : Int), .int .u8 (nonce 0 : Int), .int .u8 (nonce 1 : Int), .int .u8 (nonce 2 : Int), .int .u8 (nonce 3 : Int), .int .u8 (nonce 4 : Int), .int .u8 (nonce 5 : Int), .int .u8 (nonce 6 : Int), .int .u8 (nonce 7 : Int), .int .i64 u]
theorem arr16_lit (f : Nat → Nat) : arr .u8 16 f = #[.int .u8 (f 0 : Int), .int .u8 (f 1 : Int), .int .u8 (f 2 : Int), .int .u8 (f 3 : Int), .int .u8 (f 4 : Int), .int .u8 (f 5 : Int), .int .u8 (f 6 : Int), .int .u8 (f 7 : Int), .int .u8 (f 8 : Int), .int .u8 (f 9 : Int), .int .u8 (f 10 : Int), .int .u8 (f 11 : Int), .int .u8 (f 12 : Int), .int .u8 (f 13 : Int), .int .u8 (f 14 : Int), .int .u8 (f 15 : Int)] := by unfold arr; rfl
theorem arr8_lit (f : Nat → Nat) : arr .u8 8 f = #[.int .u8 (f 0 : Int), .int .u8 (f 1 : Int), .int .u8 (f 2 : Int), .int .u8 (f 3 : Int), .int .u8 (f 4 : Int), .int .u8 (f 5 : Int), .int .u8 (f 6 : Int), .int .u8 (f 7 : Int)] := by unfold arr; rfl
theorem run_cph (key nonce : Nat → Nat) (w : World) : (Instr.build 68 #[(0, .agg (arr .u8 16 key)), (1, .agg (arr .u8 8 nonce))]).run Try.prog w = .ok (.agg (cph key nonce 0)) w := by
  rw [arr16_lit, arr8_lit]
  kernel_rfl
theorem cph_size (key nonce : Nat → Nat) (u : Int) : (cph key nonce u).size = 25 := rfl
/-- At block p lies a cipher. -/
def isCph (w : World) (p : Nat) (key nonce : Nat → Nat) (u : Int) : Prop := w.heap[p]? = some (.cells (cph key nonce u) 68 (0, 0))
theorem isCph.key {w : World} {p : Nat} {key nonce : Nat → Nat} {u : Int} (h : isCph w p key nonce u) : ∀ j v, (arr .u8 16 key)[j]? = some v → w.cell? ((⟨p, 0, none⟩ : Addr).add j) = some v := by
  intro j v hj
  have hj16 : j < 16 := by
    rcases Nat.lt_or_ge j 16 with h' | h'
    · exact h'
    · rw [Array.getElem?_eq_none (by rw [arr_size]; exact h')] at hj; cases hj
  rw [Addr.add_lit, Nat.zero_add]
  rw [arr16_lit] at hj
  have e : w.cell? ⟨p, j, none⟩ = (cph key nonce u)[j]? := by unfold isCph at h; simp [World.cell?, h]
  rw [e, ← hj]
  obtain rfl | rfl | rfl | rfl | rfl | rfl | rfl | rfl | rfl | rfl | rfl | rfl | rfl | rfl | rfl | rfl : j = 0 ∨ j = 1 ∨ j = 2 ∨ j = 3 ∨ j = 4 ∨ j = 5 ∨ j = 6 ∨ j = 7 ∨ j = 8 ∨ j = 9 ∨ j = 10 ∨ j = 11 ∨ j = 12 ∨ j = 13 ∨ j = 14 ∨ j = 15 := by omega
  all_goals rfl
theorem isCph.nonce {w : World} {p : Nat} {key nonce : Nat → Nat} {u : Int} (h : isCph w p key nonce u) : ∀ j v, (arr .u8 8 nonce)[j]? = some v → w.cell? ((⟨p, 16, none⟩ : Addr).add j) = some v := by
  intro j v hj
  have hj8 : j < 8 := by
    rcases Nat.lt_or_ge j 8 with h' | h'
    · exact h'
    · rw [Array.getElem?_eq_none (by rw [arr_size]; exact h')] at hj; cases hj
  rw [Addr.add_lit]
  rw [arr8_lit] at hj
  have e : w.cell? ⟨p, 16 + j, none⟩ = (cph key nonce u)[16 + j]? := by unfold isCph at h; simp [World.cell?, h]
  rw [e, ← hj]
  obtain rfl | rfl | rfl | rfl | rfl | rfl | rfl | rfl : j = 0 ∨ j = 1 ∨ j = 2 ∨ j = 3 ∨ j = 4 ∨ j = 5 ∨ j = 6 ∨ j = 7 := by omega
  all_goals rfl
theorem isCph.used {w : World} {p : Nat} {key nonce : Nat → Nat} {u : Int} (h : isCph w p key nonce u) : w.cell? ⟨p, 24, none⟩ = some (.int .i64 u) ∧ w.frozen? ⟨p, 24, none⟩ = false := by
  unfold isCph at h
  exact ⟨by simp [World.cell?, h, cph], by simp [World.frozen?, h]⟩
theorem isCph.set {w : World} {p : Nat} {key nonce : Nat → Nat} {u : Int} (h : isCph w p key nonce u) (u' : Int) : isCph (w.setCell ⟨p, 24, none⟩ (.int .i64 u')) p key nonce u' := by
  have := heap_setCell_same w p 24 (cph key nonce u) 68 (.int .i64 u') h
  unfold isCph
  rw [this]
  rfl
theorem isCph.lt {w : World} {p : Nat} {key nonce : Nat → Nat} {u : Int} (h : isCph w p key nonce u) : p < w.heap.size := (Array.getElem?_eq_some_iff.1 h).1

def RetCph (key nonce : Nat → Nat) (w : World) (e : Ending) (w' : World) : Prop := ∃ p, e = .returned (.pointer (some ⟨p, 0, none⟩)) ∧ w.heap.size ≤ p ∧ isCph w' p key nonce 0 ∧ Below w.heap.size w w'
theorem wpList_cph {ops : Array Oper} {rest : List Oper} {o : Oper} {a : Act} {w : World} {Q : Exit → Act → World → Prop} (hgd : o.guard = none) (x y : Operand) (ho : o.op = .build 68 #[(0, x), (1, y)]) (key nonce : Nat → Nat) (hx : a.eval x = .agg (arr .u8 16 key)) (hy : a.eval y = .agg (arr .u8 8 nonce))
    (h : wpList Try.prog ops Q rest (a.put o.dst (.agg (cph key nonce 0))) w) : wpList Try.prog ops Q (o :: rest) a w :=
  wpList_plain hgd fun K hK => by
    unfold Oper.wp execOp
    simp only [ho, List.map_toArray, List.map_cons, List.map_nil, hx, hy, Sem.run_bind, run_cph, Sem.run_pure, Result.andThen_ok]
    exact hK _ _ h
set_option maxRecDepth 100000 in
set_option maxHeartbeats 2000000 in
theorem ctrnew_any (key nonce : Nat → Nat) (w : World) : Calls Try.prog 31 #[.agg (arr .u8 16 key), .agg (arr .u8 8 nonce)] w (RetCph key nonce w) := by
  have hsz := arr_size .u8 16 key
  have hsz2 := arr_size .u8 8 nonce
  go_enter Try.func31, Try.ntmps31
  go_upto_region 1 with fail
  generalize hW : (World.alloc _ _ : World) = V
  have INV : isArr V w.heap.size 22 .u8 16 key ∧ isArr V (w.heap.size + 1) 40 .u8 8 nonce ∧ Below w.heap.size w V := by
    rw [← hW]
    have z1 : w.heap.size + 1 = (w.alloc (Obj.cells (arr IntKind.u8 16 key) 22)).heap.size := by simp
    refine ⟨(isArr_new w _ _ _ _).alloc _, ?_, ((Below.refl _ _).alloc (Nat.le_refl _) _).alloc (by simp) _⟩
    rw [z1]; exact isArr_new _ _ _ _ _
  have k1 := INV.1
  have k2 := INV.2.1
  have B0 := Lib.hid INV.2.2
  have hs : w.heap.size ≤ V.heap.size := INV.2.2.size
  clear hW INV hsz hsz2
  have hcs := cph_size key nonce 0
  go_wp2_with (first | refine wpList_load_row rfl _ _ rfl w.heap.size rfl _ _ (0, 0) _ k1 rfl rfl (info16 _) ?_ | refine wpList_load_row rfl _ _ rfl (w.heap.size + 1) rfl _ _ (0, 0) _ k2 rfl rfl (info8 _) ?_ | refine wpList_cph rfl _ _ rfl key nonce rfl rfl ?_)
  go_ret
  exact ⟨V.heap.size, rfl, hs, heap_alloc_new _ _, B0.out.alloc hs _⟩

theorem ctrused_any (p : Nat) (key nonce : Nat → Nat) (u : Int) (w : World) (h : isCph w p key nonce u) : Calls Try.prog 33 #[.pointer (some ⟨p, 0, none⟩)] w fun e w' => e = .returned (.int .i64 u) ∧ w = w' := by
  obtain ⟨c1, _⟩ := h.used
  clear h
  go_enter Try.func33, Try.ntmps33
  go_wp2_with fail
  go_ret
  exact ⟨rfl, rfl⟩
theorem ctrused_nil (w : World) : Calls Try.prog 33 #[.pointer none] w fun e w' => e = .returned (.int .i64 0) ∧ w = w' := by
  go_enter Try.func33, Try.ntmps33
  go_wp2_with fail
  go_ret
  exact ⟨rfl, rfl⟩
theorem ctrnext_nil (v : Value) (w : World) : Calls Try.prog 32 #[.pointer none, v] w fun e w' => e = .returned (.slice none 0 0) ∧ w = w' := by
  go_enter Try.func32, Try.ntmps32
  go_wp2_with fail
  go_ret
  exact ⟨rfl, rfl⟩

def RetNextC (p : Nat) (key nonce : Nat → Nat) (u : Nat) (l : List Nat) (w : World) (e : Ending) (w' : World) : Prop :=
  ∃ v, e = .returned v ∧ Own w' w.heap.size v (Ctr.crypt key nonce u l) ∧ isCph w' p key nonce ((u + l.length : Nat) : Int) ∧ w.grownBy w' (some p)
set_option maxRecDepth 100000 in
set_option maxHeartbeats 4000000 in
theorem ctrnext_any (p : Nat) (key nonce : Nat → Nat) (u : Nat) (v : Value) (l : List Nat) (w : World) (hk : Aes.B8 key) (hn : Aes.B8 nonce) (hp : isCph w p key nonce (u : Int)) (hv : Rs w v l) (hl : l.length ≤ 140737488355328) (hu : u ≤ 1152921504606846976) :
    Calls Try.prog 32 #[.pointer (some ⟨p, 0, none⟩), v] w (RetNextC p key nonce u l w) := by
  have HK := Lib.hid hk; have HN := Lib.hid hn; have HP := Lib.hid hp; have HV := Lib.hid hv
  have hpw := hp.lt
  obtain ⟨va, vc, rfl⟩ := hv.form
  clear hk hn hp hv
  go_enter Try.func32, Try.ntmps32
  go_upto_region 5 with (first | (at_make; go_must (refine wpList_makefull_bs rfl _ _ rfl w.heap.size _ _ _ _ l.length rfl rfl rfl rfl (by omega) (Nat.le_refl _) ?_; intro w1 hown hgr; have B1 := Lib.hid (below_of_only hgr); have HO := Lib.hid hown; clear hown hgr)) | (refine copy_over rfl _ _ rfl w.heap.size (.slice (some ⟨w.heap.size, 0, none⟩) l.length l.length) _ rfl HO.out _ l rfl (HV.out.below B1.out) (by simp) ?_; intro w2 ho2 hg2; have HO2 := Lib.hid ho2; have HG2 := Lib.hid hg2; clear ho2 hg2))
  have b2 : Below w.heap.size w w2 := below_only B1.out (Nat.le_refl _) HG2.out (fun g hg => (HO2.out.lt g hg).1)
  have B2 := Lib.hid b2
  clear b2 HG2 HO
  refine wp_reg Try.f32 5 14 (fun w' => Below w.heap.size w w') (by kernel_rfl) (by kernel_rfl) (by kernel_rfl) (below_drewN B2.out 1) (fun K hK h0 => ?_)
  refine reg_cast (listed' := #[false, false, false, false, false, false, false, false, false, false, false, false, false, false]) (by kernel_rfl) rfl ?_
  have HF := Lib.hid hK; clear hK
  refine reg_take 0 14 (.pointer (some ⟨p, 0, none⟩)) (by kernel_rfl) (fun _ _ => by kernel_rfl) h0 ?_
  simp only [Act.put, List.setIfInBounds_toArray, List.set_cons_zero, List.set_cons_succ]
  refine reg_take 1 15 (.pointer (some ⟨p, 0, none⟩)) (by kernel_rfl) (fun _ _ => by kernel_rfl) h0 ?_
  simp only [Act.put, List.setIfInBounds_toArray, List.set_cons_zero, List.set_cons_succ]
  refine reg_take 2 16 (.pointer (some ⟨p, 0, none⟩)) (by kernel_rfl) (fun _ _ => by kernel_rfl) h0 ?_
  simp only [Act.put, List.setIfInBounds_toArray, List.set_cons_zero, List.set_cons_succ]
  refine reg_load 3 17 (by kernel_rfl) 22 (.tmp 16) (by kernel_rfl) ⟨p, 0, none⟩ (by kernel_rfl) (arr .u8 16 key) _ (fun w' h => isCph.key (u := (u : Int)) ((h.block p hpw).trans HP.out)) Try.underlying22 rfl (info16 _) h0 ?_
  simp only [Act.put, List.setIfInBounds_toArray, List.set_cons_zero, List.set_cons_succ]
  refine reg_take 4 18 (.pointer (some ⟨p, 0, none⟩)) (by kernel_rfl) (fun _ _ => by kernel_rfl) h0 ?_
  simp only [Act.put, List.setIfInBounds_toArray, List.set_cons_zero, List.set_cons_succ]
  refine reg_take 5 19 (.pointer (some ⟨p, 0, none⟩)) (by kernel_rfl) (fun _ _ => by kernel_rfl) h0 ?_
  simp only [Act.put, List.setIfInBounds_toArray, List.set_cons_zero, List.set_cons_succ]
  refine reg_take 6 20 (.pointer (some ⟨p, 16, none⟩)) (by kernel_rfl) (fun _ _ => by kernel_rfl) h0 ?_
  simp only [Act.put, List.setIfInBounds_toArray, List.set_cons_zero, List.set_cons_succ]
  refine reg_load 7 21 (by kernel_rfl) 40 (.tmp 20) (by kernel_rfl) ⟨p, 16, none⟩ (by kernel_rfl) (arr .u8 8 nonce) _ (fun w' h => isCph.nonce (u := (u : Int)) ((h.block p hpw).trans HP.out)) Try.underlying40 rfl (info8 _) h0 ?_
  simp only [Act.put, List.setIfInBounds_toArray, List.set_cons_zero, List.set_cons_succ]
  refine reg_take 8 22 (.pointer (some ⟨p, 0, none⟩)) (by kernel_rfl) (fun _ _ => by kernel_rfl) h0 ?_
  simp only [Act.put, List.setIfInBounds_toArray, List.set_cons_zero, List.set_cons_succ]
  refine reg_take 9 23 (.pointer (some ⟨p, 0, none⟩)) (by kernel_rfl) (fun _ _ => by kernel_rfl) h0 ?_
  simp only [Act.put, List.setIfInBounds_toArray, List.set_cons_zero, List.set_cons_succ]
  refine reg_take 10 24 (.pointer (some ⟨p, 24, none⟩)) (by kernel_rfl) (fun _ _ => by kernel_rfl) h0 ?_
  simp only [Act.put, List.setIfInBounds_toArray, List.set_cons_zero, List.set_cons_succ]
  refine reg_take 11 25 (.int .i64 (u : Int)) (by kernel_rfl) (fun w' h => exec_load_i64 (.tmp 24) ⟨p, 24, none⟩ (u : Int) (by kernel_rfl) (by kernel_rfl) (isCph.used (key := key) (nonce := nonce) ((h.block p hpw).trans HP.out)).1) h0 ?_
  simp only [Act.put, List.setIfInBounds_toArray, List.set_cons_zero, List.set_cons_succ]
  refine reg_take 12 26 (.slice (some ⟨w.heap.size, 0, none⟩) l.length l.length) (by kernel_rfl) (fun _ _ => by kernel_rfl) h0 ?_
  simp only [Act.put, List.setIfInBounds_toArray, List.set_cons_zero, List.set_cons_succ]
  refine reg_call 13 27 43 #[.agg (arr .u8 16 key), .agg (arr .u8 8 nonce), .int .i64 (u : Int), .slice (some ⟨w.heap.size, 0, none⟩) l.length l.length] (by kernel_rfl) (by kernel_rfl) ?_
  refine (mask_any key nonce u _ l w.heap.size _ HK.out HN.out (by omega) hl (HO2.out.drewN 1)).mono ?_
  rintro e w3 ⟨rfl, ho3, hg3⟩
  have h3 : Below w.heap.size w w3 := below_only h0 (Nat.le_refl _) hg3 (fun g hg => (HO2.out.lt g hg).1)
  have p3 : isCph w3 p key nonce (u : Int) := (h3.block p hpw).trans HP.out
  refine ⟨_, rfl, h3, ?_⟩
  simp only [Act.put, List.setIfInBounds_toArray, List.set_cons_zero, List.set_cons_succ]
  refine reg_done (by kernel_rfl) (HF.out _ _ ?_)
  obtain ⟨c3, f3⟩ := p3.used
  have P3 := Lib.hid (p3.set ((u + l.length : Nat) : Int))
  have ho4 := ho3.only (only_set (only_refl w3 (some p)) 24 (.int .i64 ((u + l.length : Nat) : Int))) (.inr (by simp [Value.ownBlock]; omega))
  have H4 := Lib.hid ho4
  have G4 := Lib.hid (only_trans (only_of_below h3 (some p)) (only_set (only_refl w3 (some p)) 24 (.int .i64 ((u + l.length : Nat) : Int))))
  have hadd : IntKind.i64.wrap ((u : Int) + (l.length : Int)) = ((u + l.length : Nat) : Int) := by rw [IntWalk.i64_in _ (by omega)]; omega
  have hadd2 : (u : Int) + (l.length : Int) = ((u + l.length : Nat) : Int) := by omega
  clear HF h0 h3 ho3 hg3 p3 ho4
  clear hadd hadd2
  go_wp2_with fail
  go_ret
  exact ⟨_, rfl, H4.out, P3.out, G4.out⟩

def RetCrypt := RetOwn
set_option maxRecDepth 100000 in
set_option maxHeartbeats 2000000 in
theorem ctrcrypt_any (key nonce : Nat → Nat) (v : Value) (l : List Nat) (w : World) (hk : Aes.B8 key) (hn : Aes.B8 nonce) (hv : Rs w v l) (hl : l.length ≤ 140737488355328) :
    Calls Try.prog 28 #[.agg (arr .u8 16 key), .agg (arr .u8 8 nonce), v] w (RetOwn (Ctr.crypt key nonce 0 l) w) := by
  have hsz := arr_size .u8 16 key
  have hsz2 := arr_size .u8 8 nonce
  have HK := Lib.hid hk; have HN := Lib.hid hn; have HV := Lib.hid hv
  clear hk hn hv
  go_enter Try.func28, Try.ntmps28
  go_upto_region 1 with fail
  generalize hW : (World.alloc _ _ : World) = V
  have INV : isArr V w.heap.size 22 .u8 16 key ∧ isArr V (w.heap.size + 1) 40 .u8 8 nonce ∧ Below w.heap.size w V := by
    rw [← hW]
    have z1 : w.heap.size + 1 = (w.alloc (Obj.cells (arr IntKind.u8 16 key) 22)).heap.size := by simp
    refine ⟨(isArr_new w _ _ _ _).alloc _, ?_, ((Below.refl _ _).alloc (Nat.le_refl _) _).alloc (by simp) _⟩
    rw [z1]; exact isArr_new _ _ _ _ _
  have k1 := INV.1
  have k2 := INV.2.1
  have B0 := Lib.hid INV.2.2
  have hs : w.heap.size ≤ V.heap.size := INV.2.2.size
  clear hW INV hsz hsz2
  go_wp2_with (first | refine wpList_load_row rfl _ _ rfl w.heap.size rfl _ _ (0, 0) _ k1 rfl rfl (info16 _) ?_ | refine wpList_load_row rfl _ _ rfl (w.heap.size + 1) rfl _ _ (0, 0) _ k2 rfl rfl (info8 _) ?_ | (go_at_call 31; refine (ctrnew_any _ _ _).mono ?_; rintro e w1 ⟨p, rfl, hp, hcp, hb1⟩; have P1 := Lib.hid hcp; have B1 := Lib.hid (B0.out.trans (hb1.mono hs)); clear hcp hb1) | (go_at_call 32; refine (ctrnext_any p key nonce 0 _ l _ HK.out HN.out P1.out (HV.out.below B1.out) hl (by omega)).mono ?_; rintro e w2 ⟨v2, rfl, ho2, _, hg2⟩; have HO2 := Lib.hid ho2; have HG2 := Lib.hid hg2; clear ho2 hg2))
  go_ret
  exact ⟨_, rfl, HO2.out.mono B1.out.size, below_only B1.out (Nat.le_refl _) HG2.out (fun g hg => by cases hg; omega)⟩

end Go.Proofs.Ytibgmoapkionjaa
