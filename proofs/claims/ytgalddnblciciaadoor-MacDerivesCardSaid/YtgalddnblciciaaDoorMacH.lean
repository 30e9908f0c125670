/- The reference's Derive: walked. -/
import Derived.Test.YtgalddnblciciaaDoorMacE
import Derived.Lib.AppendStr
namespace Go.Proofs.YtgalddnblciciaaDoor
open Go.RowKit Go.Deep

theorem strCells_lb (s : ByteArray) : Lib.strCells s = (lb s).map bv := by
  unfold lb Lib.strCells
  rw [List.map_map]
  rfl
theorem wpList_append_lstr {w : World} {ops : Array Oper} {rest : List Oper} {o : Oper} {a : Act} {Q : Exit → Act → World → Prop} (hgd : o.guard = none) (sl x : Operand)
    (ho : o.op = .call { callee := .builtin .append, args := #[sl, x], argTypes := #[24, 9] })
    (base : Nat) (v : Value) (l : List Nat) (hs : a.eval sl = v) (hown : Own w base v l) (s : ByteArray) (hx : a.eval x = .string s)
    (hbytes : l.length + s.size ≤ 140737488355328) (hbase : base ≤ w.heap.size)
    (h : ∀ v' w', Own w' base v' (l ++ lb s) → w.grownBy w' v.ownBlock → wpList Tryd.prog ops Q rest (a.put o.dst v') w') : wpList Tryd.prog ops Q (o :: rest) a w := by
  obtain ⟨i0, hi, hz0, hz1, hz2⟩ := info_parts info_u8
  refine Lib.wpList_append_own_string w hgd sl x 24 9 ho base 5 i0 Tryd.underlying24 Tryd.underlying9 hi hz0 hz1 hz2 v l.length (l.map bv) hs hown.2 s hx (by unfold maxLen; omega) hbytes hbase ?_
  intro v' w' h1 h2 _
  refine h v' w' ⟨hown.1.append (lb_all s), ?_⟩ h2
  rw [List.length_append, List.map_append, lb_length, ← strCells_lb]
  exact h1
theorem Own.take {w : World} {base g c n : Nat} {l : List Nat} (h : Own w base (.slice (some ⟨g, 0, none⟩) l.length c) l) (hn : n ≤ l.length) : Own w base (.slice (some ⟨g, 0, none⟩) n c) (l.take n) := by
  obtain ⟨h0, h1, h2⟩ := h
  refine ⟨h0.take n, ?_⟩
  have hl : (l.take n).length = n := by rw [List.length_take]; omega
  refine ⟨by simp, ?_⟩
  rcases h2 with ⟨e, _⟩ | ⟨g', cap, cur, e, hb, hg, hnc, hc, hs, ht⟩
  · cases e
  · simp only [Value.slice.injEq, Option.some.injEq, Addr.mk.injEq, and_true, true_and] at e
    obtain ⟨rfl, rfl⟩ := e
    refine .inr ⟨g, c, cur, by rw [hl], hb, hg, by omega, hc, hs, ?_⟩
    rw [hl, List.map_take, ← ht, List.take_take, Nat.mul_one, Nat.mul_one, Nat.min_eq_left (by omega)]

set_option maxRecDepth 100000 in
theorem refderive_out (kv : Value) (s : ByteArray) (n : Int) (w : World) (h : n < 0 ∨ 8160 < n) : Calls Tryd.prog 34 #[kv, .string s, .int .i64 n] w (RetOwn [] w) := by
  go_enter Tryd.func34, Tryd.ntmps34
  by_cases h1 : n < 0
  · have d1 : decide (n < 0) = true := by simp; omega
    go_wp2_with fail
    go_ret
    exact ⟨_, rfl, Own.nil _ _, Below.refl _ _⟩
  · have d1 : decide (n < 0) = false := by simp; omega
    have d2 : decide (8160 < n) = true := by simp; omega
    go_wp2_with fail
    go_ret
    exact ⟨_, rfl, Own.nil _ _, Below.refl _ _⟩
set_option maxRecDepth 100000 in
set_option maxHeartbeats 4000000 in
theorem refderive_in (key : List Nat) (kv : Value) (s : ByteArray) (n : Nat) (w : World) (hn : n ≤ 8160) (hk : Rs w kv key) (hkl : key.length ≤ 140737488354000) (hs : s.size ≤ 140737488353000) :
    Calls Tryd.prog 34 #[kv, .string s, .int .i64 n] w (RetOwn (Mac.dn key (lb s) n) w) := by
  have HQ := Lib.hid hk; clear hk
  have hi32 : ∀ f, ((Tryd.prog).info? 26).map (·.size) = some (arr .u8 32 f).size := by intro f; rw [arr_size]; rfl
  have d1 : decide ((n : Int) < 0) = false := by simp
  have d2 : decide ((8160 : Int) < (n : Int)) = false := by simp; omega
  go_enter Tryd.func34, Tryd.ntmps34
  go_wp2_with fail
  go_loopw [7, 8, 9] (fun v i _ wr => ∃ j : Nat, j ≤ n ∧ i = .int .i64 j ∧ Own wr w.heap.size v (Mac.dv key (lb s) ((j + 31) / 32)) ∧ Below w.heap.size w wr) (fun _ i _ _ => n - (intOf i).toNat)
  case atStart => exact ⟨0, by omega, rfl, Own.nil _ _, Below.refl _ _⟩
  case round =>
    obtain ⟨j, hj, rfl, hown, hbl⟩ := hrel
    obtain ⟨va, vcap, rfl⟩ := hown.form
    rw [Mac.dv_length] at hown ⊢
    by_cases hlt : j < n
    · have hd : decide ((j : Int) < (n : Int)) = true := by simp; omega
      have nj : 0 ≤ (j : Int) := by omega
      have lj : (j : Int) < 8160 := by omega
      by_cases hm : j % 32 = 0
      · obtain ⟨q, hq⟩ : ∃ q, j = 32 * q := ⟨j / 32, by omega⟩
        have dm : ((j : Int) % 32 == 0) = true := by rw [beq_iff_eq]; omega
        have e1 : (j + 31) / 32 = q := by omega
        rw [e1] at hown ⊢
        obtain ⟨t, ht⟩ : ∃ t, t = q + 1 := ⟨_, rfl⟩
        have e2 : (j : Int) / 32 = (q : Int) := by omega
        have e3 : (q : Int) + 1 = (t : Int) := by omega
        have hw : (t : Int) % 256 = (t : Int) := by omega
        have htb : t < 256 := by omega
        have nq : 0 ≤ (q : Int) := by omega
        have lq : (q : Int) < 255 := by omega
        have HN := Lib.hid (show Mac.dv key (lb s) q ++ Mac.bk key (lb s) t = Mac.dv key (lb s) ((j + 1 + 31) / 32) by rw [show (j + 1 + 31) / 32 = q + 1 by omega, ht]; rfl)
        have HQ2 := Lib.hid (And.intro hq (And.intro ht hlt))
        have hsz := hbl.size
        have HI := Lib.hid (And.intro hown hbl)
        have hln := Mac.dv_length key (lb s) q
        have hbk := Mac.bk_length key (lb s) t
        have HL := Lib.hid (And.intro hln hbk)
        clear hown hbl hq ht e1 hm hln hbk
        go_upto_region 9 with (first | (at_builtin; refine wpList_append_lstr rfl (.tmp 29) (.tmp 30) rfl wr.heap.size _ [t] rfl (own_built wr wr.heap.size [t] (AllB.one htb) (Nat.le_refl _) (by simp)) s rfl (by simp; omega) (by simp) ?_; intro vb w2 hob hgb) | (go_at_call 30; go_must (refine (refmac_any key ([t] ++ lb s) _ _ _ (HQ.out.below (HI.out.2.trans ((below_only ((Below.refl _ _).alloc (Nat.le_refl _) _) (Nat.le_refl _) hgb (fun g hg => ((own_built wr wr.heap.size [t] (AllB.one htb) (Nat.le_refl _) (by simp)).lt g hg).1)).mono hsz))) hkl hob.bs.rs (by simp [lb_length]; omega)).mono ?_; rintro e w3 ⟨rfl, hb3⟩)) | (refine wpList_store_rowTo rfl _ _ _ rfl rfl w3.heap.size _ rfl rfl _ _ (heap_alloc_new _ _) (hi32 _) (by rw [arr_size]; rfl) (arr_one _ _ _) ?_; generalize hV : World.setRow _ w3.heap.size _ = V))
        have hb2 : Below wr.heap.size wr w2 := below_only ((Below.refl _ _).alloc (Nat.le_refl _) _) (Nat.le_refl _) hgb (fun g hg => ((own_built wr wr.heap.size [t] (AllB.one htb) (Nat.le_refl _) (by simp)).lt g hg).1)
        have hb13 : Below wr.heap.size wr w3 := hb2.trans (hb3.mono hb2.size)
        have hbV : Below wr.heap.size wr V := by rw [← hV]; exact below_setRow (hb13.alloc hb13.size _) hb13.size _
        have hA : isArr V w3.heap.size 26 .u8 32 (Mac.hm key (t :: lb s)) := by
          rw [← hV]; exact setRow_heap _ _ _ _ _ _ (heap_alloc_new _ _)
        have hrr : Rs V (.slice (some ⟨w3.heap.size, 0, none⟩) 32 32) (Mac.bk key (lb s) t) := rs_arr hA (fun i _ => Mac.hm_lt _ _ i) (by omega)
        have Z := Lib.hid (And.intro hrr (And.intro (HI.out.1.below hbV) (HI.out.2.trans (hbV.mono hsz))))
        have hzV := Z.out.2.2.size
        clear hbV hV hA hrr hb3 hgb hob hb2 hb13
        generalize w3.heap.size = gi at Z ⊢
        go_wp2_with (at_builtin; go_must (refine wpList_append_rs rfl _ _ rfl w.heap.size _ _ rfl Z.out.2.1 _ _ rfl Z.out.1 (by rw [HL.out.1, HL.out.2]; have := HQ2.out; omega) hzV ?_; intro v4 w4 h4 g4; have hb4 := below_only Z.out.2.2 (Nat.le_refl _) g4 (fun g hg => (Z.out.2.1.lt g hg).1); rw [HN.out] at h4; have Y := Lib.hid (And.intro h4 hb4); clear h4 g4 hb4))
        go_roundw
        case rel => exact ⟨j + 1, by have := HQ2.out; omega, by go_num, Y.out.1, Y.out.2⟩
        case measure => simp [intOf]; have := HQ2.out; omega
      · have dm : ((j : Int) % 32 == 0) = false := by rw [beq_eq_false_iff_ne]; omega
        have e1 : (j + 31) / 32 = (j + 1 + 31) / 32 := by omega
        rw [e1] at hown ⊢
        have HI := Lib.hid (And.intro hown hbl)
        have HLT := Lib.hid hlt
        clear hown hbl e1 hm
        go_wp2_with fail
        go_roundw
        case rel => exact ⟨j + 1, by have := HLT.out; omega, by go_num, HI.out.1, HI.out.2⟩
        case measure => simp [intOf]; have := HLT.out; omega
    · obtain rfl : j = n := by omega
      have hd : decide ((j : Int) < (j : Int)) = false := by simp
      have hn31 : j ≤ 32 * ((j + 31) / 32) := by omega
      have e : (Mac.dv key (lb s) ((j + 31) / 32)).take j = Mac.dn key (lb s) j := rfl
      have hln := Mac.dv_length key (lb s) ((j + 31) / 32)
      have HB := Lib.hid hbl
      generalize Mac.dv key (lb s) ((j + 31) / 32) = L at hown e hln
      generalize 32 * ((j + 31) / 32) = z at hown hn31 hln ⊢
      have E := Lib.hid e
      rw [← hln] at hown hn31 ⊢
      have HO := Lib.hid hown
      rcases hown.cases with ⟨h', hnil⟩ | ⟨g, cap, h', hb, hg, hl, hc, hcell, hf⟩
      · simp only [Value.slice.injEq] at h'
        obtain ⟨rfl, h0, rfl⟩ := h'
        have hj0 : j = 0 := by omega
        subst hj0
        have ez : (L.length : Int) = 0 := by omega
        have HE : Hid (Own wr w.heap.size (.slice none 0 0) (Mac.dn key (lb s) 0)) := Lib.hid (by rw [← E.out, List.take_zero]; exact Own.nil _ _)
        rw [h0]
        clear hown hlt hbl hln hnil hn31 h0 ez e HO
        go_wp2_with fail
        go_ret
        exact ⟨_, rfl, HE.out, HB.out⟩
      · simp only [Value.slice.injEq, true_and] at h'
        obtain ⟨rfl, rfl⟩ := h'
        have nc : (j : Int) ≤ (vcap : Int) := by omega
        have nj : 0 ≤ (j : Int) := by omega
        have HE : Hid (Own wr w.heap.size (.slice (some ⟨g, 0, none⟩) j vcap) (Mac.dn key (lb s) j)) := Lib.hid (by rw [← E.out]; exact HO.out.take hn31)
        clear hown hlt hbl hln hn31 hcell hf e HO
        go_wp2_with fail
        go_ret
        exact ⟨_, rfl, HE.out, HB.out⟩
end Go.Proofs.YtgalddnblciciaaDoor
