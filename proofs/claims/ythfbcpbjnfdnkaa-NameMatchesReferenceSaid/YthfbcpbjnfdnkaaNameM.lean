/- Layer 11: Bytes of the program. -/
import Derived.Test.YthfbcpbjnfdnkaaNameL
import Derived.Test.YthfbcpbjnfdnkaaWireD
import Derived.Test.YthfbcpbjnfdnkaaWireE
namespace Go.Proofs.Ythfbcpbjnfdnkaa
open Go.RowKit Go.Deep

theorem putString_sized (l : Nam.W) (h : l.length ≤ 200) : Wir.putString 1 (Nam.toN l) = some (Nam.sized l) := by
  unfold Wir.putString Wir.putNumber
  rw [Nam.toN_length, if_neg (by omega), if_pos (by simp; omega)]
  simp [Wir.enc, Nam.sized, Nat.mod_eq_of_lt (show l.length < 256 by omega)]
theorem putNumber_one (k : Nat) (h : k < 256) : Wir.putNumber 1 k = some [k] := by
  unfold Wir.putNumber
  rw [if_neg (by omega), if_pos (by simpa using h)]
  simp [Wir.enc, Nat.mod_eq_of_lt h]
theorem info_sl : (Try.prog.info? 23).map (fun i => (i.zero, i.size, i.bytes)) = some (some (.slice none 0 0), 1, 24) := by kernel_rfl
theorem wpList_append_sl {w : World} {ops : Array Oper} {rest : List Oper} {o : Oper} {a : Act} {Q : Exit → Act → World → Prop} (hgd : o.guard = none) (s x : Operand)
    (ho : o.op = .call { callee := .builtin .append, args := #[s, x], argTypes := #[35, 35] })
    (base : Nat) (v : Value) (vs : List Value) (ll : List (List Nat)) (hs : a.eval s = v) (hown : OwnB w base v vs ll) (g : Nat) (t : Value) (l : List Nat) (ht : Own w base t l) (hx : a.eval x = .slice (some ⟨g, 0, none⟩) 1 1) (hc : w.cell? ⟨g, 0, none⟩ = some t)
    (hn : vs.length ≤ 1000) (hbase : base ≤ w.heap.size)
    (h : ∀ a' c' w', OwnB w' base (.slice a' (vs.length + 1) c') (vs ++ [t]) (ll ++ [l]) → w.grownBy w' v.ownBlock → wpList Try.prog ops Q rest (a.put o.dst (.slice a' (vs.length + 1) c')) w') : wpList Try.prog ops Q (o :: rest) a w := by
  obtain ⟨i0, hi, hz0, hz1, hz2⟩ := info_parts info_sl
  obtain ⟨ta, tc, rfl⟩ := ht.form
  refine wpList_append_own w hgd s x 35 ho base 23 i0 (.slice none 0 0) 1 24 Try.underlying35 hi hz0 hz1 hz2 rfl (by decide) v vs.length vs hs hown.1 ⟨g, 0, none⟩ 1 1 [.slice ta l.length tc] hx (by simp) ?_ ?_ ?_ (by omega) hbase ?_
  · intro j u hj
    match j, hj with
    | 0, hj => simp at hj; subst hj; rw [Addr.add_lit]; exact hc
  · intro u hu
    simp at hu; subst hu; rfl
  · unfold maxLen; omega
  · intro v' w' h3 h4 _
    have hO : OwnB w' base v' (vs ++ [.slice ta l.length tc]) (ll ++ [l]) := by
      refine ⟨by rw [List.length_append]; exact h3, by rw [List.length_append, List.length_append, hown.2.1]; rfl, fun i u hu => ?_⟩
      rcases Nat.lt_or_ge i vs.length with hlt | hge
      · rw [List.getElem?_append_left hlt] at hu
        have e : (ll ++ [l]).getD i [] = ll.getD i [] := by simp [List.getD, List.getElem?_append_left (show i < ll.length by rw [← hown.2.1]; exact hlt)]
        rw [e]
        have ou := hown.2.2 i u hu
        exact ou.only h4 (own_other ou hown.1)
      · rw [List.getElem?_append_right hge] at hu
        have hi0 : i - vs.length = 0 := by
          rcases Nat.eq_zero_or_pos (i - vs.length) with h | h
          · exact h
          · rw [List.getElem?_eq_none (by simp; omega)] at hu; cases hu
        rw [hi0] at hu
        simp at hu
        subst hu
        have hie : i = ll.length := by have := hown.2.1; omega
        have e : (ll ++ [l]).getD i [] = l := by rw [hie]; simp [List.getD]
        rw [e]
        exact ht.only h4 (own_other ht hown.1)
    obtain ⟨a', c', e⟩ : ∃ a' c', v' = .slice a' (vs.length + 1) c' := by
      rcases h3.2 with ⟨_, hz⟩ | ⟨g', cap, cur, hv, _⟩
      · omega
      · exact ⟨_, _, hv⟩
    subst e
    exact h a' c' w' hO h4
theorem ownB_two {w : World} {base : Nat} {u t : Value} {a b : List Nat} (hu : Own w base u a) (ht : Own w base t b) (hB : base ≤ w.heap.size) : OwnB (w.alloc (.cells #[u, t] 23)) base (.slice (some ⟨w.heap.size, 0, none⟩) 2 2) [u, t] [a, b] := by
  refine ⟨⟨by simp, .inr ⟨w.heap.size, 2, #[u, t], rfl, hB, heap_alloc_new w _, by simp, by unfold maxLen; omega, by simp, by simp⟩⟩, rfl, fun i x hx => ?_⟩
  match i, hx with
  | 0, hx => simp at hx; subst hx; exact hu.alloc _
  | 1, hx => simp at hx; subst hx; exact ht.alloc _
  | _ + 2, hx => simp at hx
def part (ss : List ByteArray) : List (List Nat) := ss.map fun s => Nam.sized (bl s)
theorem bytes_join (r : ByteArray) (ss : List ByteArray) : Nam.bytes (nm r ss) = Wir.join (Nam.sized (bl r) :: [ss.length] :: part ss) := by
  unfold Nam.bytes nm part Wir.join
  simp [List.map_map, Function.comp_def]
set_option maxRecDepth 100000 in
set_option maxHeartbeats 4000000 in
theorem nbytes_any (r : ByteArray) (hr : r.size ≤ maxLen) (v : Value) (ss : List ByteArray) (w : World) (h : Ss w v ss) :
    Calls Try.prog 37 #[.agg #[.string r, v]] w (RetPut (if Nam.valid (nm r ss) = true then some (Nam.bytes (nm r ss)) else none) w) := by
  obtain ⟨a, cap, rfl⟩ := h.form
  have H := Lib.hid h; clear h
  have hn := H.out.len
  have hb0 := Hb.new w #[.string r, .slice a ss.length cap] 53
  have z0 := hb0.cell (i := 0) rfl
  have z1 := hb0.cell (i := 1) rfl
  generalize hR : (if Nam.valid (nm r ss) = true then some (Nam.bytes (nm r ss)) else none) = R
  have HR := Lib.hid hR; clear hR
  go_enter Try.func37, Try.ntmps37
  go_wp2_with (go_at_call 38; refine (valid_any r hr _ ss _ (H.out.only (only_alloc (only_refl _ _) _))).mono ?_)
  rintro e w1 ⟨rfl, h1⟩
  have hb1 := hb0.only h1
  have g1 := only_trans (only_alloc (only_refl w none) _) h1
  clear h1 hb0 z0 z1
  cases hv : Nam.valid (nm r ss)
  · have E1 : none = R := by have := HR.out; rw [hv] at this; exact this
    go_wp2_with fail
    go_ret2
    exact ⟨below_of_only g1, .inl ⟨E1.symm, rfl⟩⟩
  obtain ⟨hw, h1s, h8, hall⟩ := valid_parts hv
  have E1 := Lib.hid (show some (Nam.bytes (nm r ss)) = R by have := HR.out; rw [if_pos hv] at this; exact this)
  clear HR
  have HBY := Lib.hid (bytes_join r ss)
  have hlen := Nam.bytes_len hv
  generalize Nam.bytes (nm r ss) = BB at HBY hlen E1
  have HA := Lib.hid hall; clear hall hv
  have hrz := (Nam.word_len hw).2
  rw [bl_length] at hrz
  have z0 := hb1.cell (i := 0) rfl
  obtain ⟨vr, w2, hcv, hbr, hb2⟩ := conv_bytes r w1 (by omega)
  have hps := putString_sized (bl r) (by rw [bl_length]; omega)
  have hb22 : Hb w2 w.heap.size #[.string r, .slice a ss.length cap] 53 := hb1.only (only_of_below hb2 none)
  go_wp2_with (go_at_call 14; refine (string_put 1 vr _ _ hbr.rs (by omega) (by rw [Nam.toN_length, bl_length]; omega)).mono ?_)
  rintro e w3 ⟨hb3, ht⟩
  rw [hps] at ht
  rcases ht with ⟨hno, _⟩ | ⟨l0, u0, hl0, rfl, o0⟩
  · cases hno
  cases hl0
  have hb33 := hb22.only (only_of_below hb3 none)
  have g3 := only_trans g1 (only_trans (only_of_below hb2 none) (only_of_below hb3 none))
  have O0 := o0.mono (base' := w.heap.size) (Nat.le_trans g1.size hb2.size)
  clear hcv hbr hb1 hb22 hb2 hb3 g1 hps z0 o0
  have z1 := hb33.cell (i := 1) rfl
  have hpn := putNumber_one ss.length (by omega)
  go_wp2_with (go_at_call 13; refine (putNumber_fits 1 ss.length _ (by omega) (by omega) (by omega)).mono ?_)
  all_goals first | omega | skip
  rintro e w4 ⟨hb4, ht⟩
  rw [show (((1 : Nat) : Int)) = 1 from rfl, hpn] at ht
  rcases ht with ⟨hno, _⟩ | ⟨l1, u1, hl1, rfl, o1⟩
  · cases hno
  cases hl1
  have hb44 := hb33.only (only_of_below hb4 none)
  have g4 := only_trans g3 (only_of_below hb4 none)
  have O1 := o1.mono (base' := w.heap.size) g3.size
  have O0 := O0.below hb4
  obtain ⟨a0, e0, rfl⟩ := O0.form
  obtain ⟨a1, e1, rfl⟩ := O1.form
  have O1 : Own w4 w.heap.size (.slice a1 1 e1) [ss.length] := O1
  have OB := Lib.hid (ownB_two O0 O1 g4.size)
  have hb55 := hb44.alloc (.cells #[.slice a0 (Nam.sized (bl r)).length e0, .slice a1 1 e1] 23)
  have z5 := hb55.cell (i := 1) rfl
  clear o1 hb33 z1 hb4 hpn g3
  go_wp2_with fail
  go_loopw [37, 8] (fun x y wr => ∃ (j : Nat) (vs : List Value), x = .int .i64 j ∧ j ≤ ss.length ∧ vs.length = j + 2 ∧ OwnB wr w.heap.size y vs (Nam.sized (bl r) :: [ss.length] :: part (ss.take j)) ∧ w.grownBy wr none) (fun x _ _ => ss.length - (intOf x).toNat)
  case atStart => exact ⟨0, _, rfl, Nat.zero_le _, rfl, OB.out, only_alloc g4 _⟩
  case round =>
    obtain ⟨j, vs, rfl, hj, hvs, ob, hg⟩ := hrel
    obtain ⟨ya, yc, rfl⟩ := ob.form
    clear O0 O1 OB hb55 z5 hb44 g4
    have hv1 : vs.length ≤ 12 := by omega
    have HVS := Lib.hid hvs; clear hvs
    by_cases hjl : j < ss.length
    · obtain ⟨b, off, rfl, hc⟩ := (H.out.only hg).at hjl
      have hwj := part_word HA.out hjl
      have HT := Lib.hid (take_snoc_ss ss j hjl)
      generalize ss.getD j ByteArray.empty = s at hc hwj HT
      have hsz := (Nam.word_len hwj).2
      rw [bl_length] at hsz
      obtain ⟨vt, w5, hcv, hbt, hb5⟩ := conv_bytes s wr (by omega)
      have hps := putString_sized (bl s) (by rw [bl_length]; omega)
      have ob5 := ob.below hb5
      have g5 := only_trans hg (only_of_below hb5 none)
      go_wp2_with (go_at_call 14; refine (string_put 1 vt _ _ hbt.rs (by omega) (by rw [Nam.toN_length, bl_length]; omega)).mono ?_)
      all_goals first | omega | skip
      rintro e w6 ⟨hb6, ht⟩
      rw [hps] at ht
      rcases ht with ⟨hno, _⟩ | ⟨l2, u2, hl2, rfl, o2⟩
      · cases hno
      cases hl2
      have ob6 := ob5.below hb6
      have g6 := only_trans g5 (only_of_below hb6 none)
      have O2 := o2.mono (base' := w.heap.size) g5.size
      obtain ⟨a2, c2, rfl⟩ := O2.form
      clear hcv hbt hps ob5 ob o2 hb5 hb6
      have hs6 := g6.size
      go_wp2_with (at_builtin; go_must (refine wpList_append_sl rfl _ _ rfl w.heap.size (.slice ya vs.length yc) vs _ rfl (ob6.alloc _) w6.heap.size (.slice a2 (Nam.sized (bl s)).length c2) _ (O2.alloc _) rfl (cell_new _ _ _ 0 _ rfl) (by omega) (Nat.le_trans hs6 (by simp)) ?_; intro a7 c7 w7 hown7 hgr7))
      all_goals first | omega | skip
      go_roundw
      case rel =>
        refine ⟨j + 1, vs ++ [.slice a2 (Nam.sized (bl s)).length c2], by go_num, by omega, by simp [HVS.out], ?_, ?_⟩
        · rw [HT.out]; unfold part at hown7 ⊢; simpa using hown7
        · exact only_of_below (below_only (below_of_only (only_alloc g6 _)) (Nat.le_refl _) hgr7 (fun g hg' => (ob6.lt g hg').1)) none
      case measure => simp [intOf]; omega
    · have hje : j = ss.length := by omega
      subst hje
      rw [List.take_length] at ob
      have hbss := ob.bss
      have hjl2 : (Wir.join (Nam.sized (bl r) :: [ss.length] :: part ss)).length ≤ 140737488355328 := by rw [← HBY.out]; omega
      go_wp2_with (go_at_call 19; refine (join_any _ _ _ hbss hjl2).mono ?_)
      all_goals first | omega | skip
      rintro e w9 ⟨u9, rfl, o9, hb9⟩
      go_wp2_with fail
      go_ret2
      rw [← HBY.out] at o9
      exact ⟨below_of_only (only_trans hg (only_of_below hb9 none)), .inr ⟨BB, u9, E1.out.symm, rfl, o9.mono hg.size⟩⟩
end Go.Proofs.Ythfbcpbjnfdnkaa
