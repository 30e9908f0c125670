/- Merged by program out of: NameL NameM NameN NameO NameP. -/
import Derived.Test.YtnhchdkchohnbaaGreatDoorTM1
import Derived.Test.YtnhchdkchohnbaaGreatDoorTM2
import Derived.Test.YtnhchdkchohnbaaGreatDoorTM3
import Derived.Test.YtnhchdkchohnbaaGreatDoorTM4
import Derived.Test.YtnhchdkchohnbaaGreatDoorTM5
import Derived.Test.YtnhchdkchohnbaaGreatDoorTM6
import Derived.Test.YtnhchdkchohnbaaGreatDoorTM7
import Derived.Test.YtnhchdkchohnbaaGreatDoorTM8
import Derived.Test.YtnhchdkchohnbaaGreatDoorTM9
import Derived.Test.YtnhchdkchohnbaaGreatDoorTN1
import Derived.Test.YtnhchdkchohnbaaGreatDoorTN2
import Derived.Lib.AppendStr
/- Layer 11: the bytes of a string, converted. -/
namespace Go.Proofs.YtnhchdkchohnbaaGreatDoor
open Go.RowKit Go.Deep

theorem toN_getD (l : Nam.W) (i : Nat) : (Nam.toN l).getD i 0 = (l.getD i 0).toNat := by
  simp only [Nam.toN, List.getD, List.getElem?_map]
  cases l[i]? <;> rfl
theorem conv_bytes (s : ByteArray) (w : World) (hs : s.size ≤ 1000000) : ∃ v w', (convert 9 24 (.string s)).run Tryz.prog w = .ok v w' ∧ Bs w' v (Nam.toN (bl s)) ∧ Below w.heap.size w w' := by
  refine ⟨_, _, run_bytes_of_string w 9 24 5 s Tryz.underlying9 Tryz.underlying24 Tryz.underlying5, ?_, (Below.drew (Below.refl _ w)).alloc (Nat.le_refl _) _⟩
  have hl : (Nam.toN (bl s)).length = s.size := by rw [Nam.toN_length]; rfl
  have hc : s.size ≤ grownCap w s.size 0 5 ∧ grownCap w s.size 0 5 ≤ 9223372036854775807 := by
    have h1 := grownCap_ge w s.size 0 5
    have h2 := grownCap_le_maxLen w s.size 0 5 (by unfold maxLen; omega)
    unfold maxLen at h2
    exact ⟨h1, by omega⟩
  refine bs_mk (Nam.toN_all _) hl hc.1 hc.2 (by simp) fun i hi => ?_
  rw [Nat.zero_add]
  have hi' : i < s.data.size := by rw [hl] at hi; exact hi
  have h1 := World.cell?_alloc_mark w.drew (bytesRow s (grownCap w s.size 0 5)) 5 ((bytesRow s (grownCap w s.size 0 5)).size, (bytesRow s (grownCap w s.size 0 5)).size + 1) i
  refine h1.trans ?_
  rw [bytesRow_at s _ i hi', toN_getD]
  have e : (bl s).getD i 0 = s.data[i] := by
    have := bl_get s i hi'
    rw [← this]; rfl
  rw [e]
/-! ### a slice of byte slices of the call's own -/
def OwnB (w : World) (base : Nat) (v : Value) (vs : List Value) (ll : List (List Nat)) : Prop := w.ownsRow base 24 1 v vs.length vs ∧ vs.length = ll.length ∧ (∀ i u, vs[i]? = some u → Own w base u (ll.getD i []))
theorem OwnB.bss {w : World} {base : Nat} {v : Value} {vs : List Value} {ll : List (List Nat)} (h : OwnB w base v vs ll) : Bss w v ll := by
  obtain ⟨h1, h2, h3⟩ := h
  rcases h1.2 with ⟨rfl, hn⟩ | ⟨g, cap, cur, rfl, hb, hg, hn, hc, hs, ht⟩
  · have : ll = [] := List.eq_nil_of_length_eq_zero (by omega)
    subst this
    exact ⟨none, 0, rfl, by simp, fun h => absurd rfl h⟩
  · have hn' := hn
    have hc' := hc
    unfold maxLen at hc'
    rw [h2] at hn' ⊢
    refine ⟨_, cap, rfl, by omega, fun _ => ⟨g, 0, rfl, fun i hi => ?_⟩⟩
    have hi' : i < vs.length := by omega
    refine ⟨vs[i], ?_, (h3 i _ (List.getElem?_eq_getElem hi')).bs.rs⟩
    rw [Nat.zero_add, h1.cellAt i (by omega)]
    simp [hi']
theorem OwnB.below {w w' : World} {base : Nat} {v : Value} {vs : List Value} {ll : List (List Nat)} (h : OwnB w base v vs ll) (k : Below w.heap.size w w') : OwnB w' base v vs ll :=
  ⟨h.1.kept (only_of_below k none) (by cases hv : v.ownBlock <;> simp), h.2.1, fun i u hu => (h.2.2 i u hu).below k⟩
theorem OwnB.lt {w : World} {base : Nat} {v : Value} {vs : List Value} {ll : List (List Nat)} (h : OwnB w base v vs ll) : ∀ g, v.ownBlock = some g → base ≤ g ∧ g < w.heap.size := h.1.lt
theorem OwnB.form {w : World} {base : Nat} {v : Value} {vs : List Value} {ll : List (List Nat)} (h : OwnB w base v vs ll) : ∃ a c, v = .slice a vs.length c := by
  rcases h.1.2 with ⟨rfl, hn⟩ | ⟨g, cap, cur, rfl, _⟩
  · exact ⟨none, 0, by rw [hn]⟩
  · exact ⟨_, _, rfl⟩
theorem OwnB.alloc {w : World} {base : Nat} {v : Value} {vs : List Value} {ll : List (List Nat)} (h : OwnB w base v vs ll) (o : Obj) : OwnB (w.alloc o) base v vs ll := h.below ((Below.refl _ _).alloc (Nat.le_refl _) _)
theorem own_other {w : World} {base base' n : Nat} {u v : Value} {l : List Nat} {xs : List Value} (h : Own w base u l) (k : w.ownsRow base' 24 1 v n xs) : u.ownBlock = none ∨ u.ownBlock ≠ v.ownBlock := by
  rcases k.2 with ⟨rfl, _⟩ | ⟨g, cap, cur, rfl, _, hg, _⟩
  · cases hu : u.ownBlock
    · exact .inl rfl
    · exact .inr (by simp [Value.ownBlock])
  · exact .inr (Lib.ownBlock_ne h.2 hg (by decide))
end Go.Proofs.YtnhchdkchohnbaaGreatDoor
/- Layer 11: Bytes of the program. -/
namespace Go.Proofs.YtnhchdkchohnbaaGreatDoor
open Go.RowKit Go.Deep

theorem putString_sized (l : Nam.W) (h : l.length ≤ 200) : Wir.putString 1 (Nam.toN l) = some (Nam.sized l) := by
  unfold Wir.putString Wir.putNumber
  rw [Nam.toN_length, if_neg (by omega), if_pos (by simp; omega)]
  simp [Wir.enc, Nam.sized, Nat.mod_eq_of_lt (show l.length < 256 by omega)]
theorem putNumber_one (k : Nat) (h : k < 256) : Wir.putNumber 1 k = some [k] := by
  unfold Wir.putNumber
  rw [if_neg (by omega), if_pos (by simpa using h)]
  simp [Wir.enc, Nat.mod_eq_of_lt h]
set_option maxRecDepth 100000 in
theorem info_sl : (Tryz.prog.info? 24).map (fun i => (i.zero, i.size, i.bytes)) = some (some (.slice none 0 0), 1, 24) := by kernel_rfl
theorem wpList_append_sl {w : World} {ops : Array Oper} {rest : List Oper} {o : Oper} {a : Act} {Q : Exit → Act → World → Prop} (hgd : o.guard = none) (s x : Operand)
    (ho : o.op = .call { callee := .builtin .append, args := #[s, x], argTypes := #[95, 95] })
    (base : Nat) (v : Value) (vs : List Value) (ll : List (List Nat)) (hs : a.eval s = v) (hown : OwnB w base v vs ll) (g : Nat) (t : Value) (l : List Nat) (ht : Own w base t l) (hx : a.eval x = .slice (some ⟨g, 0, none⟩) 1 1) (hc : w.cell? ⟨g, 0, none⟩ = some t)
    (hn : vs.length ≤ 1000) (hbase : base ≤ w.heap.size)
    (h : ∀ a' c' w', OwnB w' base (.slice a' (vs.length + 1) c') (vs ++ [t]) (ll ++ [l]) → w.grownBy w' v.ownBlock → wpList Tryz.prog ops Q rest (a.put o.dst (.slice a' (vs.length + 1) c')) w') : wpList Tryz.prog ops Q (o :: rest) a w := by
  obtain ⟨i0, hi, hz0, hz1, hz2⟩ := info_parts info_sl
  obtain ⟨ta, tc, rfl⟩ := ht.form
  refine wpList_append_own w hgd s x 95 ho base 24 i0 (.slice none 0 0) 1 24 Tryz.underlying95 hi hz0 hz1 hz2 rfl (by decide) v vs.length vs hs hown.1 ⟨g, 0, none⟩ 1 1 [.slice ta l.length tc] hx (by simp) ?_ ?_ ?_ (by omega) hbase ?_
  · intro j u hj
    match j, hj with
    | 0, hj => simp at hj; subst hj; rw [Addr.add_lit]; exact hc
  · intro u hu
    simp at hu; subst hu; rfl
  · unfold maxLen; omega
  · intro v' w' h3 h4 _
    have hO : OwnB w' base v' (vs ++ [.slice ta l.length tc]) (ll ++ [l]) := by
      refine ⟨by rw [List.length_append]; exact h3, by rw [List.length_append, List.length_append, hown.2.1]; rfl, fun i u hu => ?_⟩
      rcases Nat.lt_or_ge i vs.length with hlt | hge
      · rw [List.getElem?_append_left hlt] at hu
        have e : (ll ++ [l]).getD i [] = ll.getD i [] := by simp [List.getD, List.getElem?_append_left (show i < ll.length by rw [← hown.2.1]; exact hlt)]
        rw [e]
        have ou := hown.2.2 i u hu
        exact ou.only h4 (own_other ou hown.1)
      · rw [List.getElem?_append_right hge] at hu
        have hi0 : i - vs.length = 0 := by
          rcases Nat.eq_zero_or_pos (i - vs.length) with h | h
          · exact h
          · rw [List.getElem?_eq_none (by simp; omega)] at hu; cases hu
        rw [hi0] at hu
        simp at hu
        subst hu
        have hie : i = ll.length := by have := hown.2.1; omega
        have e : (ll ++ [l]).getD i [] = l := by rw [hie]; simp [List.getD]
        rw [e]
        exact ht.only h4 (own_other ht hown.1)
    obtain ⟨a', c', e⟩ : ∃ a' c', v' = .slice a' (vs.length + 1) c' := by
      rcases h3.2 with ⟨_, hz⟩ | ⟨g', cap, cur, hv, _⟩
      · omega
      · exact ⟨_, _, hv⟩
    subst e
    exact h a' c' w' hO h4
theorem ownB_two {w : World} {base : Nat} {u t : Value} {a b : List Nat} (hu : Own w base u a) (ht : Own w base t b) (hB : base ≤ w.heap.size) : OwnB (w.alloc (.cells #[u, t] 24)) base (.slice (some ⟨w.heap.size, 0, none⟩) 2 2) [u, t] [a, b] := by
  refine ⟨⟨by simp, .inr ⟨w.heap.size, 2, #[u, t], rfl, hB, heap_alloc_new w _, by simp, by unfold maxLen; omega, by simp, by simp⟩⟩, rfl, fun i x hx => ?_⟩
  match i, hx with
  | 0, hx => simp at hx; subst hx; exact hu.alloc _
  | 1, hx => simp at hx; subst hx; exact ht.alloc _
  | _ + 2, hx => simp at hx
def part (ss : List ByteArray) : List (List Nat) := ss.map fun s => Nam.sized (bl s)
theorem bytes_join (r : ByteArray) (ss : List ByteArray) : Nam.bytes (nm r ss) = Wir.join (Nam.sized (bl r) :: [ss.length] :: part ss) := by
  unfold Nam.bytes nm part Wir.join
  simp [List.map_map, Function.comp_def]
set_option maxRecDepth 100000 in
set_option maxHeartbeats 4000000 in
theorem nbytes_any (r : ByteArray) (hr : r.size ≤ maxLen) (v : Value) (ss : List ByteArray) (w : World) (h : Ss w v ss) :
    Calls Tryz.prog 60 #[.agg #[.string r, v]] w (RetPut (if Nam.valid (nm r ss) = true then some (Nam.bytes (nm r ss)) else none) w) := by
  obtain ⟨a, cap, rfl⟩ := h.form
  have H := Lib.hid h; clear h
  have hn := H.out.len
  have hb0 := Hb.new w #[.string r, .slice a ss.length cap] 29
  have z0 := hb0.cell (i := 0) rfl
  have z1 := hb0.cell (i := 1) rfl
  generalize hR : (if Nam.valid (nm r ss) = true then some (Nam.bytes (nm r ss)) else none) = R
  have HR := Lib.hid hR; clear hR
  go_enter Tryz.func60, Tryz.ntmps60
  go_wp2_with (go_at_call 69; refine (valid_any r hr _ ss _ (H.out.only (only_alloc (only_refl _ _) _))).mono ?_)
  rintro e w1 ⟨rfl, h1⟩
  have hb1 := hb0.only h1
  have g1 := only_trans (only_alloc (only_refl w none) _) h1
  clear h1 hb0 z0 z1
  cases hv : Nam.valid (nm r ss)
  · have E1 : none = R := by have := HR.out; rw [hv] at this; exact this
    go_wp2_with fail
    go_ret2
    exact ⟨below_of_only g1, .inl ⟨E1.symm, rfl⟩⟩
  obtain ⟨hw, h1s, h8, hall⟩ := valid_parts hv
  have E1 := Lib.hid (show some (Nam.bytes (nm r ss)) = R by have := HR.out; rw [if_pos hv] at this; exact this)
  clear HR
  have HBY := Lib.hid (bytes_join r ss)
  have hlen := Nam.bytes_len hv
  generalize Nam.bytes (nm r ss) = BB at HBY hlen E1
  have HA := Lib.hid hall; clear hall hv
  have hrz := (Nam.word_len hw).2
  rw [bl_length] at hrz
  have z0 := hb1.cell (i := 0) rfl
  obtain ⟨vr, w2, hcv, hbr, hb2⟩ := conv_bytes r w1 (by omega)
  have hps := putString_sized (bl r) (by rw [bl_length]; omega)
  have hb22 : Hb w2 w.heap.size #[.string r, .slice a ss.length cap] 29 := hb1.only (only_of_below hb2 none)
  go_wp2_with (go_at_call 76; refine (string_put 1 vr _ _ hbr.rs (by omega) (by rw [Nam.toN_length, bl_length]; omega)).mono ?_)
  rintro e w3 ⟨hb3, ht⟩
  rw [hps] at ht
  rcases ht with ⟨hno, _⟩ | ⟨l0, u0, hl0, rfl, o0⟩
  · cases hno
  cases hl0
  have hb33 := hb22.only (only_of_below hb3 none)
  have g3 := only_trans g1 (only_trans (only_of_below hb2 none) (only_of_below hb3 none))
  have O0 := o0.mono (base' := w.heap.size) (Nat.le_trans g1.size hb2.size)
  clear hcv hbr hb1 hb22 hb2 hb3 g1 hps z0 o0
  have z1 := hb33.cell (i := 1) rfl
  have hpn := putNumber_one ss.length (by omega)
  go_wp2_with (go_at_call 63; refine (putNumber_fits 1 ss.length _ (by omega) (by omega) (by omega)).mono ?_)
  all_goals first | omega | skip
  rintro e w4 ⟨hb4, ht⟩
  rw [show (((1 : Nat) : Int)) = 1 from rfl, hpn] at ht
  rcases ht with ⟨hno, _⟩ | ⟨l1, u1, hl1, rfl, o1⟩
  · cases hno
  cases hl1
  have hb44 := hb33.only (only_of_below hb4 none)
  have g4 := only_trans g3 (only_of_below hb4 none)
  have O1 := o1.mono (base' := w.heap.size) g3.size
  have O0 := O0.below hb4
  obtain ⟨a0, e0, rfl⟩ := O0.form
  obtain ⟨a1, e1, rfl⟩ := O1.form
  have O1 : Own w4 w.heap.size (.slice a1 1 e1) [ss.length] := O1
  have OB := Lib.hid (ownB_two O0 O1 g4.size)
  have hb55 := hb44.alloc (.cells #[.slice a0 (Nam.sized (bl r)).length e0, .slice a1 1 e1] 24)
  have z5 := hb55.cell (i := 1) rfl
  clear o1 hb33 z1 hb4 hpn g3
  go_wp2_with fail
  go_loopw [37, 8] (fun x y wr => ∃ (j : Nat) (vs : List Value), x = .int .i64 j ∧ j ≤ ss.length ∧ vs.length = j + 2 ∧ OwnB wr w.heap.size y vs (Nam.sized (bl r) :: [ss.length] :: part (ss.take j)) ∧ w.grownBy wr none) (fun x _ _ => ss.length - (intOf x).toNat)
  case atStart => exact ⟨0, _, rfl, Nat.zero_le _, rfl, OB.out, only_alloc g4 _⟩
  case round =>
    obtain ⟨j, vs, rfl, hj, hvs, ob, hg⟩ := hrel
    obtain ⟨ya, yc, rfl⟩ := ob.form
    clear O0 O1 OB hb55 z5 hb44 g4
    have hv1 : vs.length ≤ 12 := by omega
    have HVS := Lib.hid hvs; clear hvs
    by_cases hjl : j < ss.length
    · obtain ⟨b, off, rfl, hc⟩ := (H.out.only hg).at hjl
      have hwj := part_word HA.out hjl
      have HT := Lib.hid (take_snoc_ss ss j hjl)
      generalize ss.getD j ByteArray.empty = s at hc hwj HT
      have hsz := (Nam.word_len hwj).2
      rw [bl_length] at hsz
      obtain ⟨vt, w5, hcv, hbt, hb5⟩ := conv_bytes s wr (by omega)
      have hps := putString_sized (bl s) (by rw [bl_length]; omega)
      have ob5 := ob.below hb5
      have g5 := only_trans hg (only_of_below hb5 none)
      go_wp2_with (go_at_call 76; refine (string_put 1 vt _ _ hbt.rs (by omega) (by rw [Nam.toN_length, bl_length]; omega)).mono ?_)
      all_goals first | omega | skip
      rintro e w6 ⟨hb6, ht⟩
      rw [hps] at ht
      rcases ht with ⟨hno, _⟩ | ⟨l2, u2, hl2, rfl, o2⟩
      · cases hno
      cases hl2
      have ob6 := ob5.below hb6
      have g6 := only_trans g5 (only_of_below hb6 none)
      have O2 := o2.mono (base' := w.heap.size) g5.size
      obtain ⟨a2, c2, rfl⟩ := O2.form
      clear hcv hbt hps ob5 ob o2 hb5 hb6
      have hs6 := g6.size
      go_wp2_with (at_builtin; go_must (refine wpList_append_sl rfl _ _ rfl w.heap.size (.slice ya vs.length yc) vs _ rfl (ob6.alloc _) w6.heap.size (.slice a2 (Nam.sized (bl s)).length c2) _ (O2.alloc _) rfl (cell_new _ _ _ 0 _ rfl) (by omega) (Nat.le_trans hs6 (by simp)) ?_; intro a7 c7 w7 hown7 hgr7))
      all_goals first | omega | skip
      go_roundw
      case rel =>
        refine ⟨j + 1, vs ++ [.slice a2 (Nam.sized (bl s)).length c2], by go_num, by omega, by simp [HVS.out], ?_, ?_⟩
        · rw [HT.out]; unfold part at hown7 ⊢; simpa using hown7
        · exact only_of_below (below_only (below_of_only (only_alloc g6 _)) (Nat.le_refl _) hgr7 (fun g hg' => (ob6.lt g hg').1)) none
      case measure => simp [intOf]; omega
    · have hje : j = ss.length := by omega
      subst hje
      rw [List.take_length] at ob
      have hbss := ob.bss
      have hjl2 : (Wir.join (Nam.sized (bl r) :: [ss.length] :: part ss)).length ≤ 140737488355328 := by rw [← HBY.out]; omega
      go_wp2_with (go_at_call 61; refine (join_any _ _ _ hbss hjl2).mono ?_)
      all_goals first | omega | skip
      rintro e w9 ⟨u9, rfl, o9, hb9⟩
      go_wp2_with fail
      go_ret2
      rw [← HBY.out] at o9
      exact ⟨below_of_only (only_trans hg (only_of_below hb9 none)), .inr ⟨BB, u9, E1.out.symm, rfl, o9.mono hg.size⟩⟩
end Go.Proofs.YtnhchdkchohnbaaGreatDoor
/- Layer 11: Bytes of the reference, of a name. -/
namespace Go.Proofs.YtnhchdkchohnbaaGreatDoor
open Go.RowKit Go.Deep

theorem strCells_bl (s : ByteArray) : Lib.strCells s = (Nam.toN (bl s)).map bv := by
  unfold Lib.strCells Nam.toN bl
  simp [bv]
theorem wpList_append_str {w : World} {ops : Array Oper} {rest : List Oper} {o : Oper} {a : Act} {Q : Exit → Act → World → Prop} (hgd : o.guard = none) (sl x : Operand)
    (ho : o.op = .call { callee := .builtin .append, args := #[sl, x], argTypes := #[24, 9] })
    (base : Nat) (v : Value) (l : List Nat) (hs : a.eval sl = v) (hown : Own w base v l) (s : ByteArray) (hx : a.eval x = .string s) (hbytes : l.length + s.size ≤ 140737488355328) (hbase : base ≤ w.heap.size)
    (h : ∀ v' w', Own w' base v' (l ++ Nam.toN (bl s)) → w.grownBy w' v.ownBlock → wpList Tryz.prog ops Q rest (a.put o.dst v') w') : wpList Tryz.prog ops Q (o :: rest) a w := by
  obtain ⟨i0, hi, hz0, hz1, hz2⟩ := info_parts info_u8
  refine Lib.wpList_append_own_string w hgd sl x 24 9 ho base 5 i0 Tryz.underlying24 Tryz.underlying9 hi hz0 hz1 hz2 v l.length (l.map bv) hs hown.2 s hx (by unfold maxLen; omega) hbytes hbase ?_
  intro v' w' h3 h4 _
  refine h v' w' ⟨hown.1.append (Nam.toN_all _), ?_⟩ h4
  rw [List.length_append, List.map_append, ← strCells_bl, Nam.toN_length, bl_length]
  exact h3
theorem part_take_len (ss : List ByteArray) (j : Nat) : (part (ss.take j)).flatten.length ≤ (part ss).flatten.length := by
  have e : part ss = part (ss.take j) ++ part (ss.drop j) := by unfold part; rw [← List.map_append, List.take_append_drop]
  rw [e, List.flatten_append, List.length_append]
  exact Nat.le_add_right _ _
theorem bytes_take (_r : ByteArray) (ss : List ByteArray) (j : Nat) (h : j < ss.length) : (part (ss.take (j + 1))).flatten = (part (ss.take j)).flatten ++ Nam.sized (bl (ss.getD j ByteArray.empty)) := by
  rw [take_snoc_ss ss j h]
  unfold part
  simp
theorem grown_own {w w2 w3 : World} {o : Option Nat} (h : w.grownBy w2 none) (k : w2.grownBy w3 o) (ho : ∀ g, o = some g → w.heap.size ≤ g) : w.grownBy w3 none :=
  ⟨k.os.trans h.os, k.tape.trans h.tape, k.output.trans h.output, Nat.le_trans h.size k.size, fun i hi _ => (k.block i (Nat.lt_of_lt_of_le hi h.size) (fun e => by have := ho i e.symm; omega)).trans (h.block i hi (by simp))⟩
set_option maxRecDepth 100000 in
set_option maxHeartbeats 4000000 in
theorem refbytes_any (r : ByteArray) (v : Value) (ss : List ByteArray) (w : World) (h : Ss w v ss) (hv : Nam.valid (nm r ss) = true) :
    Calls Tryz.prog 80 #[.agg #[.string r, v]] w (RetOwn (Nam.bytes (nm r ss)) w) := by
  obtain ⟨a, cap, rfl⟩ := h.form
  have H := Lib.hid h; clear h
  have hn := H.out.len
  obtain ⟨hw, h1s, h8, hall⟩ := valid_parts hv
  have HA := Lib.hid hall; clear hall
  have hrz := (Nam.word_len hw).2
  rw [bl_length] at hrz
  have HB := Lib.hid (show Nam.bytes (nm r ss) = Nam.sized (bl r) ++ ss.length :: (part ss).flatten by unfold Nam.bytes nm part; simp [List.map_map, Function.comp_def])
  have hlen := Nam.bytes_len hv
  generalize Nam.bytes (nm r ss) = BB at HB hlen ⊢
  have hb0 := Hb.new w #[.string r, .slice a ss.length cap] 29
  have z0 := hb0.cell (i := 0) rfl
  go_enter Tryz.func80, Tryz.ntmps80
  have O0 := own_built (w.alloc (.cells #[.string r, .slice a ss.length cap] 29)) (w.heap.size + 1) [r.size] (AllB.one (by omega)) (by simp) (by simp)
  have hb1 := hb0.alloc (.cells #[bv r.size] 5)
  simp only [World.size_alloc] at O0
  have hz2 : w.heap.size + 1 ≤ ((w.alloc (.cells #[.string r, .slice a ss.length cap] 29)).alloc (.cells #[bv r.size] 5)).heap.size := by simp
  have gA := only_alloc (only_alloc (only_refl w none) (.cells #[.string r, .slice a ss.length cap] 29)) (.cells #[bv r.size] 5)
  go_wp2_with (first
    | (at_builtin; refine wpList_append_str rfl _ _ rfl (w.heap.size + 1) (.slice (some ⟨w.heap.size + 1, 0, none⟩) 1 1) [r.size] rfl O0 r rfl (by simp; omega) hz2 ?_; intro v2 w2 o2 h2; have hb2 := hb1.keep h2 (O0.apart (Nat.lt_succ_self _)); have z2 := hb2.cell (i := 1) rfl; have hs2 := h2.size)
    | (at_builtin; go_must (refine wpList_append_bs rfl _ _ rfl (w.heap.size + 1) v2 _ rfl (o2.alloc _) _ [ss.length] rfl (own_built w2 0 [ss.length] (AllB.one (by omega)) (Nat.zero_le _) (by simp)).bs (by simp [Nam.toN_length]; omega) (Nat.le_trans hz2 (Nat.le_trans hs2 (by simp))) ?_; intro v3 w3 o3 h3; have hb3 := (hb2.alloc (.cells #[bv ss.length] 5)).keep h3 (o2.apart (Nat.lt_succ_self _)); have z3 := hb3.cell (i := 1) rfl; have hs3 := h3.size)))
  have g2 : w.grownBy w2 none := grown_own gA h2 (fun g hg => by have := (O0.lt g hg).1; omega)
  have g3 : w.grownBy w3 none := grown_own (only_alloc g2 (.cells #[bv ss.length] 5)) h3 (fun g hg => by have := (o2.lt g hg).1; omega)
  clear hb0 z0 hb1 O0 gA hb2 z2 z3 h2 h3 hs2 hs3
  go_loopw [3, 4] (fun x y wr => ∃ j : Nat, y = .int .i64 j ∧ j ≤ ss.length ∧ Own wr (w.heap.size + 1) x (Nam.sized (bl r) ++ ss.length :: (part (ss.take j)).flatten) ∧ Hb wr w.heap.size #[.string r, .slice a ss.length cap] 29 ∧ w.grownBy wr none) (fun _ y _ => ss.length - (intOf y).toNat)
  case atStart => exact ⟨0, rfl, Nat.zero_le _, by simpa [Nam.sized, bl_length, part] using o3, hb3, g3⟩
  case round =>
    obtain ⟨j, rfl, hj, own, hb, hg⟩ := hrel
    clear o2 o3 hb3 g3
    have c1 := hb.cell (i := 1) rfl
    obtain ⟨ya, yc, rfl⟩ := own.form
    have hpl : (Nam.sized (bl r) ++ ss.length :: (part (ss.take j)).flatten).length ≤ 910 := by
      have h1 := part_take_len ss j
      have h2 := hlen
      rw [HB.out] at h2
      simp only [List.length_append, List.length_cons] at h2 ⊢
      omega
    generalize hL : Nam.sized (bl r) ++ ss.length :: (part (ss.take j)).flatten = L at *
    have HL := Lib.hid hL; clear hL
    by_cases hjl : j < ss.length
    · obtain ⟨b, off, rfl, hc⟩ := (H.out.only hg).at hjl
      have HT := Lib.hid (bytes_take r ss j hjl)
      have hwj := part_word HA.out hjl
      generalize ss.getD j ByteArray.empty = s at hc hwj HT
      have hsz := (Nam.word_len hwj).2
      rw [bl_length] at hsz
      have hbg : b < w.heap.size := by
        obtain ⟨b', off', e', hc'⟩ := H.out.at hjl
        cases e'
        exact World.block_lt_of_cell? w _ hc'
      have hsw := hg.size
      have ownd : Own wr.drew (w.heap.size + 1) (.slice ya L.length yc) L := own
      have hbd : Hb wr.drew w.heap.size #[.string r, .slice (some ⟨b, off, none⟩) ss.length cap] 29 := hb
      have hgd : w.grownBy wr.drew none := ⟨hg.os, hg.tape, hg.output, hg.size, hg.block⟩
      have hcd : wr.drew.cell? ⟨b, off + j, none⟩ = some (.string s) := hc
      have c1d := hbd.cell (i := 1) rfl
      have hwrap : IntKind.u8.wrap (s.size : Int) = (s.size : Int) := by simp [IntKind.wrap, IntKind.bits, IntKind.signed]; omega
      have hlit : Bs (wr.drew.alloc (.cells #[.int .u8 (IntKind.u8.wrap (s.size : Int))] 5)) (.slice (some ⟨wr.drew.heap.size, 0, none⟩) 1 1) [s.size] := by rw [hwrap]; exact (own_built wr.drew 0 [s.size] (AllB.one (by omega)) (Nat.zero_le _) (by simp)).bs
      have HW := Lib.hid hwrap; clear hwrap
      have c1e : (wr.alloc (.cells #[.int .u8 (IntKind.u8.wrap (s.size : Int))] 5)).cell? ⟨w.heap.size, 1, none⟩ = some (.slice (some ⟨b, off, none⟩) ss.length cap) := (hb.alloc _).cell (i := 1) rfl
      have hce : (wr.alloc (.cells #[.int .u8 (IntKind.u8.wrap (s.size : Int))] 5)).cell? ⟨b, off + j, none⟩ = some (.string s) := by rw [World.cell?_alloc_lt _ _ _ (show b < wr.heap.size by omega), hc]
      have HWB := Lib.hid hb.lt
      go_wp2_with fail
      go_region_law (first
        | (refine law_if rfl ?_; refine wpList_append_bs rfl _ _ rfl (w.heap.size + 1) (.slice ya L.length yc) L rfl (ownd.alloc _) _ [s.size] rfl hlit (by simp; omega) (Nat.le_trans HWB.out (by simp)) ?_; intro v5 w5 o5 h5; have hb5 := (hbd.alloc (.cells #[.int .u8 (IntKind.u8.wrap (s.size : Int))] 5)).keep h5 (own.apart (Nat.lt_succ_self _)); have x5 := hb5.cell (i := 1) rfl; have g5 := grown_own (only_alloc hgd (.cells #[.int .u8 (IntKind.u8.wrap (s.size : Int))] 5)) h5 (fun g hg => by have := (own.lt g hg).1; omega); have hc5 : w5.cell? ⟨b, off + j, none⟩ = some (.string s) := ((below_of_only g5).cell (p := ⟨b, off + j, none⟩) hbg).trans (((below_of_only hg).cell (p := ⟨b, off + j, none⟩) hbg).symm.trans hc); have hs5 := h5.size; refine lawQ_done ?_)
        | (refine law_if rfl ?_; refine wpList_append_str rfl _ _ rfl (w.heap.size + 1) v5 _ rfl o5 s rfl (by simp; omega) (Nat.le_trans HWB.out (Nat.le_trans (by simp) h5.size)) ?_; intro v6 w6 o6 h6; have hb6 := hb5.keep h6 (o5.apart (Nat.lt_succ_self _)); have g6 := grown_own g5 h6 (fun g hg => by have := (o5.lt g hg).1; omega); refine lawQ_done ?_))
      all_goals (
        go_wp2_with fail
        go_roundw
        case rel =>
          refine ⟨j + 1, by go_num, hjl, ?_, hb6, g6⟩
          rw [HT.out, ← List.cons_append, ← List.append_assoc, HL.out]
          have e : L ++ Nam.sized (bl s) = L ++ [s.size] ++ Nam.toN (bl s) := by simp [Nam.sized]
          rw [e]; exact o6
        case measure => simp [intOf]; omega)
    · have hje : j = ss.length := by omega
      subst hje
      rw [List.take_length, ← HB.out] at HL
      have hLB := HL.out
      go_wp2_with fail
      go_ret
      exact ⟨_, rfl, by rw [hLB]; exact own.mono (Nat.le_succ _), below_of_only hg⟩
end Go.Proofs.YtnhchdkchohnbaaGreatDoor
/- Layer 11: Read of the reference. -/
namespace Go.Proofs.YtnhchdkchohnbaaGreatDoor
open Go.RowKit Go.Deep

theorem results_rows_tmp {P : Program} {fn : Func} {p q u : Tmp} {ty tz : TypeId} (h : fn.results = #[.cell p ty, .cell q tz, .tmp u]) (tmps : Array Value) (w : World) (g k : Nat) (t t' : TypeId) (cs ds : Array Value) (fr fs : Nat × Nat) (d d' : TypeDesc)
    (hp : tmps.getD p undef = .pointer (some ⟨g, 0, none⟩)) (hg : w.heap[g]? = some (.cells cs t fr))
    (hu : P.underlying ty = some d) (hd : (match d with | .struct _ | .array _ _ => true | _ => false) = true) (hi : (P.info? ty).map (·.size) = some cs.size)
    (hq : tmps.getD q undef = .pointer (some ⟨k, 0, none⟩)) (hk : w.heap[k]? = some (.cells ds t' fs))
    (hu' : P.underlying tz = some d') (hd' : (match d' with | .struct _ | .array _ _ => true | _ => false) = true) (hi' : (P.info? tz).map (·.size) = some ds.size) :
    (results fn tmps).run P w = .ok (.tuple #[.agg cs, .agg ds, tmps.getD u undef]) w := by
  have hp' : tmps[p]?.getD undef = .pointer (some ⟨g, 0, none⟩) := by simpa using hp
  have hq' : tmps[q]?.getD undef = .pointer (some ⟨k, 0, none⟩) := by simpa using hq
  simp [results, h, hp', hq', asAddr, run_loadVar_row w g t ty cs fr d hg hu hd hi, run_loadVar_row w k t' tz ds fs d' hk hu' hd' hi']
def RetRR (w0 : World) (x : Wir.R × Option Nam.N) (w : World) (e : Ending) (w' : World) : Prop :=
  w.grownBy w' none ∧ ∃ u v ss q, e = .returned (.tuple #[rdv u x.1.bad, .agg #[.string q, v], .bool x.2.isSome]) ∧ Rs w0 u x.1.l ∧ OwnS w' w.heap.size v ss ∧ q.size ≤ maxLen ∧ nm q ss = x.2.getD Nam.none0
theorem Hb.sets {w : World} {b : Nat} {x y : Value} {t : TypeId} (h : Hb w b #[x, y] t) (u v : Value) : Hb ((w.setCell ⟨b, 0, none⟩ u).setCell ⟨b, 1, none⟩ v) b #[u, v] t := (h.set 0 u).set 1 v
theorem loopR_len : ∀ (k : Nat) (r : Wir.R) (ps : List Nam.W), (Nam.loopR k r ps).1.l.length ≤ r.l.length
  | 0, _, _ => Nat.le_refl _
  | k + 1, _r, _ps => Nat.le_trans (loopR_len k _ _) string_le

theorem below_more {w0 w w' : World} (h : Below w0.heap.size w0 w) (k : w.grownBy w' none) : Below w0.heap.size w0 w' := h.trans ((below_of_only k).mono h.size)
def Rst (w W : World) (u : Value) (bad : Bool) : Prop := Hb W w.heap.size #[u, .bool bad] 87 ∧ Hb W (w.heap.size + 1) #[.slice none 0 0, .bool false] 87 ∧ Hb W (w.heap.size + 1 + 1) #[.string ⟨#[]⟩, .slice none 0 0] 29 ∧ w.grownBy W none
theorem Rst.grow {w W W' : World} {u : Value} {bad : Bool} {o : Option Nat} (h : Rst w W u bad) (k : W.grownBy W' o) (ho : ∀ g, o = some g → w.heap.size + 1 + 1 < g) : Rst w W' u bad :=
  ⟨h.1.keep k (fun e => by have := ho _ e.symm; omega), h.2.1.keep k (fun e => by have := ho _ e.symm; omega), h.2.2.1.keep k (fun e => by have := ho _ e.symm; omega), grown_own h.2.2.2 k (fun g hg => by have := ho _ hg; omega)⟩
theorem Rst.only {w W W' : World} {u : Value} {bad : Bool} (h : Rst w W u bad) (k : W.grownBy W' none) : Rst w W' u bad := h.grow k (fun _ e => by cases e)
theorem Rst.alloc {w W : World} {u : Value} {bad : Bool} (h : Rst w W u bad) (o : Obj) : Rst w (W.alloc o) u bad := h.only (only_alloc (only_refl W none) o)
theorem Rst.store {w W : World} {u : Value} {bad : Bool} (h : Rst w W u bad) (u' : Value) (bad' : Bool) : Rst w ((W.setCell ⟨w.heap.size, 0, none⟩ u').setCell ⟨w.heap.size, 1, none⟩ (.bool bad')) u' bad' :=
  ⟨h.1.sets _ _, (h.2.1.far (p := ⟨w.heap.size, 0, none⟩) (Nat.succ_ne_self _) _).far (p := ⟨w.heap.size, 1, none⟩) (Nat.succ_ne_self _) _, (h.2.2.1.far (p := ⟨w.heap.size, 0, none⟩) (by show w.heap.size + 1 + 1 ≠ w.heap.size; omega) _).far (p := ⟨w.heap.size, 1, none⟩) (by show w.heap.size + 1 + 1 ≠ w.heap.size; omega) _, fresh_set (fresh_set h.2.2.2 (Nat.le_refl _) _) (Nat.le_refl _) _⟩
theorem Rst.set {w W : World} {u : Value} {bad : Bool} (h : Rst w W u bad) {p : Addr} (hp : w.heap.size + 1 + 1 < p.block) (x : Value) : Rst w (W.setCell p x) u bad :=
  h.grow (grown_set x) (fun g e => by cases e; exact hp)

theorem Rst.fin {w W : World} {u : Value} {bad : Bool} (h : Rst w W u bad) (u' : Value) (b' : Value) (x y : Value) :
    (W.cell? ⟨w.heap.size + 1, 0, none⟩ = some (.slice none 0 0) ∧ W.cell? ⟨w.heap.size + 1, 1, none⟩ = some (.bool false) ∧ W.frozen? ⟨w.heap.size + 1, 0, none⟩ = false ∧ W.frozen? ⟨w.heap.size + 1, 1, none⟩ = false ∧ (W.setCell ⟨w.heap.size + 1, 0, none⟩ u').cell? ⟨w.heap.size + 1, 1, none⟩ = some (.bool false) ∧ (W.setCell ⟨w.heap.size + 1, 0, none⟩ u').frozen? ⟨w.heap.size + 1, 1, none⟩ = false) ∧
    (((W.setCell ⟨w.heap.size + 1, 0, none⟩ u').setCell ⟨w.heap.size + 1, 1, none⟩ b').cell? ⟨w.heap.size + 1 + 1, 0, none⟩ = some (.string ⟨#[]⟩) ∧ ((W.setCell ⟨w.heap.size + 1, 0, none⟩ u').setCell ⟨w.heap.size + 1, 1, none⟩ b').cell? ⟨w.heap.size + 1 + 1, 1, none⟩ = some (.slice none 0 0) ∧ ((W.setCell ⟨w.heap.size + 1, 0, none⟩ u').setCell ⟨w.heap.size + 1, 1, none⟩ b').frozen? ⟨w.heap.size + 1 + 1, 0, none⟩ = false ∧ ((W.setCell ⟨w.heap.size + 1, 0, none⟩ u').setCell ⟨w.heap.size + 1, 1, none⟩ b').frozen? ⟨w.heap.size + 1 + 1, 1, none⟩ = false ∧ (((W.setCell ⟨w.heap.size + 1, 0, none⟩ u').setCell ⟨w.heap.size + 1, 1, none⟩ b').setCell ⟨w.heap.size + 1 + 1, 0, none⟩ x).cell? ⟨w.heap.size + 1 + 1, 1, none⟩ = some (.slice none 0 0) ∧ (((W.setCell ⟨w.heap.size + 1, 0, none⟩ u').setCell ⟨w.heap.size + 1, 1, none⟩ b').setCell ⟨w.heap.size + 1 + 1, 0, none⟩ x).frozen? ⟨w.heap.size + 1 + 1, 1, none⟩ = false) ∧
    (Hb ((((W.setCell ⟨w.heap.size + 1, 0, none⟩ u').setCell ⟨w.heap.size + 1, 1, none⟩ b').setCell ⟨w.heap.size + 1 + 1, 0, none⟩ x).setCell ⟨w.heap.size + 1 + 1, 1, none⟩ y) (w.heap.size + 1) #[u', b'] 87 ∧
    Hb ((((W.setCell ⟨w.heap.size + 1, 0, none⟩ u').setCell ⟨w.heap.size + 1, 1, none⟩ b').setCell ⟨w.heap.size + 1 + 1, 0, none⟩ x).setCell ⟨w.heap.size + 1 + 1, 1, none⟩ y) (w.heap.size + 1 + 1) #[x, y] 29 ∧
    w.grownBy ((((W.setCell ⟨w.heap.size + 1, 0, none⟩ u').setCell ⟨w.heap.size + 1, 1, none⟩ b').setCell ⟨w.heap.size + 1 + 1, 0, none⟩ x).setCell ⟨w.heap.size + 1 + 1, 1, none⟩ y) none) := by
  have A3 := (h.2.2.1.far (p := ⟨w.heap.size + 1, 0, none⟩) (Nat.succ_ne_self _) u').far (p := ⟨w.heap.size + 1, 1, none⟩) (Nat.succ_ne_self _) b'
  refine ⟨h.2.1.two u', A3.two x, ?_, A3.sets x y, ?_⟩
  · exact ((h.2.1.sets u' b').far (p := ⟨w.heap.size + 1 + 1, 0, none⟩) (by show w.heap.size + 1 ≠ w.heap.size + 1 + 1; omega) x).far (p := ⟨w.heap.size + 1 + 1, 1, none⟩) (by show w.heap.size + 1 ≠ w.heap.size + 1 + 1; omega) y
  · exact fresh_set (fresh_set (fresh_set (fresh_set h.2.2.2 (Nat.le_succ _) _) (Nat.le_succ _) _) (by show w.heap.size ≤ w.heap.size + 1 + 1; omega) _) (by show w.heap.size ≤ w.heap.size + 1 + 1; omega) _
theorem Rst.drew {w W : World} {u : Value} {bad : Bool} (h : Rst w W u bad) : Rst w W.drew u bad := ⟨h.1, h.2.1, h.2.2.1, ⟨h.2.2.2.os, h.2.2.2.tape, h.2.2.2.output, h.2.2.2.size, h.2.2.2.block⟩⟩

set_option maxRecDepth 100000 in
set_option maxHeartbeats 4000000 in
theorem refread_any (w0 : World) (v : Value) (r : Wir.R) (w : World) (h : Rs w0 v r.l) (hbw : Below w0.heap.size w0 w) (hl : r.l.length ≤ 1000000) :
    Calls Tryz.prog 49 #[rdv v r.bad] w (RetRR w0 (Nam.refRead r) w) := by
  obtain ⟨a, cap, rfl⟩ := h.form
  have ST : ∀ (x : Value) (rr : Wir.R) (w1 : World), Rs w0 x rr.l → Below w0.heap.size w0 w1 → rr.l.length ≤ 1000000 → Calls Tryz.prog 83 #[rdv x rr.bad, .int .i64 1] w1 (RetT w0 (Wir.string rr 1) w1) := fun x rr w1 h1 h2 h3 => refstr_any w0 x rr 1 w1 h1 h2 (by omega)
  have H := Lib.hid h; clear h
  generalize hR : Nam.refRead r = R
  have HR := Lib.hid hR; clear hR
  have b0 := ((Hb.new w #[.slice a r.l.length cap, .bool r.bad] 87).alloc (.cells #[.slice none 0 0, .bool false] 87)).alloc (.cells #[.string ⟨#[]⟩, .slice none 0 0] 29)
  have b1 := (Hb.new (w.alloc (.cells #[.slice a r.l.length cap, .bool r.bad] 87)) #[.slice none 0 0, .bool false] 87).alloc (.cells #[.string ⟨#[]⟩, .slice none 0 0] 29)
  have b2 := Hb.new ((w.alloc (.cells #[.slice a r.l.length cap, .bool r.bad] 87)).alloc (.cells #[.slice none 0 0, .bool false] 87)) #[.string ⟨#[]⟩, .slice none 0 0] 29
  simp only [World.size_alloc] at b1 b2
  have R0 : Rst w _ (.slice a r.l.length cap) r.bad := ⟨b0, b1, b2, only_alloc (only_alloc (only_alloc (only_refl w none) _) _) _⟩
  have hs0 : w.heap.size + 1 + 1 < (((w.alloc (.cells #[.slice a r.l.length cap, .bool r.bad] 87)).alloc (.cells #[.slice none 0 0, .bool false] 87)).alloc (.cells #[.string ⟨#[]⟩, .slice none 0 0] 29)).heap.size := by simp
  clear b0 b1 b2
  go_enter Tryz.func49, Tryz.ntmps49
  go_wp2_with (go_at_call 83; refine (ST _ r _ H.out (below_more hbw R0.2.2.2) hl).mono ?_)
  rintro e w1 ⟨u1, y1, rfl, rs1, o1, h1⟩
  obtain ⟨a1, cp1, rfl⟩ := rs1.form
  have R1 := R0.only (only_of_below h1 none)
  have O1 := o1.mono hs0
  clear o1 hs0 R0 h1
  have hl1 : (Wir.string r 1).1.l.length ≤ r.l.length := string_le
  have HE1 := Lib.hid (show Nam.refRead r = ((Nam.loopR (min (Wir.num (Wir.string r 1).1 1).2 9) (Wir.num (Wir.string r 1).1 1).1 []).1,
    if (Nam.loopR (min (Wir.num (Wir.string r 1).1 1).2 9) (Wir.num (Wir.string r 1).1 1).1 []).1.bad = true ∨ Nam.valid ⟨Nam.fromN (Wir.string r 1).2, (Nam.loopR (min (Wir.num (Wir.string r 1).1 1).2 9) (Wir.num (Wir.string r 1).1 1).1 []).2⟩ = false then none
    else some ⟨Nam.fromN (Wir.string r 1).2, (Nam.loopR (min (Wir.num (Wir.string r 1).1 1).2 9) (Wir.num (Wir.string r 1).1 1).1 []).2⟩) from rfl)
  generalize Wir.string r 1 = p1 at *
  obtain ⟨c0, c1, f0, f1, d1, e1⟩ := R1.1.two (.slice a1 p1.1.l.length cp1)
  have R1s := R1.store (.slice a1 p1.1.l.length cp1) p1.1.bad
  have m0 := R1s.1.cell (i := 0) rfl
  have m1 := R1s.1.cell (i := 1) rfl
  have O1s := (O1.setCell (p := ⟨w.heap.size, 0, none⟩) (show w.heap.size < w.heap.size + 1 + 1 + 1 by omega) (.slice a1 p1.1.l.length cp1)).setCell (p := ⟨w.heap.size, 1, none⟩) (show w.heap.size < w.heap.size + 1 + 1 + 1 by omega) (.bool p1.1.bad)
  go_wp2_with (go_at_call 50; refine (refnum_any w0 (.slice a1 p1.1.l.length cp1) p1.1 1 _ rs1 (below_more hbw R1s.2.2.2) (by omega)).mono ?_)
  rintro e w2 ⟨u2, rfl, rs2, h2⟩
  obtain ⟨a2, cp2, rfl⟩ := rs2.form
  have R2 := R1s.only (only_of_below h2 none)
  have O2 := O1s.below h2
  clear c0 c1 f0 f1 d1 e1 m0 m1 R1 R1s O1 O1s h2
  have hl2 : (Wir.num p1.1 1).1.l.length ≤ p1.1.l.length := num_len _ _
  generalize Wir.num p1.1 1 = p2 at *
  obtain ⟨c0, c1, f0, f1, d1, e1⟩ := R2.1.two (.slice a2 p2.1.l.length cp2)
  have R2s := R2.store (.slice a2 p2.1.l.length cp2) p2.1.bad
  have O2s := (O2.setCell (p := ⟨w.heap.size, 0, none⟩) (show w.heap.size < w.heap.size + 1 + 1 + 1 by omega) (.slice a2 p2.1.l.length cp2)).setCell (p := ⟨w.heap.size, 1, none⟩) (show w.heap.size < w.heap.size + 1 + 1 + 1 by omega) (.bool p2.1.bad)
  have hcv := str_run O2s.bs
  have hqz : (⟨(Nam.fromN p1.2).toArray⟩ : ByteArray).size ≤ maxLen := by
    have := O2s.bs.len
    show (Nam.fromN p1.2).toArray.size ≤ _
    unfold maxLen; simp [Nam.fromN_length]; omega
  have hqb : bl ⟨(Nam.fromN p1.2).toArray⟩ = Nam.fromN p1.2 := rfl
  rw [← hqb] at HE1
  generalize (⟨(Nam.fromN p1.2).toArray⟩ : ByteArray) = q at *
  have n0 := Hb.new ((w2.setCell ⟨w.heap.size, 0, none⟩ (.slice a2 p2.1.l.length cp2)).setCell ⟨w.heap.size, 1, none⟩ (.bool p2.1.bad)) #[.string ⟨#[]⟩, .slice none 0 0] 29
  have n1 := Hb.new ((w2.setCell ⟨w.heap.size, 0, none⟩ (.slice a2 p2.1.l.length cp2)).setCell ⟨w.heap.size, 1, none⟩ (.bool p2.1.bad)) #[.string q, .slice none 0 0] 29
  have R3 := R2s.alloc (.cells #[.string q, .slice none 0 0] 29)
  have hbn := R2.2.2.1.lt
  have hsz : w2.heap.size + 1 ≤ (((w2.setCell ⟨w.heap.size, 0, none⟩ (.slice a2 p2.1.l.length cp2)).setCell ⟨w.heap.size, 1, none⟩ (.bool p2.1.bad)).alloc (.cells #[.string q, .slice none 0 0] 29)).heap.size := by simp
  simp only [World.size_setCell] at n0 n1
  obtain ⟨x0, x1, y0, y1', z0, z1⟩ := n0.two (.string q)
  go_wp2_with fail
  clear c0 c1 f0 f1 d1 e1 x0 x1 y0 y1' z0 z1 n0 hcv O2 O2s R2 R2s
  generalize hbe : w2.heap.size = bn at *
  clear hbe
  have H1 := Lib.hid hqb; clear hqb
  have N1 := Lib.hid n1; clear n1
  have R3' := Lib.hid R3; clear R3
  have HZ := Lib.hid hsz; clear hsz
  have RS2 := Lib.hid rs2; clear rs2 rs1
  go_loopw [8] (fun x wr => ∃ (j : Nat) (ua : Option Addr) (uc : Nat) (v : Value) (ss : List ByteArray), x = .int .u64 j ∧ (j ≤ p2.2 ∧ j ≤ 9) ∧ ss.length = j ∧ Rst w wr (.slice ua (Nam.loopR j p2.1 []).1.l.length uc) (Nam.loopR j p2.1 []).1.bad ∧ Rs w0 (.slice ua (Nam.loopR j p2.1 []).1.l.length uc) (Nam.loopR j p2.1 []).1.l ∧ Hb wr bn #[.string q, v] 29 ∧ OwnS wr (bn + 1) v ss ∧ bn + 1 ≤ wr.heap.size ∧ ss.map bl = (Nam.loopR j p2.1 []).2) (fun x _ => 9 - (intOf x).toNat)
  case atStart => exact ⟨0, _, _, _, [], rfl, ⟨Nat.zero_le _, Nat.zero_le _⟩, rfl, R3'.out, RS2.out, N1.out, OwnS.nil _ _, HZ.out, rfl⟩
  case round =>
    obtain ⟨j, ua, uc, v, ss, rfl, hj, hss, rst, rsu, hn, os, hsz, hm⟩ := hrel
    subst hss
    obtain ⟨va, vc, rfl⟩ := os.ss.form
    clear N1 R3' HZ RS2
    have hLl := loopR_len ss.length p2.1 []
    have m0 := rst.1.cell (i := 0) rfl
    have m1 := rst.1.cell (i := 1) rfl
    by_cases hjc : ss.length < p2.2 ∧ ss.length < 9
    · obtain ⟨hj1, hj2⟩ := hjc
      have HSN := Lib.hid (Nam.loopR_snoc ss.length p2.1 [])
      have HM := Lib.hid hm; clear hm
      generalize hL : Nam.loopR ss.length p2.1 [] = L at *
      clear hL
      go_wp2_with (go_at_call 83; refine (ST _ L.1 _ rsu (below_more hbw rst.2.2.2) (by omega)).mono ?_)
      all_goals first | omega | skip
      rintro e w4 ⟨u4, y4, rfl, rs4, o4, h4⟩
      obtain ⟨a4, cp4, rfl⟩ := rs4.form
      have R4 := rst.only (only_of_below h4 none)
      have n4 := hn.only (only_of_below h4 none)
      have os4 := os.below h4
      have hs4 := h4.size
      have hsl : (Wir.string L.1 1).1.l.length ≤ L.1.l.length := string_le
      generalize Wir.string L.1 1 = p4 at *
      clear m0 m1 rst rsu hn os h4
      have k0 := Hb.new w4 #[.slice none 0 0, .bool false] 87
      obtain ⟨x0, x1, y0, y1', z0, z1⟩ := k0.two (.slice a4 p4.1.l.length cp4)
      have k1 := Hb.new w4 #[.slice a4 p4.1.l.length cp4, .bool p4.1.bad] 87
      have R5 := R4.alloc (.cells #[.slice a4 p4.1.l.length cp4, .bool p4.1.bad] 87)
      have n5 := n4.alloc (.cells #[.slice a4 p4.1.l.length cp4, .bool p4.1.bad] 87)
      have os5 := os4.alloc (.cells #[.slice a4 p4.1.l.length cp4, .bool p4.1.bad] 87)
      have hcv := str_run (o4.alloc (.cells #[.slice a4 p4.1.l.length cp4, .bool p4.1.bad] 87)).bs
      have htz : (⟨(Nam.fromN p4.2).toArray⟩ : ByteArray).size ≤ maxLen := by
        have := o4.bs.len
        show (Nam.fromN p4.2).toArray.size ≤ _
        unfold maxLen; simp [Nam.fromN_length]; omega
      have HTB := Lib.hid (show bl ⟨(Nam.fromN p4.2).toArray⟩ = Nam.fromN p4.2 from rfl)
      generalize (⟨(Nam.fromN p4.2).toArray⟩ : ByteArray) = t at *
      have u1 := n5.cell (i := 1) rfl
      have hBB : bn + 1 ≤ w4.heap.size := by omega
      go_wp2_with (at_builtin; go_must (refine wpList_append_one rfl _ _ rfl (bn + 1) (.slice va ss.length vc) ss rfl (os5.alloc _) (w4.heap.size + 1) t htz rfl (by have := cell_new (w4.alloc (.cells #[.slice a4 p4.1.l.length cp4, .bool p4.1.bad] 87)) #[.string t] 9 0 _ rfl; rwa [World.size_alloc] at this) (by omega) (Nat.le_trans hBB (by simp; omega)) ?_; intro a6 c6 w6 hown6 hgr6; have q1 := (n5.alloc (.cells #[.string t] 9)).keep hgr6 (os5.apart (Nat.lt_succ_self _)); have R6 := (R5.alloc (.cells #[.string t] 9)).grow hgr6 (fun g hg => by have := (os5.lt g hg).1; omega); have k6 := (k1.alloc (.cells #[.string t] 9)).keep hgr6 (fun e => by have := (os4.lt _ e.symm).2; omega); have x6 := q1.cell (i := 1) rfl; have y6 := q1.frozen 1; have k7 := k6.far (p := ⟨bn, 1, none⟩) (show w4.heap.size ≠ bn by omega) (.slice a6 (ss.length + 1) c6); have t0 := k7.cell (i := 0) rfl; have t1 := k7.cell (i := 1) rfl; have R7 := R6.set (p := ⟨bn, 1, none⟩) hbn (.slice a6 (ss.length + 1) c6); have TW := R7.1.two (.slice a4 p4.1.l.length cp4); have TW0 := TW.1; have TW1 := TW.2.1; have TW2 := TW.2.2.1; have TW3 := TW.2.2.2.1; have TW4 := TW.2.2.2.2.1; have TW5 := TW.2.2.2.2.2; clear TW; have hs6 := hgr6.size))
      all_goals first | omega | skip
      have R8 := R7.store (.slice a4 p4.1.l.length cp4) p4.1.bad
      go_roundw
      case rel =>
        have e1 : Nam.loopR (ss.length + 1) p2.1 [] = (p4.1, L.2 ++ [Nam.fromN p4.2]) := HSN.out
        refine ⟨ss.length + 1, a4, cp4, .slice a6 (ss.length + 1) c6, ss ++ [t], by go_num, by omega, by simp, ?_, ?_, ?_, ?_, ?_, ?_⟩
        · rw [e1]; exact R8
        · rw [e1]; exact rs4
        · exact ((q1.set 1 _).far (p := ⟨w.heap.size, 0, none⟩) (show bn ≠ w.heap.size by omega) _).far (p := ⟨w.heap.size, 1, none⟩) (show bn ≠ w.heap.size by omega) _
        · exact ((hown6.setCell (p := ⟨bn, 1, none⟩) (Nat.lt_succ_self _) _).setCell (p := ⟨w.heap.size, 0, none⟩) (show w.heap.size < bn + 1 by omega) _).setCell (p := ⟨w.heap.size, 1, none⟩) (show w.heap.size < bn + 1 by omega) _
        · simp only [World.size_setCell]
          exact Nat.le_trans (Nat.le_trans hBB (by simp; omega)) hs6
        · rw [e1, List.map_append, HM.out, ← HTB.out]; rfl
      case measure => simp [intOf]; omega
    · have hj0 : ss.length = min p2.2 9 := by omega
      have HEQ := Lib.hid (show R = ((Nam.loopR ss.length p2.1 []).1, if (Nam.loopR ss.length p2.1 []).1.bad = true ∨ Nam.valid (nm q ss) = false then none else some (nm q ss)) by
        rw [← HR.out, HE1.out, ← hj0]
        unfold nm
        rw [hm])
      clear HE1 HR hm hj0
      generalize hL : Nam.loopR ss.length p2.1 [] = L at *
      clear hL
      have hcase : p2.2 ≤ ss.length ∨ (ss.length < p2.2 ∧ 9 ≤ ss.length) := by omega
      clear hjc
      obtain ⟨⟨Ll, Lb⟩, Lp⟩ := L
      dsimp only at rst rsu hLl m0 m1 HEQ
      have n0 := hn.cell (i := 0) rfl
      have n1 := hn.cell (i := 1) rfl
      cases Lb
      · rcases hcase with hc | hc
        all_goals (
          go_wp2_with (go_at_call 44; refine (refvalid_any q hqz _ ss _ os.ss).mono ?_)
          all_goals first | omega | skip
          rintro e w4 ⟨rfl, h4⟩
          have R4 := rst.only h4
          have n4 := hn.only h4
          have os4 := os.below (below_of_only h4)
          clear m0 m1 n0 n1 rst hn os h4
          cases hv : Nam.valid (nm q ss)
          · have HF := Lib.hid (show R = (⟨Ll, false⟩, none) by rw [HEQ.out, if_pos (.inr hv)])
            clear hv HEQ
            obtain ⟨⟨c0, c1, f0, f1, d1, e1⟩, ⟨c0', c1', f0', f1', d1', e1'⟩, F⟩ := R4.fin (.slice ua Ll.length uc) (.bool false) (.string ⟨#[]⟩) (.slice none 0 0)
            have F := Lib.hid F
            have m0 := R4.1.cell (i := 0) rfl
            have m1 := R4.1.cell (i := 1) rfl
            go_wp2_with fail
            try simp only [Exit.inBlock, Exit.then, Exit.noGoto_ret]
            refine bodyPost_ret (results_rows_tmp rfl _ _ (w.heap.size + 1) (w.heap.size + 1 + 1) _ _ _ _ (0, 0) (0, 0) _ _ rfl F.out.1 rfl rfl infoRd rfl F.out.2.1 rfl rfl info_name) rfl ?_
            rw [HF.out]
            exact ⟨F.out.2.2, _, _, [], ⟨#[]⟩, rfl, rsu, OwnS.nil _ _, Nat.zero_le _, rfl⟩
          · have HF := Lib.hid (show R = (⟨Ll, false⟩, some (nm q ss)) by rw [HEQ.out, if_neg (by rw [hv]; simp)])
            clear hv HEQ
            obtain ⟨⟨c0, c1, f0, f1, d1, e1⟩, ⟨c0', c1', f0', f1', d1', e1'⟩, _⟩ := R4.fin (.slice ua Ll.length uc) (.bool false) (.string q) (.slice va ss.length vc)
            have F := Lib.hid (R4.drew.fin (.slice ua Ll.length uc) (.bool false) (.string q) (.slice va ss.length vc)).2.2
            have n4d := n4
            have m0 := R4.1.cell (i := 0) rfl
            have m1 := R4.1.cell (i := 1) rfl
            have n0 := n4d.cell (i := 0) rfl
            have n1 := n4d.cell (i := 1) rfl
            have n5 := (n4d.far (p := ⟨w.heap.size + 1, 0, none⟩) (show bn ≠ w.heap.size + 1 by omega) (.slice ua Ll.length uc)).far (p := ⟨w.heap.size + 1, 1, none⟩) (show bn ≠ w.heap.size + 1 by omega) (.bool false)
            have n0' := n5.cell (i := 0) rfl
            have n1' := n5.cell (i := 1) rfl
            have hos : OwnS ((((w4.drew.setCell ⟨w.heap.size + 1, 0, none⟩ (.slice ua Ll.length uc)).setCell ⟨w.heap.size + 1, 1, none⟩ (.bool false)).setCell ⟨w.heap.size + 1 + 1, 0, none⟩ (.string q)).setCell ⟨w.heap.size + 1 + 1, 1, none⟩ (.slice va ss.length vc)) (bn + 1) (.slice va ss.length vc) ss := (((OwnS.setCell (w := w4.drew) os4 (p := ⟨w.heap.size + 1, 0, none⟩) (show w.heap.size + 1 < bn + 1 by omega) _).setCell (p := ⟨w.heap.size + 1, 1, none⟩) (show w.heap.size + 1 < bn + 1 by omega) _).setCell (p := ⟨w.heap.size + 1 + 1, 0, none⟩) (show w.heap.size + 1 + 1 < bn + 1 by omega) _).setCell (p := ⟨w.heap.size + 1 + 1, 1, none⟩) (show w.heap.size + 1 + 1 < bn + 1 by omega) _
            have HO := Lib.hid (hos.mono (base' := w.heap.size) (by omega))
            clear hos n5
            go_wp2_with fail
            go_region
            all_goals (
              go_wp2_with fail
              try simp only [Exit.inBlock, Exit.then, Exit.noGoto_ret]
              refine bodyPost_ret (results_rows_tmp rfl _ _ (w.heap.size + 1) (w.heap.size + 1 + 1) _ _ _ _ (0, 0) (0, 0) _ _ rfl F.out.1 rfl rfl infoRd rfl F.out.2.1 rfl rfl info_name) rfl ?_
              rw [HF.out]
              exact ⟨F.out.2.2, _, _, ss, q, rfl, rsu, HO.out, hqz, rfl⟩))
      · have HF := Lib.hid (show R = (⟨Ll, true⟩, none) by rw [HEQ.out, if_pos (.inl rfl)])
        clear HEQ
        obtain ⟨⟨c0, c1, f0, f1, d1, e1⟩, ⟨c0', c1', f0', f1', d1', e1'⟩, F⟩ := rst.fin (.slice ua Ll.length uc) (.bool true) (.string ⟨#[]⟩) (.slice none 0 0)
        have F := Lib.hid F
        rcases hcase with hc | hc
        all_goals (
          go_wp2_with fail
          all_goals first | omega | skip
          try simp only [Exit.inBlock, Exit.then, Exit.noGoto_ret]
          refine bodyPost_ret (results_rows_tmp rfl _ _ (w.heap.size + 1) (w.heap.size + 1 + 1) _ _ _ _ (0, 0) (0, 0) _ _ rfl F.out.1 rfl rfl infoRd rfl F.out.2.1 rfl rfl info_name) rfl ?_
          rw [HF.out]
          exact ⟨F.out.2.2, _, _, [], ⟨#[]⟩, rfl, rsu, OwnS.nil _ _, Nat.zero_le _, rfl⟩)
end Go.Proofs.YtnhchdkchohnbaaGreatDoor
/- Layer 11: names in memory; what the laws' awake answers. -/
namespace Go.Proofs.YtnhchdkchohnbaaGreatDoor
open Go.RowKit Go.Deep

theorem map_bl_inj : ∀ {ss tt : List ByteArray}, ss.map bl = tt.map bl → ss = tt
  | [], [], _ => rfl
  | [], _ :: _, h => by simp at h
  | _ :: _, [], h => by simp at h
  | a :: ss, b :: tt, h => by
    simp only [List.map_cons, List.cons.injEq] at h
    rw [bl_inj h.1, map_bl_inj h.2]
theorem nm_inj {r q : ByteArray} {ss tt : List ByteArray} : nm r ss = nm q tt ↔ r = q ∧ ss = tt := by
  unfold nm
  constructor
  · intro h
    injection h with h1 h2
    exact ⟨bl_inj h1, map_bl_inj h2⟩
  · rintro ⟨rfl, rfl⟩; rfl
def Nb (W : World) (b : Nat) (r : ByteArray) (v : Value) (ss : List ByteArray) : Prop := Hb W b #[.string r, v] 29 ∧ Ss W v ss ∧ r.size ≤ maxLen
theorem Nb.below {W W' : World} {b : Nat} {r : ByteArray} {v : Value} {ss : List ByteArray} (h : Nb W b r v ss) (k : Below W.heap.size W W') : Nb W' b r v ss := ⟨h.1.below k h.1.lt, h.2.1.below k, h.2.2⟩
theorem Nb.only {W W' : World} {b : Nat} {r : ByteArray} {v : Value} {ss : List ByteArray} (h : Nb W b r v ss) (k : W.grownBy W' none) : Nb W' b r v ss := h.below (below_of_only k)
theorem Nb.alloc {W : World} {b : Nat} {r : ByteArray} {v : Value} {ss : List ByteArray} (h : Nb W b r v ss) (o : Obj) : Nb (W.alloc o) b r v ss := h.only (only_alloc (only_refl W none) o)
theorem Nb.c0 {W : World} {b : Nat} {r : ByteArray} {v : Value} {ss : List ByteArray} (h : Nb W b r v ss) : W.cell? ⟨b, 0, none⟩ = some (.string r) := h.1.cell (i := 0) rfl
theorem Nb.c1 {W : World} {b : Nat} {r : ByteArray} {v : Value} {ss : List ByteArray} (h : Nb W b r v ss) : W.cell? ⟨b, 1, none⟩ = some v := h.1.cell (i := 1) rfl
def hostS : ByteArray := ⟨#[104, 111, 115, 116]⟩
end Go.Proofs.YtnhchdkchohnbaaGreatDoor
