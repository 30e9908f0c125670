/- Layer 11: Bytes of the reference, of a name. -/
import Derived.Test.YthfbcpbjnfdnkaaNameM
import Derived.Lib.AppendStr
namespace Go.Proofs.Ythfbcpbjnfdnkaa
open Go.RowKit Go.Deep

theorem strCells_bl (s : ByteArray) : Lib.strCells s = (Nam.toN (bl s)).map bv := by
  unfold Lib.strCells Nam.toN bl
  simp [bv]
theorem wpList_append_str {w : World} {ops : Array Oper} {rest : List Oper} {o : Oper} {a : Act} {Q : Exit → Act → World → Prop} (hgd : o.guard = none) (sl x : Operand)
    (ho : o.op = .call { callee := .builtin .append, args := #[sl, x], argTypes := #[23, 9] })
    (base : Nat) (v : Value) (l : List Nat) (hs : a.eval sl = v) (hown : Own w base v l) (s : ByteArray) (hx : a.eval x = .string s) (hbytes : l.length + s.size ≤ 140737488355328) (hbase : base ≤ w.heap.size)
    (h : ∀ v' w', Own w' base v' (l ++ Nam.toN (bl s)) → w.grownBy w' v.ownBlock → wpList Try.prog ops Q rest (a.put o.dst v') w') : wpList Try.prog ops Q (o :: rest) a w := by
  obtain ⟨i0, hi, hz0, hz1, hz2⟩ := info_parts info_u8
  refine Lib.wpList_append_own_string w hgd sl x 23 9 ho base 5 i0 Try.underlying23 Try.underlying9 hi hz0 hz1 hz2 v l.length (l.map bv) hs hown.2 s hx (by unfold maxLen; omega) hbytes hbase ?_
  intro v' w' h3 h4 _
  refine h v' w' ⟨hown.1.append (Nam.toN_all _), ?_⟩ h4
  rw [List.length_append, List.map_append, ← strCells_bl, Nam.toN_length, bl_length]
  exact h3
theorem part_take_len (ss : List ByteArray) (j : Nat) : (part (ss.take j)).flatten.length ≤ (part ss).flatten.length := by
  have e : part ss = part (ss.take j) ++ part (ss.drop j) := by unfold part; rw [← List.map_append, List.take_append_drop]
  rw [e, List.flatten_append, List.length_append]
  exact Nat.le_add_right _ _
theorem bytes_take (r : ByteArray) (ss : List ByteArray) (j : Nat) (h : j < ss.length) : (part (ss.take (j + 1))).flatten = (part (ss.take j)).flatten ++ Nam.sized (bl (ss.getD j ByteArray.empty)) := by
  rw [take_snoc_ss ss j h]
  unfold part
  simp
theorem grown_own {w w2 w3 : World} {o : Option Nat} (h : w.grownBy w2 none) (k : w2.grownBy w3 o) (ho : ∀ g, o = some g → w.heap.size ≤ g) : w.grownBy w3 none :=
  ⟨k.os.trans h.os, k.tape.trans h.tape, k.output.trans h.output, Nat.le_trans h.size k.size, fun i hi _ => (k.block i (Nat.lt_of_lt_of_le hi h.size) (fun e => by have := ho i e.symm; omega)).trans (h.block i hi (by simp))⟩
set_option maxRecDepth 100000 in
set_option maxHeartbeats 4000000 in
theorem refbytes_any (r : ByteArray) (v : Value) (ss : List ByteArray) (w : World) (h : Ss w v ss) (hv : Nam.valid (nm r ss) = true) :
    Calls Try.prog 41 #[.agg #[.string r, v]] w (RetOwn (Nam.bytes (nm r ss)) w) := by
  obtain ⟨a, cap, rfl⟩ := h.form
  have H := Lib.hid h; clear h
  have hn := H.out.len
  obtain ⟨hw, h1s, h8, hall⟩ := valid_parts hv
  have HA := Lib.hid hall; clear hall
  have hrz := (Nam.word_len hw).2
  rw [bl_length] at hrz
  have HB := Lib.hid (show Nam.bytes (nm r ss) = Nam.sized (bl r) ++ ss.length :: (part ss).flatten by unfold Nam.bytes nm part; simp [List.map_map, Function.comp_def])
  have hlen := Nam.bytes_len hv
  generalize Nam.bytes (nm r ss) = BB at HB hlen ⊢
  have hb0 := Hb.new w #[.string r, .slice a ss.length cap] 53
  have z0 := hb0.cell (i := 0) rfl
  go_enter Try.func41, Try.ntmps41
  have O0 := own_built (w.alloc (.cells #[.string r, .slice a ss.length cap] 53)) (w.heap.size + 1) [r.size] (AllB.one (by omega)) (by simp) (by simp)
  have hb1 := hb0.alloc (.cells #[bv r.size] 5)
  simp only [World.size_alloc] at O0
  have hz2 : w.heap.size + 1 ≤ ((w.alloc (.cells #[.string r, .slice a ss.length cap] 53)).alloc (.cells #[bv r.size] 5)).heap.size := by simp
  have gA := only_alloc (only_alloc (only_refl w none) (.cells #[.string r, .slice a ss.length cap] 53)) (.cells #[bv r.size] 5)
  go_wp2_with (first
    | (at_builtin; refine wpList_append_str rfl _ _ rfl (w.heap.size + 1) (.slice (some ⟨w.heap.size + 1, 0, none⟩) 1 1) [r.size] rfl O0 r rfl (by simp; omega) hz2 ?_; intro v2 w2 o2 h2; have hb2 := hb1.keep h2 (O0.apart (Nat.lt_succ_self _)); have z2 := hb2.cell (i := 1) rfl; have hs2 := h2.size)
    | (at_builtin; go_must (refine wpList_append_bs rfl _ _ rfl (w.heap.size + 1) v2 _ rfl (o2.alloc _) _ [ss.length] rfl (own_built w2 0 [ss.length] (AllB.one (by omega)) (Nat.zero_le _) (by simp)).bs (by simp [bl_length, Nam.toN_length]; omega) (Nat.le_trans hz2 (Nat.le_trans hs2 (by simp))) ?_; intro v3 w3 o3 h3; have hb3 := (hb2.alloc (.cells #[bv ss.length] 5)).keep h3 (o2.apart (Nat.lt_succ_self _)); have z3 := hb3.cell (i := 1) rfl; have hs3 := h3.size)))
  have g2 : w.grownBy w2 none := grown_own gA h2 (fun g hg => by have := (O0.lt g hg).1; omega)
  have g3 : w.grownBy w3 none := grown_own (only_alloc g2 (.cells #[bv ss.length] 5)) h3 (fun g hg => by have := (o2.lt g hg).1; omega)
  clear hb0 z0 hb1 O0 gA hb2 z2 z3 h2 h3 hs2 hs3
  go_loopw [3, 4] (fun x y wr => ∃ j : Nat, y = .int .i64 j ∧ j ≤ ss.length ∧ Own wr (w.heap.size + 1) x (Nam.sized (bl r) ++ ss.length :: (part (ss.take j)).flatten) ∧ Hb wr w.heap.size #[.string r, .slice a ss.length cap] 53 ∧ w.grownBy wr none) (fun _ y _ => ss.length - (intOf y).toNat)
  case atStart => exact ⟨0, rfl, Nat.zero_le _, by simpa [Nam.sized, bl_length, part] using o3, hb3, g3⟩
  case round =>
    obtain ⟨j, rfl, hj, own, hb, hg⟩ := hrel
    clear o2 o3 hb3 g3
    have c1 := hb.cell (i := 1) rfl
    obtain ⟨ya, yc, rfl⟩ := own.form
    have hpl : (Nam.sized (bl r) ++ ss.length :: (part (ss.take j)).flatten).length ≤ 910 := by
      have h1 := part_take_len ss j
      have h2 := hlen
      rw [HB.out] at h2
      simp only [List.length_append, List.length_cons] at h2 ⊢
      omega
    generalize hL : Nam.sized (bl r) ++ ss.length :: (part (ss.take j)).flatten = L at *
    have HL := Lib.hid hL; clear hL
    by_cases hjl : j < ss.length
    · obtain ⟨b, off, rfl, hc⟩ := (H.out.only hg).at hjl
      have HT := Lib.hid (bytes_take r ss j hjl)
      have hwj := part_word HA.out hjl
      generalize ss.getD j ByteArray.empty = s at hc hwj HT
      have hsz := (Nam.word_len hwj).2
      rw [bl_length] at hsz
      have hbg : b < w.heap.size := by
        obtain ⟨b', off', e', hc'⟩ := H.out.at hjl
        cases e'
        exact World.block_lt_of_cell? w _ hc'
      have hsw := hg.size
      have ownd : Own wr.drew (w.heap.size + 1) (.slice ya L.length yc) L := own
      have hbd : Hb wr.drew w.heap.size #[.string r, .slice (some ⟨b, off, none⟩) ss.length cap] 53 := hb
      have hgd : w.grownBy wr.drew none := ⟨hg.os, hg.tape, hg.output, hg.size, hg.block⟩
      have hcd : wr.drew.cell? ⟨b, off + j, none⟩ = some (.string s) := hc
      have c1d := hbd.cell (i := 1) rfl
      have hwrap : IntKind.u8.wrap (s.size : Int) = (s.size : Int) := by simp [IntKind.wrap, IntKind.bits, IntKind.signed]; omega
      have hlit : Bs (wr.drew.alloc (.cells #[.int .u8 (IntKind.u8.wrap (s.size : Int))] 5)) (.slice (some ⟨wr.drew.heap.size, 0, none⟩) 1 1) [s.size] := by rw [hwrap]; exact (own_built wr.drew 0 [s.size] (AllB.one (by omega)) (Nat.zero_le _) (by simp)).bs
      have HW := Lib.hid hwrap; clear hwrap
      have c1e : (wr.alloc (.cells #[.int .u8 (IntKind.u8.wrap (s.size : Int))] 5)).cell? ⟨w.heap.size, 1, none⟩ = some (.slice (some ⟨b, off, none⟩) ss.length cap) := (hb.alloc _).cell (i := 1) rfl
      have hce : (wr.alloc (.cells #[.int .u8 (IntKind.u8.wrap (s.size : Int))] 5)).cell? ⟨b, off + j, none⟩ = some (.string s) := by rw [World.cell?_alloc_lt _ _ _ (show b < wr.heap.size by omega), hc]
      have HWB := Lib.hid hb.lt
      go_wp2_with fail
      go_region_law (first
        | (refine law_if rfl ?_; refine wpList_append_bs rfl _ _ rfl (w.heap.size + 1) (.slice ya L.length yc) L rfl (ownd.alloc _) _ [s.size] rfl hlit (by simp; omega) (Nat.le_trans HWB.out (by simp)) ?_; intro v5 w5 o5 h5; have hb5 := (hbd.alloc (.cells #[.int .u8 (IntKind.u8.wrap (s.size : Int))] 5)).keep h5 (own.apart (Nat.lt_succ_self _)); have x5 := hb5.cell (i := 1) rfl; have g5 := grown_own (only_alloc hgd (.cells #[.int .u8 (IntKind.u8.wrap (s.size : Int))] 5)) h5 (fun g hg => by have := (own.lt g hg).1; omega); have hc5 : w5.cell? ⟨b, off + j, none⟩ = some (.string s) := ((below_of_only g5).cell (p := ⟨b, off + j, none⟩) hbg).trans (((below_of_only hg).cell (p := ⟨b, off + j, none⟩) hbg).symm.trans hc); have hs5 := h5.size; refine lawQ_done ?_)
        | (refine law_if rfl ?_; refine wpList_append_str rfl _ _ rfl (w.heap.size + 1) v5 _ rfl o5 s rfl (by simp; omega) (Nat.le_trans HWB.out (Nat.le_trans (by simp) h5.size)) ?_; intro v6 w6 o6 h6; have hb6 := hb5.keep h6 (o5.apart (Nat.lt_succ_self _)); have g6 := grown_own g5 h6 (fun g hg => by have := (o5.lt g hg).1; omega); refine lawQ_done ?_))
      all_goals (
        go_wp2_with fail
        go_roundw
        case rel =>
          refine ⟨j + 1, by go_num, hjl, ?_, hb6, g6⟩
          rw [HT.out, ← List.cons_append, ← List.append_assoc, HL.out]
          have e : L ++ Nam.sized (bl s) = L ++ [s.size] ++ Nam.toN (bl s) := by simp [Nam.sized, bl_length]
          rw [e]; exact o6
        case measure => simp [intOf]; omega)
    · have hje : j = ss.length := by omega
      subst hje
      rw [List.take_length, ← HB.out] at HL
      have hLB := HL.out
      go_wp2_with fail
      go_ret
      exact ⟨_, rfl, by rw [hLB]; exact own.mono (Nat.le_succ _), below_of_only hg⟩
end Go.Proofs.Ythfbcpbjnfdnkaa
