/- Layer 11: the builder of strings; Text of the program. -/
import Derived.Test.YthfbcpbjnfdnkaaNameD
import Derived.Lib.Builder
import Derived.Lib.UnsafeStr
import Derived.Laws.Externs
namespace Go.Proofs.Ythfbcpbjnfdnkaa
open Go.RowKit Go.Deep

/-- The builder in block b holds the bytes l. -/
def Bu (w : World) (b : Nat) (l : Nam.W) : Prop := ∃ p v, Hb w b #[p, v] 80 ∧ (p = .pointer none ∨ p = .pointer (some ⟨b, 0, none⟩)) ∧ Own w (b + 1) v (Nam.toN l)
theorem Bu.lt {w : World} {b : Nat} {l : Nam.W} (h : Bu w b l) : b < w.heap.size := by
  obtain ⟨p, v, h, _⟩ := h
  exact h.lt
theorem info_builder : (Try.prog.info? 80).map (·.size) = some 2 := by kernel_rfl
theorem lies_builder : liesAt Try.prog Try.prog.depth 80 (2 / Try.prog.cellsOf 80) 0 80 1 = true := by kernel_rfl
theorem Own.setCell {w : World} {base : Nat} {v : Value} {l : List Nat} (h : Own w base v l) {p : Addr} (hp : p.block < base) (u : Value) : Own (w.setCell p u) base v l := by
  refine h.only (grown_set u) ?_
  cases hv : v.ownBlock with
  | none => exact .inl rfl
  | some g => exact .inr (fun e => by have := (h.lt g hv).1; cases e; omega)
theorem Own.apart {w : World} {base : Nat} {v : Value} {l : List Nat} (h : Own w base v l) {b : Nat} (hb : b < base) : some b ≠ v.ownBlock := fun e => by have := (h.lt b e.symm).1; omega
theorem Hb.shape {w : World} {b : Nat} {cs : Array Value} {t : TypeId} (h : Hb w b cs t) : w.shape? b = some (t, cs.size) := by
  unfold Hb at h
  simp [World.shape?, h]

set_option maxRecDepth 100000 in
set_option maxHeartbeats 1000000 in
theorem check_used (b : Nat) (w : World) (h0 : w.cell? ⟨b, 0, none⟩ = some (.pointer (some ⟨b, 0, none⟩))) :
    Calls Try.prog 60 #[.pointer (some ⟨b, 0, none⟩)] w fun e w' => e = .returned (.tuple #[]) ∧ w' = w := by
  obtain ⟨j, hj, _⟩ := Option.map_eq_some_iff.1 info_builder
  go_enter Try.func60, Try.ntmps60
  go_wp2_with fail
  rw [Lib.run_neq_ptr_same w _ Try.underlying78 hj]
  go_wp2_with fail
  go_end0
  exact ⟨rfl, rfl⟩
set_option maxRecDepth 100000 in
set_option maxHeartbeats 1000000 in
theorem check_fresh (b : Nat) (w : World) (h0 : w.cell? ⟨b, 0, none⟩ = some (.pointer none)) (hsh : w.shape? b = some (80, 2)) (hfz : w.frozen? ⟨b, 0, none⟩ = false) :
    Calls Try.prog 60 #[.pointer (some ⟨b, 0, none⟩)] w fun e w' => e = .returned (.tuple #[]) ∧ w' = w.setCell ⟨b, 0, none⟩ (.pointer (some ⟨b, 0, none⟩)) := by
  obtain ⟨j, hj, hjs⟩ := Option.map_eq_some_iff.1 info_builder
  go_enter Try.func60, Try.ntmps60
  go_wp2_with fail
  rw [Lib.run_to_unsafe w ⟨b, 0, none⟩ Try.underlying78 Try.underlying89 hj (by rw [hjs]; decide) hsh (Nat.zero_lt_succ 1)]
  simp only [Result.andThen]
  rw [Oper.upon_value]
  go_wp2_with fail
  rw [run_callFunc_extern Try.func61 (by kernel_rfl) (by kernel_rfl) (by kernel_rfl) (e := Extern.AbiNoEscape.same) (by kernel_rfl)]
  rw [Lib.run_noEscape]
  simp only [Result.andThen]
  rw [Oper.upon_value]
  go_wp2_with fail
  rw [Lib.run_from_unsafe w ⟨b, 0, none⟩ Try.underlying89 Try.underlying78 hj hsh lies_builder]
  simp only [Result.andThen]
  rw [Oper.upon_value]
  go_wp2_with fail
  go_end0
  exact ⟨rfl, rfl⟩
/-- copyCheck: the builder holds its own address then. -/
theorem check_any (b : Nat) (l : Nam.W) (w : World) (h : Bu w b l) :
    Calls Try.prog 60 #[.pointer (some ⟨b, 0, none⟩)] w fun e w' => e = .returned (.tuple #[]) ∧ (∃ v, Hb w' b #[.pointer (some ⟨b, 0, none⟩), v] 80 ∧ Own w' (b + 1) v (Nam.toN l)) ∧ Below b w w' := by
  obtain ⟨p, v, hb, hp | hp, ho⟩ := h
  · subst hp
    refine (check_fresh b w (hb.cell (i := 0) rfl) hb.shape (hb.frozen 0)).mono ?_
    rintro e w' ⟨rfl, rfl⟩
    exact ⟨rfl, ⟨v, hb.set 0 _, ho.setCell (Nat.lt_succ_self _) _⟩, (Below.refl b w).setCell (p := ⟨b, 0, none⟩) (Nat.le_refl _) _⟩
  · subst hp
    refine (check_used b w (hb.cell (i := 0) rfl)).mono ?_
    rintro e w' ⟨rfl, rfl⟩
    exact ⟨rfl, ⟨v, hb, ho⟩, Below.refl b _⟩
set_option maxRecDepth 100000 in
set_option maxHeartbeats 1000000 in
theorem writebyte_any (b : Nat) (l : Nam.W) (c : UInt8) (w : World) (h : Bu w b l) (hn : l.length ≤ 1000000) :
    Calls Try.prog 54 #[.pointer (some ⟨b, 0, none⟩), .int .u8 c.toNat] w fun e w' => e = .returned .nilIface ∧ Bu w' b (l ++ [c]) ∧ Below b w w' := by
  have hcB := c.toNat_lt
  have hlt := h.lt
  go_enter Try.func54, Try.ntmps54
  go_wp2_with (go_at_call 60; refine (check_any b l _ h).mono ?_)
  rintro e w1 ⟨rfl, ⟨v, h1, ho⟩, hbw⟩
  obtain ⟨va, vc, rfl⟩ := ho.form
  have c1 := h1.cell (i := 1) rfl
  have hsz : b < w1.heap.size := h1.lt
  go_wp2_with (first | (at_builtin; go_must (refine wpList_append_bs rfl _ _ rfl (b + 1) (.slice va (Nam.toN l).length vc) (Nam.toN l) rfl (ho.alloc _) _ [c.toNat] rfl (own_built w1 _ [c.toNat] (AllB.one hcB) hsz (by simp)).bs (by rw [Nam.toN_length]; simp; omega) (Nat.le_trans hsz (by simp)) ?_; intro v2 w2 hown2 hgr2; obtain ⟨a2, e2, rfl⟩ := hown2.form; have k1 := (h1.alloc _).keep hgr2 (ho.apart (Nat.lt_succ_self _)); have x1 := k1.cell (i := 1) rfl; have y1 := k1.frozen 1)))
  go_ret
  have hlen : (Nam.toN (l ++ [c])).length = (Nam.toN l).length + 1 := by simp [Nam.toN]
  rw [snoc_bytes, hlen] at hown2
  refine ⟨rfl, ⟨_, _, k1.set 1 _, .inr rfl, hown2.setCell (p := ⟨b, 1, none⟩) (Nat.lt_succ_self _) _⟩, ?_⟩
  refine Below.setCell ?_ (p := ⟨b, 1, none⟩) (Nat.le_refl _) _
  exact (hbw.trans ((Below.refl b w1).alloc (Nat.le_of_lt hsz) _)).grown hgr2 (Nat.le_trans (Nat.le_of_lt hsz) (by simp)) (fun g hg => Nat.le_of_succ_le (ho.lt g hg).1)
set_option maxRecDepth 100000 in
set_option maxHeartbeats 1000000 in
theorem string_any (b : Nat) (l : Nam.W) (w : World) (h : Bu w b l) (hl : l ≠ []) :
    Calls Try.prog 55 #[.pointer (some ⟨b, 0, none⟩)] w fun e w' => e = .returned (.string ⟨l.toArray⟩) ∧ Below b w w' := by
  obtain ⟨p, v, hb, _, ho⟩ := h
  have hl0 : l.length ≠ 0 := by simpa using hl
  rcases ho.2.2 with ⟨_, h0⟩ | ⟨g, cap, cur, rfl, hbg, hg, hn, hc, hsz, ht⟩
  · rw [Nam.toN_length] at h0; exact absurd h0 hl0
  rw [Nam.toN_length] at *
  have hg' : w.drew.heap[g]? = some (.cells cur 5 (0, 0)) := hg
  have c1 : w.drew.cell? ⟨b, 1, none⟩ = some (.slice (some ⟨g, 0, none⟩) l.length cap) := hb.cell (i := 1) rfl
  have hSD : (Builtin.unsafeSliceData_ #[23] 88 #[.slice (some ⟨g, 0, none⟩) l.length cap]).run Try.prog w.drew = .ok (.pointer (some ⟨g, 0, none⟩)) w.drew :=
    Lib.run_unsafeSliceData_row _ _ _ _ _ _ (by omega)
  have hUS : (Builtin.unsafeString_ #[88, 3] 9 #[.pointer (some ⟨g, 0, none⟩), .int .i64 l.length]).run Try.prog w.drew = .ok (.string ⟨l.toArray⟩) (w.drew.freeze ⟨g, 0, none⟩ l.length) := by
    refine Lib.run_unsafeString_row w.drew 88 3 9 5 Try.underlying88 (by kernel_rfl) g cur.size (by simp [World.shape?, hg']) l hl (by omega) (by unfold maxLen at hc; omega) ?_
    intro j x hx
    have hj : j < l.length := (List.getElem?_eq_some_iff.1 hx).1
    have := ho.cellAt (i := j) (by rw [Nam.toN_length]; exact hj)
    rw [Addr.add_lit, Nat.zero_add]
    have hx' : l.getD j 0 = x := by simp [List.getD, hx]
    refine this.trans ?_
    have e : (Nam.toN l).getD j 0 = x.toNat := by
      rw [← hx']; simp [Nam.toN, List.getD, hj]
    rw [e]
  go_enter Try.func55, Try.ntmps55
  go_wp2_with fail
  go_region
  all_goals (go_wp2_with fail; go_ret; exact ⟨rfl, Lib.below_freeze (Below.drew (Below.refl b w)) (p := ⟨g, 0, none⟩) (Nat.le_of_succ_le hbg) _⟩)
theorem escape_cons' (c : UInt8) (l : Nam.W) : Nam.escape (c :: l) = (if Nam.esc c then [92, c] else [c]) ++ Nam.escape l := rfl
theorem escape_len (l : Nam.W) : (Nam.escape l).length ≤ 2 * l.length := by
  induction l with
  | nil => simp [Nam.escape]
  | cons c l ih =>
    rw [escape_cons', List.length_append, List.length_cons]
    split <;> simp <;> omega
theorem escape_snoc (l : Nam.W) (i : Nat) (h : i < l.length) : Nam.escape (l.take (i + 1)) = Nam.escape (l.take i) ++ (if Nam.esc (l.getD i 0) then [92, l.getD i 0] else [l.getD i 0]) := by
  rw [take_snoc l i h, Nam.escape_append, escape_cons', Nam.escape_nil, List.append_nil]
set_option maxRecDepth 100000 in
set_option maxHeartbeats 1000000 in
theorem write_any (b : Nat) (l : Nam.W) (s : ByteArray) (w : World) (h : Bu w b l) (hs : s.size ≤ 100) (hl : l.length ≤ 900000) :
    Calls Try.prog 52 #[.string s, .pointer (some ⟨b, 0, none⟩)] w fun e w' => e = .returned (.tuple #[]) ∧ Bu w' b (l ++ Nam.escape (bl s)) ∧ Below b w w' := by
  go_enter Try.func52, Try.ntmps52
  go_wp2_with fail
  go_loopw [3] (fun x wr => ∃ i : Nat, i ≤ s.size ∧ x = .int .i64 i ∧ Bu wr b (l ++ Nam.escape ((bl s).take i)) ∧ Below b w wr) (fun x _ => s.size - (intOf x).toNat)
  case atStart => exact ⟨0, Nat.zero_le _, rfl, by simpa [Nam.escape] using h, Below.refl b w⟩
  case round =>
    obtain ⟨i, hi, rfl, hB, hbw⟩ := hrel
    by_cases hp : i < s.size
    · have hix := fun W => ix_run s i hp W
      have hsn := escape_snoc (bl s) i (by rw [bl_length]; exact hp)
      have hle := escape_len ((bl s).take i)
      rw [List.length_take, bl_length] at hle
      have hlen : (l ++ Nam.escape ((bl s).take i)).length ≤ 900200 := by rw [List.length_append]; omega
      generalize (bl s).getD i 0 = c at hix hsn
      have hB2 := hB
      rw [← bl_length] at hp
      have hL : ∀ m, l ++ (Nam.escape ((bl s).take i) ++ m) = (l ++ Nam.escape ((bl s).take i)) ++ m := fun m => (List.append_assoc _ _ _).symm
      have HS := Lib.hid (show l ++ Nam.escape ((bl s).take (i + 1)) = (l ++ Nam.escape ((bl s).take i)) ++ (if Nam.esc c then [92, c] else [c]) by rw [hsn, hL])
      clear hsn hL hB2
      generalize l ++ Nam.escape ((bl s).take i) = L at hB hlen HS
      rw [bl_length] at hp
      cases he : Nam.esc c
      · rw [he] at HS
        go_wp2_with (first | (go_at_call 53; refine (escaped_any c _).mono ?_; rintro e w3 ⟨rfl, rfl⟩; rw [he]) | (go_at_call 54; refine (writebyte_any b L c _ hB (by omega)).mono ?_; rintro e w4 ⟨rfl, hB4, hb4⟩))
        all_goals first | omega | skip
        go_roundw
        case rel => exact ⟨i + 1, by omega, by go_num, by rw [HS.out]; exact hB4, hbw.trans hb4⟩
        case measure => simp [intOf]; omega
      · rw [he] at HS
        go_wp2_with (go_at_call 53; refine (escaped_any c _).mono ?_; rintro e w3 ⟨rfl, rfl⟩; rw [he])
        all_goals first | omega | skip
        refine (writebyte_any b L 92 _ hB (by omega)).mono ?_
        rintro e w4 ⟨rfl, hB4, hb4⟩
        go_wp2_with (go_at_call 54; refine (writebyte_any b (L ++ [92]) c _ hB4 (by simp; omega)).mono ?_; rintro e w5 ⟨rfl, hB5, hb5⟩)
        all_goals first | omega | skip
        go_roundw
        case rel => exact ⟨i + 1, by omega, by go_num, by rw [HS.out]; simpa using hB5, hbw.trans (hb4.trans hb5)⟩
        case measure => simp [intOf]; omega
    · obtain rfl : i = s.size := by omega
      rw [show (bl s).take s.size = bl s from List.take_of_length_le (Nat.le_refl _)] at hB
      go_wp2_with fail
      all_goals first | omega | skip
      go_end0
      exact ⟨rfl, hB, hbw⟩
end Go.Proofs.Ythfbcpbjnfdnkaa
