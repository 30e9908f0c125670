/- Layer 11: slices of strings; Valid, in the program and in the reference. -/
import Derived.Test.YthfbcpbjnfdnkaaNameA
import Derived.BigQuiet
namespace Go.Proofs.Ythfbcpbjnfdnkaa
open Go.RowKit Go.Deep

/-- The slice v reads as the strings ss. -/
def Ss (w : World) (v : Value) (ss : List ByteArray) : Prop :=
  (∀ s, s ∈ ss → s.size ≤ maxLen) ∧ ss.length ≤ 9223372036854775807 ∧ ((v = .slice none 0 0 ∧ ss = []) ∨ ∃ x cap, v = .slice (some x) ss.length cap ∧ (ss.length ≤ cap ∧ cap ≤ 9223372036854775807) ∧ ∀ i, i < ss.length → w.cell? (x.add i) = some (.string (ss.getD i ByteArray.empty)))
theorem Ss.nil (w : World) : Ss w (.slice none 0 0) [] := ⟨(fun _ h => by cases h), by simp, .inl ⟨rfl, rfl⟩⟩
theorem Ss.len {w : World} {v : Value} {ss : List ByteArray} (h : Ss w v ss) : ss.length ≤ 9223372036854775807 := h.2.1
theorem Ss.form {w : World} {v : Value} {ss : List ByteArray} (h : Ss w v ss) : ∃ a cap, v = .slice a ss.length cap := by
  rcases h.2.2 with ⟨e, rfl⟩ | ⟨x, cap, e, _⟩
  · exact ⟨none, 0, e⟩
  · exact ⟨some x, cap, e⟩
theorem Ss.below {w w' : World} {v : Value} {ss : List ByteArray} (h : Ss w v ss) (k : Below w.heap.size w w') : Ss w' v ss := by
  obtain ⟨h0, h1, h | ⟨x, cap, h, hcap, hc⟩⟩ := h
  · exact ⟨h0, h1, .inl h⟩
  · exact ⟨h0, h1, .inr ⟨x, cap, h, hcap, fun i hi => (k.cell (World.block_lt_of_cell? w _ (hc i hi))).trans (hc i hi)⟩⟩
theorem Ss.only {w w' : World} {v : Value} {ss : List ByteArray} (h : Ss w v ss) (k : w.grownBy w' none) : Ss w' v ss := h.below (below_of_only k)
theorem Ss.size {w : World} {v : Value} {ss : List ByteArray} (h : Ss w v ss) {i : Nat} (hi : i < ss.length) : (ss.getD i ByteArray.empty).size ≤ maxLen := by
  have e : ss.getD i ByteArray.empty = ss[i] := by simp [List.getD, hi]
  rw [e]; exact h.1 _ (List.getElem_mem hi)
theorem Ss.at {w : World} {a : Option Addr} {n cap : Nat} {ss : List ByteArray} (h : Ss w (.slice a n cap) ss) {k : Nat} (hk : k < ss.length) : ∃ b off, a = some ⟨b, off, none⟩ ∧ w.cell? ⟨b, off + k, none⟩ = some (.string (ss.getD k ByteArray.empty)) := by
  rcases h.2.2 with ⟨_, rfl⟩ | ⟨x, cap', e, _, hc⟩
  · simp at hk
  · simp only [Value.slice.injEq] at e
    obtain ⟨rfl, rfl, rfl⟩ := e
    obtain ⟨b, off, key⟩ := x
    have h0 := hc 0 (by omega)
    have hs : key = none := by simpa [Addr.add] using World.cell?_spot h0
    subst hs
    have h0 := hc k hk
    exact ⟨b, off, rfl, by rwa [Addr.add_lit] at h0⟩
/-- A block that is known whole. -/
def Hb (w : World) (b : Nat) (cs : Array Value) (t : TypeId) : Prop := w.heap[b]? = some (.cells cs t (0, 0))
theorem Hb.new (w : World) (cs : Array Value) (t : TypeId) : Hb (w.alloc (.cells cs t)) w.heap.size cs t := heap_alloc_new w _
theorem Hb.lt {w : World} {b : Nat} {cs : Array Value} {t : TypeId} (h : Hb w b cs t) : b < w.heap.size := (Array.getElem?_eq_some_iff.1 h).1
theorem Hb.keep {w w' : World} {b : Nat} {cs : Array Value} {t : TypeId} {r : Option Nat} (h : Hb w b cs t) (k : w.grownBy w' r) (hr : some b ≠ r) : Hb w' b cs t := (k.block b h.lt hr).trans h
theorem Hb.only {w w' : World} {b : Nat} {cs : Array Value} {t : TypeId} (h : Hb w b cs t) (k : w.grownBy w' none) : Hb w' b cs t := h.keep k (by simp)
theorem Hb.cell {w : World} {b : Nat} {cs : Array Value} {t : TypeId} (h : Hb w b cs t) {i : Nat} {v : Value} (hv : cs[i]? = some v) : w.cell? ⟨b, i, none⟩ = some v := (cell_of_row w b i cs t (0, 0) h).trans hv
theorem Hb.frozen {w : World} {b : Nat} {cs : Array Value} {t : TypeId} (h : Hb w b cs t) (i : Nat) : w.frozen? ⟨b, i, none⟩ = false := by
  unfold Hb at h
  simp [World.frozen?, h]
theorem Hb.alloc {w : World} {b : Nat} {cs : Array Value} {t : TypeId} (h : Hb w b cs t) (o : Obj) : Hb (w.alloc o) b cs t := (Below.heap_alloc w o b h.lt).trans h
/-- The name of a realm and parts. -/
def nm (r : ByteArray) (ss : List ByteArray) : Nam.N := ⟨bl r, ss.map bl⟩
theorem bl_getD (ss : List ByteArray) (i : Nat) : (ss.map bl).getD i [] = bl (ss.getD i ByteArray.empty) := by
  simp only [List.getD, List.getElem?_map]
  cases ss[i]? <;> rfl

theorem valid_realm {r : ByteArray} (ss : List ByteArray) (h : Nam.word (bl r) = false) : Nam.valid (nm r ss) = false := by
  unfold Nam.valid nm
  simp [h]
theorem valid_count {r : ByteArray} {ss : List ByteArray} (h : ss.length < 1 ∨ 8 < ss.length) : Nam.valid (nm r ss) = false := by
  unfold Nam.valid nm
  simp only [List.length_map]
  rcases h with h | h
  · have : ¬ 1 ≤ ss.length := by omega
    simp [this]
  · have : ¬ ss.length ≤ 8 := by omega
    simp [this]
theorem valid_part {r : ByteArray} {ss : List ByteArray} {i : Nat} (hi : i < ss.length) (h : Nam.word (bl (ss.getD i ByteArray.empty)) = false) : Nam.valid (nm r ss) = false := by
  unfold Nam.valid nm
  have : (ss.map bl).all Nam.word = false := by
    rw [List.all_eq_false]
    refine ⟨bl (ss.getD i ByteArray.empty), ?_, by rw [h]; simp⟩
    have e : ss.getD i ByteArray.empty = ss[i] := by simp [List.getD, hi]
    rw [e]
    exact List.mem_map.2 ⟨_, List.getElem_mem hi, rfl⟩
  dsimp only
  rw [this, Bool.and_false]
theorem valid_yes {r : ByteArray} {ss : List ByteArray} (hr : Nam.word (bl r) = true) (h : ¬ (ss.length < 1 ∨ 8 < ss.length)) (ha : ∀ i, i < ss.length → Nam.word (bl (ss.getD i ByteArray.empty)) = true) : Nam.valid (nm r ss) = true := by
  unfold Nam.valid nm
  have : (ss.map bl).all Nam.word = true := by
    rw [List.all_eq_true]
    intro x hx
    obtain ⟨y, hy, rfl⟩ := List.mem_map.1 hx
    obtain ⟨i, hi, rfl⟩ := List.getElem_of_mem hy
    have := ha i hi
    have e : ss.getD i ByteArray.empty = ss[i] := by simp [List.getD, hi]
    rwa [e] at this
  simp only [Bool.and_eq_true, decide_eq_true_eq, List.length_map]
  exact ⟨⟨⟨hr, by omega⟩, by omega⟩, this⟩

set_option maxRecDepth 100000 in
set_option maxHeartbeats 1000000 in
theorem valid_any (r : ByteArray) (hr : r.size ≤ maxLen) (v : Value) (ss : List ByteArray) (w : World) (h : Ss w v ss) :
    Calls Try.prog 38 #[.agg #[.string r, v]] w fun e w' => e = .returned (.bool (Nam.valid (nm r ss))) ∧ w.grownBy w' none := by
  obtain ⟨a, cap, rfl⟩ := h.form
  have H := Lib.hid h; clear h
  go_enter Try.func38, Try.ntmps38
  go_wp2_with (go_at_call 57; refine (word_any r _ hr).mono ?_)
  rintro e w1 ⟨rfl, h1⟩
  have hb1 := (Hb.new w #[Value.string r, Value.slice a ss.length cap] _).only h1
  have g1 := only_trans (only_alloc (only_refl w none) _) h1
  have c0 := hb1.cell (i := 0) rfl
  have c1 := hb1.cell (i := 1) rfl
  have hn := H.out.len
  cases hw : Nam.word (bl r)
  · have HF := Lib.hid (valid_realm ss hw)
    go_wp2_with fail
    go_ret
    exact ⟨by rw [HF.out]; rfl, g1⟩
  by_cases hl : ss.length < 1 ∨ 8 < ss.length
  · have HF := Lib.hid (valid_count (r := r) hl)
    clear h1
    go_wp2_with fail
    all_goals first | omega | skip
    all_goals (go_ret; exact ⟨by rw [HF.out]; rfl, g1⟩)
  clear h1
  go_wp2_with fail
  all_goals first | omega | skip
  clear c0 c1 hb1
  go_loopw [24] (fun x wr => ∃ j : Nat, j ≤ ss.length ∧ x = .int .i64 j ∧ w.grownBy wr none ∧ ∀ i, i < j → Nam.word (bl (ss.getD i ByteArray.empty)) = true) (fun x _ => ss.length - (intOf x).toNat)
  case atStart => exact ⟨0, Nat.zero_le _, rfl, g1, fun i hi => by omega⟩
  case round =>
    obtain ⟨j, hle, rfl, hg, hall⟩ := hrel
    by_cases hj : j < ss.length
    · obtain ⟨b, off, rfl, hc⟩ := (H.out.only hg).at hj
      have hsz := H.out.size hj
      generalize hs : ss.getD j ByteArray.empty = s at hc hsz
      have HS := Lib.hid hs; clear hs
      have HA := Lib.hid hall; clear hall
      go_wp2_with (go_at_call 57; refine (word_any s _ hsz).mono ?_)
      rintro e w2 ⟨rfl, h2⟩
      have g2 := only_trans hg h2
      cases hws : Nam.word (bl s)
      · have HF := Lib.hid (valid_part (r := r) hj (by rw [HS.out]; exact hws))
        go_wp2_with fail
        go_ret
        exact ⟨by rw [HF.out]; rfl, g2⟩
      · have HW := Lib.hid hws
        go_wp2_with fail
        all_goals first | omega | skip
        go_roundw
        case rel =>
          refine ⟨j + 1, by omega, by go_num, g2, fun i hi => ?_⟩
          by_cases e : i = j
          · subst e; rw [HS.out]; exact HW.out
          · exact HA.out i (by omega)
        case measure => simp [intOf]; omega
    · obtain rfl : j = ss.length := by omega
      have HF := Lib.hid (valid_yes hw hl hall)
      clear hall
      go_wp2_with fail
      all_goals first | omega | skip
      go_ret
      exact ⟨by rw [HF.out]; rfl, hg⟩
set_option maxRecDepth 100000 in
set_option maxHeartbeats 1000000 in
theorem refvalid_any (r : ByteArray) (hr : r.size ≤ maxLen) (v : Value) (ss : List ByteArray) (w : World) (h : Ss w v ss) :
    Calls Try.prog 36 #[.agg #[.string r, v]] w fun e w' => e = .returned (.bool (Nam.valid (nm r ss))) ∧ w.grownBy w' none := by
  obtain ⟨a, cap, rfl⟩ := h.form
  have H := Lib.hid h; clear h
  have hn := H.out.len
  go_enter Try.func36, Try.ntmps36
  go_wp2_with fail
  go_loopw [3] (fun x wr => ∃ j : Nat, j ≤ ss.length ∧ x = .int .i64 j ∧ w.grownBy wr none ∧ Hb wr w.heap.size #[Value.string r, Value.slice a ss.length cap] 53 ∧ ∀ i, i < j → Nam.word (bl (ss.getD i ByteArray.empty)) = true) (fun x _ => ss.length - (intOf x).toNat)
  case atStart => exact ⟨0, Nat.zero_le _, rfl, only_alloc (only_refl w none) _, Hb.new _ _ _, fun i hi => by omega⟩
  case round =>
    obtain ⟨j, hle, rfl, hg, hb, hall⟩ := hrel
    have c0 := hb.cell (i := 0) rfl
    have c1 := hb.cell (i := 1) rfl
    by_cases hj : j < ss.length
    · obtain ⟨b, off, rfl, hc⟩ := (H.out.only hg).at hj
      have hsz := H.out.size hj
      generalize hs : ss.getD j ByteArray.empty = s at hc hsz
      have HS := Lib.hid hs; clear hs
      have HA := Lib.hid hall; clear hall
      go_wp2_with (go_at_call 56; refine (refword_any s _ hsz).mono ?_)
      all_goals first | omega | skip
      rintro e w2 ⟨rfl, h2⟩
      have g2 := only_trans hg h2
      have hb2 := hb.only h2
      clear c0 c1
      cases hws : Nam.word (bl s)
      · have HF := Lib.hid (valid_part (r := r) hj (by rw [HS.out]; exact hws))
        go_wp2_with fail
        go_ret
        exact ⟨by rw [HF.out]; rfl, g2⟩
      · have HW := Lib.hid hws
        go_wp2_with fail
        all_goals first | omega | skip
        go_roundw
        case rel =>
          refine ⟨j + 1, by omega, by go_num, g2, hb2, fun i hi => ?_⟩
          by_cases e : i = j
          · subst e; rw [HS.out]; exact HW.out
          · exact HA.out i (by omega)
        case measure => simp [intOf]; omega
    · obtain rfl : j = ss.length := by omega
      have HA := Lib.hid hall; clear hall
      go_wp2_with (go_at_call 56; refine (refword_any r _ hr).mono ?_)
      all_goals first | omega | skip
      rintro e w2 ⟨rfl, h2⟩
      have g2 := only_trans hg h2
      have hb2 := hb.only h2
      clear c0 c1
      have c1 := hb2.cell (i := 1) rfl
      cases hw : Nam.word (bl r)
      · have HF := Lib.hid (valid_realm ss hw)
        go_wp2_with fail
        go_ret
        exact ⟨by rw [HF.out]; rfl, g2⟩
      by_cases hl : ss.length < 1 ∨ 8 < ss.length
      · have HF := Lib.hid (valid_count (r := r) hl)
        go_wp2_with fail
        all_goals first | omega | skip
        all_goals (go_ret; exact ⟨by rw [HF.out]; first | rfl | (rw [show (false : Bool) = decide ((ss.length : Int) < 9) from (decide_eq_false (by omega)).symm]; rfl), g2⟩)
      have HF := Lib.hid (valid_yes hw hl HA.out)
      go_wp2_with fail
      all_goals first | omega | skip
      all_goals (go_ret; exact ⟨by rw [HF.out, show (true : Bool) = decide ((ss.length : Int) < 9) from (decide_eq_true (by omega)).symm]; rfl, g2⟩)
end Go.Proofs.Ythfbcpbjnfdnkaa
