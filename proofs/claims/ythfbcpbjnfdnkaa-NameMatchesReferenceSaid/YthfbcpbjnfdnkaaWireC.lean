import Derived.Test.YthfbcpbjnfdnkaaWireB
namespace Go.Proofs.Ythfbcpbjnfdnkaa
open Go.RowKit Go.Deep

/-! ### a new reader; what it says of itself -/
def RetRd (r : Wir.R) (w : World) (e : Ending) (w' : World) : Prop := ∃ p, e = .returned (.pointer (some ⟨p, 0, none⟩)) ∧ w.heap.size ≤ p ∧ Rd w' p r ∧ Below w.heap.size w w'

set_option maxRecDepth 100000 in
set_option maxHeartbeats 400000 in
theorem new_any (v : Value) (l : List Nat) (w : World) (h : Rs w v l) (hb : l.length ≤ 140737488355328) :
    Calls Try.prog 18 #[v] w (RetRd ⟨l, false⟩ w) := by
  have H := Lib.hid h; clear h
  go_enter Try.func18, Try.ntmps18
  go_wp2_with fail
  refine (clone_rs v l _ H.out hb).mono ?_
  rintro e w1 ⟨v1, rfl, hown, hbel⟩
  have HO := Lib.hid hown
  have hs : w.heap.size ≤ w1.heap.size := hbel.size
  have HB := Lib.hid hbel; clear hbel
  have fin : ∀ v1 : Value, Own w1 w.heap.size v1 l → RetRd ⟨l, false⟩ w (.returned (.pointer (some ⟨w1.heap.size, 0, none⟩))) (w1.alloc (.cells #[v1, .bool false] 69)) := fun v1 ho =>
    ⟨w1.heap.size, rfl, hs, ⟨v1, heap_alloc_new w1 _, ho.bs.below ((Below.refl _ _).alloc (Nat.le_refl _) _), fun b hc => by have := ho.lt _ hc; omega⟩, HB.out.alloc hs _⟩
  have FIN := Lib.hid fin; clear fin
  rcases hown.cases with ⟨rfl, _⟩ | ⟨g, cap, rfl, _⟩
  · clear hown
    go_wp2_with fail
    go_ret
    exact FIN.out _ HO.out
  · clear hown
    go_wp2_with fail
    go_ret
    exact FIN.out _ HO.out

/-- As new_any, with the buffer told. -/
def RetRdQ (l : List Nat) (w : World) (e : Ending) (w' : World) : Prop := ∃ p v, e = .returned (.pointer (some ⟨p, 0, none⟩)) ∧ w.heap.size ≤ p ∧ w'.heap[p]? = some (.cells #[v, .bool false] 69 (0, 0)) ∧ Bs w' v l ∧ (∀ b, v.ownBlock = some b → w.heap.size ≤ b ∧ b < p) ∧ Below w.heap.size w w'
set_option maxRecDepth 100000 in
set_option maxHeartbeats 400000 in
theorem new_q (v : Value) (l : List Nat) (w : World) (h : Rs w v l) (hb : l.length ≤ 140737488355328) :
    Calls Try.prog 18 #[v] w (RetRdQ l w) := by
  have H := Lib.hid h; clear h
  go_enter Try.func18, Try.ntmps18
  go_wp2_with fail
  refine (clone_rs v l _ H.out hb).mono ?_
  rintro e w1 ⟨v1, rfl, hown, hbel⟩
  have HO := Lib.hid hown
  have hs : w.heap.size ≤ w1.heap.size := hbel.size
  have HB := Lib.hid hbel; clear hbel
  have fin : ∀ v1 : Value, Own w1 w.heap.size v1 l → RetRdQ l w (.returned (.pointer (some ⟨w1.heap.size, 0, none⟩))) (w1.alloc (.cells #[v1, .bool false] 69)) := fun v1 ho =>
    ⟨w1.heap.size, v1, rfl, hs, heap_alloc_new w1 _, ho.bs.below ((Below.refl _ _).alloc (Nat.le_refl _) _), fun b hc => ho.lt _ hc, HB.out.alloc hs _⟩
  have FIN := Lib.hid fin; clear fin
  rcases hown.cases with ⟨rfl, _⟩ | ⟨g, cap, rfl, _⟩
  · clear hown
    go_wp2_with fail
    go_ret
    exact FIN.out _ HO.out
  · clear hown
    go_wp2_with fail
    go_ret
    exact FIN.out _ HO.out

def RetSame (v : Value) (w : World) (e : Ending) (w' : World) : Prop := e = .returned v ∧ w = w'

set_option maxRecDepth 100000 in
set_option maxHeartbeats 400000 in
theorem bad_any (p : Nat) (r : Wir.R) (w : World) (h : Rd w p r) : Calls Try.prog 28 #[.pointer (some ⟨p, 0, none⟩)] w (RetSame (.bool r.bad) w) := by
  obtain ⟨v, h, hb, hn⟩ := h
  obtain ⟨c0, c1, f0, f1⟩ := two_cells h
  clear hb hn h
  generalize r.bad = bad at c1 ⊢
  cases bad with
  | true =>
    go_enter Try.func28, Try.ntmps28
    go_wp2
    go_ret
    exact ⟨rfl, rfl⟩
  | false =>
    go_enter Try.func28, Try.ntmps28
    go_wp2
    go_ret
    exact ⟨rfl, rfl⟩
set_option maxRecDepth 100000 in
set_option maxHeartbeats 400000 in
theorem left_any (p : Nat) (r : Wir.R) (w : World) (h : Rd w p r) : Calls Try.prog 29 #[.pointer (some ⟨p, 0, none⟩)] w (RetSame (.int .i64 r.l.length) w) := by
  obtain ⟨v, h, hb, hn⟩ := h
  obtain ⟨a, cap, rfl⟩ : ∃ a cap, v = .slice a r.l.length cap := by obtain ⟨_, a, cap, h, _⟩ := hb; exact ⟨a, cap, h⟩
  obtain ⟨c0, c1, f0, f1⟩ := two_cells h
  clear hb hn h
  go_enter Try.func29, Try.ntmps29
  go_wp2
  go_ret
  exact ⟨rfl, rfl⟩
set_option maxRecDepth 100000 in
set_option maxHeartbeats 400000 in
theorem done_any (p : Nat) (r : Wir.R) (w : World) (h : Rd w p r) : Calls Try.prog 22 #[.pointer (some ⟨p, 0, none⟩)] w (RetSame (.bool (!r.bad && r.l.length == 0)) w) := by
  obtain ⟨v, h, hb, hn⟩ := h
  obtain ⟨a, cap, rfl⟩ : ∃ a cap, v = .slice a r.l.length cap := by obtain ⟨_, a, cap, h, _⟩ := hb; exact ⟨a, cap, h⟩
  obtain ⟨c0, c1, f0, f1⟩ := two_cells h
  clear hb hn h
  generalize r.bad = bad at c1 ⊢
  generalize r.l.length = n at c0 ⊢
  cases bad with
  | true =>
    go_enter Try.func22, Try.ntmps22
    go_wp2
    go_ret
    exact ⟨rfl, rfl⟩
  | false =>
    by_cases h0 : n = 0
    · subst h0
      go_enter Try.func22, Try.ntmps22
      go_wp2
      go_ret
      exact ⟨rfl, rfl⟩
    · have hz : ((n : Int) == 0) = false := by simp; omega
      have hz2 : (n == 0) = false := by simp; omega
      rw [hz2]
      clear hz2
      go_enter Try.func22, Try.ntmps22
      go_wp2
      go_ret
      exact ⟨rfl, rfl⟩

/-! ### a nil reader -/
set_option maxRecDepth 100000 in
theorem bad_nil (w : World) : Calls Try.prog 28 #[.pointer none] w (RetSame (.bool true) w) := by
  go_enter Try.func28, Try.ntmps28
  go_wp2
  go_ret
  exact ⟨rfl, rfl⟩
set_option maxRecDepth 100000 in
theorem left_nil (w : World) : Calls Try.prog 29 #[.pointer none] w (RetSame (.int .i64 0) w) := by
  go_enter Try.func29, Try.ntmps29
  go_wp2
  go_ret
  exact ⟨rfl, rfl⟩
set_option maxRecDepth 100000 in
theorem done_nil (w : World) : Calls Try.prog 22 #[.pointer none] w (RetSame (.bool false) w) := by
  go_enter Try.func22, Try.ntmps22
  go_wp2
  go_ret
  exact ⟨rfl, rfl⟩
set_option maxRecDepth 100000 in
theorem rNumber_nil (k : Int) (w : World) : Calls Try.prog 20 #[.pointer none, .int .i64 k] w (RetSame (.int .u64 0) w) := by
  go_enter Try.func20, Try.ntmps20
  go_wp2
  go_ret
  exact ⟨rfl, rfl⟩
set_option maxRecDepth 100000 in
theorem rTake_nil (k : Int) (w : World) : Calls Try.prog 24 #[.pointer none, .int .i64 k] w (RetSame (.slice none 0 0) w) := by
  go_enter Try.func24, Try.ntmps24
  go_wp2
  go_ret
  exact ⟨rfl, rfl⟩
set_option maxRecDepth 100000 in
theorem rString_nil (k : Int) (w : World) : Calls Try.prog 21 #[.pointer none, .int .i64 k] w (RetSame (.slice none 0 0) w) := by
  go_enter Try.func21, Try.ntmps21
  go_wp2
  go_ret
  exact ⟨rfl, rfl⟩
end Go.Proofs.Ythfbcpbjnfdnkaa
