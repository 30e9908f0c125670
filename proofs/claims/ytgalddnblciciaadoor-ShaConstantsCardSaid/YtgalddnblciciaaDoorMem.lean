/- Byte slices in memory: 'Bs' (reads as a list of numbers), 'Own' (lies in a row of the call's own, may be written). Small lemmas; no function of the program. -/
import Derived.Test.YtgalddnblciciaaDoorRows
import Derived.WalkKit
import Derived.WalkSpells
import Derived.WalkLawsBesides
import Derived.Lib.Hide
import Derived.Deep.OwnRows
import Derived.Deep.Draws
import Derived.Deep.QuietTactic
import Derived.BigQuiet
import Derived.OpenShut
import Derived.ProofKit
import Derived.Laws.AppendOwnNone
namespace Go.Proofs.YtgalddnblciciaaDoor
open Go.RowKit Go.Deep

theorem ret_int {k : IntKind} {a b : Int} (h : a = b) : Ending.returned (.int k a) = .returned (.int k b) := by rw [h]
theorem quiet_left {P : Program} {f : FuncId} {args : Array Value} {w : World} {n : Nat} {v : Value}
    (h : Calls P f args (w.drewN n) fun e w' => e = .returned v ∧ w.drewN n = w') : Calls P f args (w.drewN n) fun e w'' => e = .returned v ∧ ∃ m, w'' = w.drewN m :=
  h.mono fun _ _ ⟨he, hm⟩ => ⟨he, n, hm.symm⟩
theorem below_drewN {B : Nat} {a w : World} (h : Below B a w) (n : Nat) : Below B a (w.drewN n) := ⟨h.os, h.tape, h.output, h.size, h.block⟩
theorem rowIs_drewN {w : World} {b : Nat} {t : TypeId} {n : Nat} {f : Nat → Value} (h : w.rowIs b t n f) (k : Nat) : (w.drewN k).rowIs b t n f := h
theorem Below.alloc2 {B : Nat} {a w : World} (h : Below B a w) (hB : B ≤ a.heap.size) (o : Obj) : Below B a (w.alloc o) := h.alloc (Nat.le_trans hB h.size) o

/-! ### only one block, and what is new, has turned -/
theorem only_refl (w : World) (r : Option Nat) : w.grownBy w r := ⟨rfl, rfl, rfl, Nat.le_refl _, fun _ _ _ => rfl⟩
theorem only_trans {a b c : World} {r : Option Nat} (h : a.grownBy b r) (k : b.grownBy c r) : a.grownBy c r :=
  ⟨k.os.trans h.os, k.tape.trans h.tape, k.output.trans h.output, Nat.le_trans h.size k.size, fun i hi hn => (k.block i (Nat.lt_of_lt_of_le hi h.size) hn).trans (h.block i hi hn)⟩
theorem only_of_below {a w : World} (h : Below a.heap.size a w) (r : Option Nat) : a.grownBy w r := ⟨h.os, h.tape, h.output, h.size, fun i hi _ => h.block i hi⟩
theorem below_of_only {a w : World} (h : a.grownBy w none) : Below a.heap.size a w := ⟨h.os, h.tape, h.output, h.size, fun i hi => h.block i hi (by simp)⟩
theorem only_drewN {a w : World} {r : Option Nat} (h : a.grownBy w r) (n : Nat) : a.grownBy (w.drewN n) r := ⟨h.os, h.tape, h.output, h.size, h.block⟩
theorem only_alloc {a w : World} {r : Option Nat} (h : a.grownBy w r) (o : Obj) : a.grownBy (w.alloc o) r :=
  ⟨h.os, h.tape, h.output, Nat.le_trans h.size (by simp), fun i hi hne => (Below.heap_alloc w o i (Nat.lt_of_lt_of_le hi h.size)).trans (h.block i hi hne)⟩
theorem only_setCell {a w : World} {g : Nat} (h : a.grownBy w (some g)) {p : Addr} (hp : p.block = g ∨ a.heap.size ≤ p.block) (u : Value) : a.grownBy (w.setCell p u) (some g) :=
  ⟨h.os, h.tape, h.output, by simpa [World.setCell] using h.size, fun i hi hne => (Below.heap_setCell w p u i (by
    rintro rfl
    rcases hp with hp | hp
    · exact hne (by rw [hp])
    · omega)).trans (h.block i hi hne)⟩
theorem only_set {a w : World} {g : Nat} (h : a.grownBy w (some g)) (i : Nat) (u : Value) : a.grownBy (w.setCell ⟨g, i, none⟩ u) (some g) := only_setCell h (.inl rfl) u
/-- Behind a frame that may write a block that is new since a. -/
theorem below_only {B : Nat} {a w w' : World} {r : Option Nat} (h : Below B a w) (hB : B ≤ a.heap.size) (k : w.grownBy w' r) (hr : ∀ g, r = some g → B ≤ g) : Below B a w' :=
  h.grown k (Nat.le_trans hB h.size) hr
theorem only_below {a w w' : World} {r : Option Nat} (h : a.grownBy w r) (k : Below w.heap.size w w') : a.grownBy w' r := only_trans h (only_of_below k r)

/-! ### bytes that are read -/
abbrev bv (n : Nat) : Value := Value.int .u8 (n : Int)
def AllB (l : List Nat) : Prop := ∀ x, x ∈ l → x < 256
theorem AllB.nil : AllB [] := fun _ h => by cases h
theorem AllB.append {l m : List Nat} (h : AllB l) (k : AllB m) : AllB (l ++ m) := fun x hx => (List.mem_append.1 hx).elim (h x) (k x)
theorem AllB.take {l : List Nat} (h : AllB l) (n : Nat) : AllB (l.take n) := fun x hx => h x (List.mem_of_mem_take hx)
theorem AllB.drop {l : List Nat} (h : AllB l) (n : Nat) : AllB (l.drop n) := fun x hx => h x (List.mem_of_mem_drop hx)
theorem AllB.get {l : List Nat} (h : AllB l) (i : Nat) : l.getD i 0 < 256 := by
  by_cases hi : i < l.length
  · have e : l.getD i 0 = l[i] := by simp [List.getD, hi]
    rw [e]; exact h _ (List.getElem_mem hi)
  · have e : l.getD i 0 = 0 := by simp [List.getD, List.getElem?_eq_none (Nat.le_of_not_lt hi)]
    rw [e]; decide
theorem AllB.one {n : Nat} (h : n < 256) : AllB [n] := fun x hx => by
  rw [List.mem_singleton] at hx; rw [hx]; exact h
theorem AllB.cons {n : Nat} {l : List Nat} (h : n < 256) (k : AllB l) : AllB (n :: l) := fun x hx => by
  rcases List.mem_cons.1 hx with rfl | hx
  · exact h
  · exact k x hx
theorem AllB.set {l : List Nat} (h : AllB l) (i n : Nat) (hn : n < 256) : AllB (l.set i n) := fun x hx => by
  rcases List.mem_or_eq_of_mem_set hx with h' | rfl
  · exact h x h'
  · exact hn
theorem AllB.replicate (n m : Nat) (hm : m < 256) : AllB (List.replicate n m) := fun x hx => by
  rw [(List.mem_replicate.1 hx).2]; exact hm

/-- The slice v reads as the bytes l. -/
def Bs (w : World) (v : Value) (l : List Nat) : Prop :=
  AllB l ∧ ∃ a cap, v = .slice a l.length cap ∧ l.length ≤ cap ∧ cap ≤ 9223372036854775807 ∧
    ((a = none ∧ l = [] ∧ cap = 0) ∨ ∃ b off, a = some ⟨b, off, none⟩ ∧ b < w.heap.size ∧ ∀ i, i < l.length → w.cell? ⟨b, off + i, none⟩ = some (bv (l.getD i 0)))

theorem Bs.all {w : World} {v : Value} {l : List Nat} (h : Bs w v l) : AllB l := h.1
theorem Bs.nil (w : World) : Bs w (.slice none 0 0) [] := ⟨AllB.nil, none, 0, rfl, by simp, by omega, .inl ⟨rfl, rfl, rfl⟩⟩
theorem Bs.cases {w : World} {v : Value} {l : List Nat} (h : Bs w v l) : (v = .slice none 0 0 ∧ l = []) ∨ ∃ b off cap, v = .slice (some ⟨b, off, none⟩) l.length cap ∧ l.length ≤ cap ∧ cap ≤ 9223372036854775807 ∧ b < w.heap.size ∧ ∀ i, i < l.length → w.cell? ⟨b, off + i, none⟩ = some (bv (l.getD i 0)) := by
  obtain ⟨_, a, cap, rfl, h1, h2, ⟨rfl, rfl, rfl⟩ | ⟨b, off, rfl, hb, hc⟩⟩ := h
  · exact .inl ⟨rfl, rfl⟩
  · exact .inr ⟨b, off, cap, rfl, h1, h2, hb, hc⟩
theorem Bs.of_blocks {w w' : World} {v : Value} {l : List Nat} (h : Bs w v l) (hs : w.heap.size ≤ w'.heap.size) (hb : ∀ b, v.ownBlock = some b → w'.heap[b]? = w.heap[b]?) : Bs w' v l := by
  obtain ⟨h0, a, cap, rfl, h1, h2, ⟨rfl, rfl, rfl⟩ | ⟨b, off, rfl, hlt, hc⟩⟩ := h
  · exact ⟨h0, none, 0, rfl, h1, h2, .inl ⟨rfl, rfl, rfl⟩⟩
  · exact ⟨h0, _, cap, rfl, h1, h2, .inr ⟨b, off, rfl, by omega, fun i hi => (World.cell?_of_block (hb b rfl)).trans (hc i hi)⟩⟩
theorem Bs.lt {w : World} {v : Value} {l : List Nat} (h : Bs w v l) : ∀ b, v.ownBlock = some b → b < w.heap.size := by
  obtain ⟨h0, a, cap, rfl, h1, h2, ⟨rfl, rfl, rfl⟩ | ⟨b, off, rfl, hlt, hc⟩⟩ := h
  · intro b hb; simp [Value.ownBlock] at hb
  · intro b' hb; simp [Value.ownBlock] at hb; omega
theorem Bs.below {w w' : World} {v : Value} {l : List Nat} (h : Bs w v l) (k : Below w.heap.size w w') : Bs w' v l :=
  h.of_blocks k.size fun b hb => k.block b (h.lt b hb)
theorem Bs.only {w w' : World} {v : Value} {l : List Nat} {r : Option Nat} (h : Bs w v l) (k : w.grownBy w' r) (hne : v.ownBlock = none ∨ v.ownBlock ≠ r) : Bs w' v l :=
  h.of_blocks k.size fun b hb => k.block b (h.lt b hb) (by rcases hne with h' | h' <;> simp_all)
theorem Bs.drewN {w : World} {v : Value} {l : List Nat} (h : Bs w v l) (n : Nat) : Bs (w.drewN n) v l := h.of_blocks (Nat.le_refl _) fun _ _ => rfl
theorem Bs.len {w : World} {v : Value} {l : List Nat} (h : Bs w v l) : l.length ≤ 9223372036854775807 := by
  obtain ⟨_, a, cap, _, h1, h2, _⟩ := h; omega

theorem bs_mk {w : World} {b off n cap : Nat} {l : List Nat} (hall : AllB l) (hn : l.length = n) (h1 : n ≤ cap) (h2 : cap ≤ 9223372036854775807) (hlt : b < w.heap.size)
    (hc : ∀ i, i < l.length → w.cell? ⟨b, off + i, none⟩ = some (bv (l.getD i 0))) : Bs w (.slice (some ⟨b, off, none⟩) n cap) l := by
  subst hn
  exact ⟨hall, _, cap, rfl, h1, h2, .inr ⟨b, off, rfl, hlt, hc⟩⟩
theorem getD_take (l : List Nat) (n i : Nat) (h : i < n) : (l.take n).getD i 0 = l.getD i 0 := by
  simp [List.getD, List.getElem?_take, h]
theorem getD_drop (l : List Nat) (n i : Nat) : (l.drop n).getD i 0 = l.getD (n + i) 0 := by
  simp [List.getD, List.getElem?_drop]
/-- A part of bytes: the first n. -/
theorem bs_take {w : World} {b off cap cap' n : Nat} {l : List Nat} (h : Bs w (.slice (some ⟨b, off, none⟩) l.length cap) l) (hn : n ≤ l.length) (h1 : n ≤ cap') (h2 : cap' ≤ 9223372036854775807) : Bs w (.slice (some ⟨b, off, none⟩) n cap') (l.take n) := by
  rcases h.cases with ⟨h', _⟩ | ⟨b', off', cap0, h', _, _, hlt, hc⟩
  · simp at h'
  · simp only [Value.slice.injEq, Option.some.injEq, Addr.mk.injEq, and_true, true_and] at h'
    obtain ⟨⟨rfl, rfl⟩, rfl⟩ := h'
    refine bs_mk (h.1.take n) (by rw [List.length_take]; omega) h1 h2 hlt fun i hi => ?_
    have hi' : i < n := by rw [List.length_take] at hi; omega
    rw [hc i (by omega), getD_take _ _ _ hi']
theorem bs_drop {w : World} {b off cap cap' n : Nat} {l : List Nat} (h : Bs w (.slice (some ⟨b, off, none⟩) l.length cap) l) (hn : n ≤ l.length) (h1 : l.length - n ≤ cap') (h2 : cap' ≤ 9223372036854775807) : Bs w (.slice (some ⟨b, off + n, none⟩) (l.length - n) cap') (l.drop n) := by
  rcases h.cases with ⟨h', _⟩ | ⟨b', off', cap0, h', _, _, hlt, hc⟩
  · simp at h'
  · simp only [Value.slice.injEq, Option.some.injEq, Addr.mk.injEq, and_true, true_and] at h'
    obtain ⟨⟨rfl, rfl⟩, rfl⟩ := h'
    refine bs_mk (h.1.drop n) (by rw [List.length_drop]) h1 h2 hlt fun i hi => ?_
    have hi' : i < l.length - n := by rw [List.length_drop] at hi; omega
    rw [getD_drop, Nat.add_assoc]
    exact hc (n + i) (by omega)
theorem bs_empty {w : World} {b off cap : Nat} (h2 : cap ≤ 9223372036854775807) (hlt : b < w.heap.size) : Bs w (.slice (some ⟨b, off, none⟩) 0 cap) [] :=
  bs_mk AllB.nil rfl (Nat.zero_le _) h2 hlt fun i hi => by simp at hi

/-- The slice v reads as the bytes l: of an argument, whose address is whatever it is where there is no byte. -/
def Rs (w : World) (v : Value) (l : List Nat) : Prop :=
  AllB l ∧ l.length ≤ 9223372036854775807 ∧ ((v = .slice none 0 0 ∧ l = []) ∨ ∃ x cap, v = .slice (some x) l.length cap ∧ (l.length ≤ cap ∧ cap ≤ 9223372036854775807) ∧ ∀ i, i < l.length → w.cell? (x.add i) = some (bv (l.getD i 0)))
theorem Rs.all {w : World} {v : Value} {l : List Nat} (h : Rs w v l) : AllB l := h.1
theorem Rs.len {w : World} {v : Value} {l : List Nat} (h : Rs w v l) : l.length ≤ 9223372036854775807 := h.2.1
theorem Rs.form {w : World} {v : Value} {l : List Nat} (h : Rs w v l) : ∃ a cap, v = .slice a l.length cap := by
  rcases h.2.2 with ⟨e, rfl⟩ | ⟨x, cap, e, _⟩
  · exact ⟨none, 0, e⟩
  · exact ⟨some x, cap, e⟩
theorem Rs.below {w w' : World} {v : Value} {l : List Nat} (h : Rs w v l) (k : Below w.heap.size w w') : Rs w' v l := by
  obtain ⟨h0, h1, h | ⟨x, cap, h, hcap, hc⟩⟩ := h
  · exact ⟨h0, h1, .inl h⟩
  · exact ⟨h0, h1, .inr ⟨x, cap, h, hcap, fun i hi => (k.cell (World.block_lt_of_cell? w _ (hc i hi))).trans (hc i hi)⟩⟩
/-- What is below B stays: a reading at w0, whose blocks lie below w0's end. -/
theorem Rs.from {w w' : World} {v : Value} {l : List Nat} {B : Nat} (h : Rs w v l) (hB : w.heap.size ≤ B) {w0 : World} (e : Below w.heap.size w w0) (k : Below B w0 w') : Rs w' v l := h.below (e.trans (k.mono hB))
theorem Bs.rs {w : World} {v : Value} {l : List Nat} (h : Bs w v l) : Rs w v l := by
  rcases h.cases with ⟨rfl, rfl⟩ | ⟨b, off, cap, rfl, h1, h2, _, hc⟩
  · exact ⟨h.1, by simp, .inl ⟨rfl, rfl⟩⟩
  · exact ⟨h.1, by omega, .inr ⟨_, cap, rfl, ⟨h1, h2⟩, fun i hi => by rw [Addr.add_lit]; exact hc i hi⟩⟩
/-- Where there is a byte the address is plain. -/
theorem Rs.at {w : World} {a : Option Addr} {n cap : Nat} {l : List Nat} (h : Rs w (.slice a n cap) l) {k : Nat} (hk : k < l.length) : ∃ b off, a = some ⟨b, off, none⟩ ∧ ∀ i, i < l.length → w.cell? ⟨b, off + i, none⟩ = some (bv (l.getD i 0)) := by
  rcases h.2.2 with ⟨_, rfl⟩ | ⟨x, cap', h', _, hc⟩
  · simp at hk
  · simp only [Value.slice.injEq] at h'
    obtain ⟨rfl, -, -⟩ := h'
    obtain ⟨b, off, spot⟩ := x
    have h0 := hc 0 (by omega)
    have hs : spot = none := by simpa [Addr.add] using World.cell?_spot h0
    subst hs
    exact ⟨b, off, rfl, fun i hi => by have := hc i hi; rwa [Addr.add_lit] at this⟩

/-! ### bytes of the call's own -/
def Own (w : World) (base : Nat) (v : Value) (l : List Nat) : Prop := AllB l ∧ w.ownsRow base 5 1 v l.length (l.map bv)

theorem Own.nil (w : World) (base : Nat) : Own w base (.slice none 0 0) [] := ⟨AllB.nil, World.ownsRow_nil _ _ _ _⟩
theorem Own.cases {w : World} {base : Nat} {v : Value} {l : List Nat} (h : Own w base v l) : (v = .slice none 0 0 ∧ l = []) ∨ ∃ g cap, v = .slice (some ⟨g, 0, none⟩) l.length cap ∧ base ≤ g ∧ g < w.heap.size ∧ l.length ≤ cap ∧ cap ≤ 9223372036854775807 ∧
    (∀ i, i < l.length → w.cell? ⟨g, i, none⟩ = some (bv (l.getD i 0))) ∧ ∀ i, w.frozen? ⟨g, i, none⟩ = false := by
  obtain ⟨h0, h1⟩ := h
  rcases h1.2 with ⟨rfl, hn⟩ | ⟨g, cap, cur, rfl, hb, hg, hn, hc, hs, ht⟩
  · exact .inl ⟨rfl, List.eq_nil_of_length_eq_zero hn⟩
  · refine .inr ⟨g, cap, rfl, hb, (Array.getElem?_eq_some_iff.1 hg).1, hn, hc, fun i hi => ?_, fun i => h1.frozenAt i⟩
    rw [h1.cellAt i (by omega)]
    simp [List.getD, hi]
theorem Own.bs {w : World} {base : Nat} {v : Value} {l : List Nat} (h : Own w base v l) : Bs w v l := by
  rcases h.cases with ⟨rfl, rfl⟩ | ⟨g, cap, rfl, _, hg, h1, h2, hc, _⟩
  · exact Bs.nil w
  · exact ⟨h.1, _, cap, rfl, h1, h2, .inr ⟨g, 0, rfl, hg, fun i hi => by rw [Nat.zero_add]; exact hc i hi⟩⟩
theorem Own.lt {w : World} {base : Nat} {v : Value} {l : List Nat} (h : Own w base v l) : ∀ g, v.ownBlock = some g → base ≤ g ∧ g < w.heap.size := h.2.lt
theorem Own.only {w w' : World} {base : Nat} {v : Value} {l : List Nat} {r : Option Nat} (h : Own w base v l) (k : w.grownBy w' r) (hne : v.ownBlock = none ∨ v.ownBlock ≠ r) : Own w' base v l := ⟨h.1, h.2.kept k hne⟩
theorem Own.below {w w' : World} {base : Nat} {v : Value} {l : List Nat} (h : Own w base v l) (k : Below w.heap.size w w') : Own w' base v l := h.only (only_of_below k none) (by cases hv : v.ownBlock <;> simp)
theorem Own.drewN {w : World} {base : Nat} {v : Value} {l : List Nat} (h : Own w base v l) (n : Nat) : Own (w.drewN n) base v l := h
theorem Own.alloc {w : World} {base : Nat} {v : Value} {l : List Nat} (h : Own w base v l) (o : Obj) : Own (w.alloc o) base v l := ⟨h.1, h.2.alloc o⟩
theorem Own.mono {w : World} {base base' : Nat} {v : Value} {l : List Nat} (h : Own w base v l) (hb : base' ≤ base) : Own w base' v l := by
  obtain ⟨h0, h1, h2⟩ := h
  refine ⟨h0, h1, ?_⟩
  rcases h2 with h2 | ⟨g, cap, cur, hv, hg, hh⟩
  · exact .inl h2
  · exact .inr ⟨g, cap, cur, hv, by omega, hh⟩
/-- A store into an owned row. -/
theorem Own.set {w : World} {base g cap n : Nat} {l : List Nat} (h : Own w base (.slice (some ⟨g, 0, none⟩) n cap) l) (i m : Nat) (hm : m < 256) :
    Own (w.setCell ⟨g, i, none⟩ (bv m)) base (.slice (some ⟨g, 0, none⟩) n cap) (l.set i m) ∧ w.grownBy (w.setCell ⟨g, i, none⟩ (bv m)) (some g) := by
  have hn : n = l.length := by
    rcases h.2.2 with ⟨h', _⟩ | ⟨g', cap', cur, h', _⟩
    · simp at h'
    · simp at h'; exact h'.2.1
  subst hn
  obtain ⟨h1, h2⟩ := h.2.stored i (bv m)
  refine ⟨⟨h.1.set i m hm, ?_⟩, h2⟩
  rw [List.length_set, List.map_set]
  exact h1
theorem Own.cellAt {w : World} {base g n cap : Nat} {l : List Nat} (h : Own w base (.slice (some ⟨g, 0, none⟩) n cap) l) {i : Nat} (hi : i < l.length) : w.cell? ⟨g, i, none⟩ = some (bv (l.getD i 0)) := by
  rcases h.cases with ⟨h', _⟩ | ⟨g', cap', h', _, _, _, _, hc, _⟩
  · simp at h'
  · simp only [Value.slice.injEq, Option.some.injEq, Addr.mk.injEq, and_true] at h'
    obtain ⟨rfl, -, -⟩ := h'
    exact hc i hi
theorem Own.frozenAt {w : World} {base g n cap : Nat} {l : List Nat} (h : Own w base (.slice (some ⟨g, 0, none⟩) n cap) l) (i : Nat) : w.frozen? ⟨g, i, none⟩ = false := by
  rcases h.cases with ⟨h', _⟩ | ⟨g', cap', h', _, _, _, _, _, hf⟩
  · simp at h'
  · simp only [Value.slice.injEq, Option.some.injEq, Addr.mk.injEq, and_true] at h'
    obtain ⟨rfl, -, -⟩ := h'
    exact hf i
/-- A literal that has just been built. -/
theorem own_built (w : World) (base : Nat) (l : List Nat) (hl : AllB l) (hb : base ≤ w.heap.size) (h63 : l.length ≤ 9223372036854775807) :
    Own (w.alloc (.cells (l.map bv).toArray 5)) base (.slice (some ⟨w.heap.size, 0, none⟩) l.length l.length) l :=
  ⟨hl, by simp, .inr ⟨w.heap.size, l.length, (l.map bv).toArray, rfl, hb, heap_alloc_new w _, Nat.le_refl _, h63, by simp, by simp [List.take_of_length_le]⟩⟩

/-! ### append, make at bytes -/
theorem info_u8 : (Tryd.prog.info? 5).map (fun i => (i.zero, i.size, i.bytes)) = some (some (.int .u8 0), 1, 1) := by kernel_rfl

theorem wpList_append_bs {w : World} {ops : Array Oper} {rest : List Oper} {o : Oper} {a : Act} {Q : Exit → Act → World → Prop} (hgd : o.guard = none) (s x : Operand)
    (ho : o.op = .call { callee := .builtin .append, args := #[s, x], argTypes := #[24, 24] })
    (base : Nat) (v : Value) (l : List Nat) (hs : a.eval s = v) (hown : Own w base v l) (x' : Value) (l2 : List Nat) (hx : a.eval x = x') (hsrc : Bs w x' l2)
    (hbytes : l.length + l2.length ≤ 140737488355328) (hbase : base ≤ w.heap.size)
    (h : ∀ v' w', Own w' base v' (l ++ l2) → w.grownBy w' v.ownBlock → wpList Tryd.prog ops Q rest (a.put o.dst v') w') : wpList Tryd.prog ops Q (o :: rest) a w := by
  obtain ⟨i0, hi, hz0, hz1, hz2⟩ := info_parts info_u8
  rcases hsrc.cases with ⟨rfl, rfl⟩ | ⟨b, off, cap, rfl, h1, h2, hb, hc⟩
  · refine wpList_append_own_none hgd s x 24 ho base 5 i0 1 Tryd.underlying24 hi v l.length (l.map bv) hs hown.2 hx ?_
    exact h v w (by rw [List.append_nil]; exact hown) (only_refl _ _)
  · refine wpList_append_own w hgd s x 24 ho base 5 i0 (.int .u8 0) 1 1 Tryd.underlying24 hi hz0 hz1 hz2 rfl (by decide) v l.length (l.map bv) hs hown.2 ⟨b, off, none⟩ l2.length cap (l2.map bv) hx (by simp) ?_ ?_ ?_ (by omega) hbase ?_
    · intro j u hj
      have hjl : j < l2.length := by
        rcases Nat.lt_or_ge j l2.length with h' | h'
        · exact h'
        · rw [List.getElem?_eq_none (by simpa using h')] at hj; cases hj
      rw [Addr.add_lit, hc j hjl]
      simp [hjl] at hj
      simp [List.getD, hjl, hj]
    · intro u hu
      obtain ⟨_, _, rfl⟩ := List.mem_map.1 hu
      rfl
    · unfold maxLen; omega
    · intro v' w' h3 h4 _
      refine h v' w' ⟨hown.1.append hsrc.1, ?_⟩ h4
      rw [List.length_append, List.map_append]
      exact h3

theorem wpList_make_bs {w : World} {ops : Array Oper} {rest : List Oper} {o : Oper} {a : Act} {Q : Exit → Act → World → Prop} (hgd : o.guard = none) (l c : Operand)
    (ho : o.op = Op.makeSlice 24 l c) (base : Nat) (kl kc : IntKind) (C : Int) (n : Nat) (hl : a.eval l = .int kl 0) (hc : a.eval c = .int kc C) (hC : C = (n : Int)) (hn : n ≤ 281474976710656) (hbase : base ≤ w.heap.size)
    (h : ∀ w', Own w' base (.slice (some ⟨w.heap.size, 0, none⟩) 0 n) [] → w.grownBy w' none → wpList Tryd.prog ops Q rest (a.put o.dst (.slice (some ⟨w.heap.size, 0, none⟩) 0 n)) w') : wpList Tryd.prog ops Q (o :: rest) a w := by
  obtain ⟨i0, hi, hz0, hz1, hz2⟩ := info_parts info_u8
  refine wpList_make_own w hgd l c 24 ho base 5 i0 (.int .u8 0) 1 Tryd.underlying24 hi hz0 hz1 kl kc C n hl hc hC (by rw [hz2]; omega) (by unfold maxLen; omega) hbase ?_
  intro w' h1 h2
  exact h w' ⟨AllB.nil, h1⟩ h2
theorem made_zeros (n : Nat) : (madeCells #[Value.int .u8 0] n).toList = (List.replicate n 0).map bv := by
  apply List.ext_getElem
  · simp [madeCells]
  · intro i h1 h2
    simp [madeCells, Nat.mod_one, bv]
theorem wpList_makefull_bs {w : World} {ops : Array Oper} {rest : List Oper} {o : Oper} {a : Act} {Q : Exit → Act → World → Prop} (hgd : o.guard = none) (l c : Operand)
    (ho : o.op = Op.makeSlice 24 l c) (base : Nat) (kl kc : IntKind) (L C : Int) (n : Nat) (hl : a.eval l = .int kl L) (hc : a.eval c = .int kc C) (hL : L = (n : Int)) (hC : C = (n : Int)) (hn : n ≤ 281474976710656) (hbase : base ≤ w.heap.size)
    (h : ∀ w', Own w' base (.slice (some ⟨w.heap.size, 0, none⟩) n n) (List.replicate n 0) → w.grownBy w' none → wpList Tryd.prog ops Q rest (a.put o.dst (.slice (some ⟨w.heap.size, 0, none⟩) n n)) w') : wpList Tryd.prog ops Q (o :: rest) a w := by
  obtain ⟨i0, hi, hz0, hz1, hz2⟩ := info_parts info_u8
  refine wpList_make_full w hgd l c 24 ho base 5 i0 (.int .u8 0) 1 Tryd.underlying24 hi hz0 hz1 kl kc L C n hl hc hL hC (by rw [hz2]; omega) (by unfold maxLen; omega) hbase ?_
  intro w' h1 h2
  refine h w' ⟨AllB.replicate _ _ (by omega), ?_⟩ h2
  rw [List.length_replicate, ← made_zeros]
  have e : (Value.int IntKind.u8 0).cells = #[Value.int IntKind.u8 0] := rfl
  rw [e, Nat.mul_one] at h1
  exact h1

theorem wpList_append_rs {w : World} {ops : Array Oper} {rest : List Oper} {o : Oper} {a : Act} {Q : Exit → Act → World → Prop} (hgd : o.guard = none) (s x : Operand)
    (ho : o.op = .call { callee := .builtin .append, args := #[s, x], argTypes := #[24, 24] })
    (base : Nat) (v : Value) (l : List Nat) (hs : a.eval s = v) (hown : Own w base v l) (x' : Value) (l2 : List Nat) (hx : a.eval x = x') (hsrc : Rs w x' l2)
    (hbytes : l.length + l2.length ≤ 140737488355328) (hbase : base ≤ w.heap.size)
    (h : ∀ v' w', Own w' base v' (l ++ l2) → w.grownBy w' v.ownBlock → wpList Tryd.prog ops Q rest (a.put o.dst v') w') : wpList Tryd.prog ops Q (o :: rest) a w := by
  obtain ⟨i0, hi, hz0, hz1, hz2⟩ := info_parts info_u8
  rcases hsrc.2.2 with ⟨rfl, rfl⟩ | ⟨ad, cap, rfl, _, hc⟩
  · refine wpList_append_own_none hgd s x 24 ho base 5 i0 1 Tryd.underlying24 hi v l.length (l.map bv) hs hown.2 hx ?_
    exact h v w (by rw [List.append_nil]; exact hown) (only_refl _ _)
  · refine wpList_append_own w hgd s x 24 ho base 5 i0 (.int .u8 0) 1 1 Tryd.underlying24 hi hz0 hz1 hz2 rfl (by decide) v l.length (l.map bv) hs hown.2 ad l2.length cap (l2.map bv) hx (by simp) ?_ ?_ ?_ (by omega) hbase ?_
    · intro j u hj
      have hjl : j < l2.length := by
        rcases Nat.lt_or_ge j l2.length with h' | h'
        · exact h'
        · rw [List.getElem?_eq_none (by simpa using h')] at hj; cases hj
      rw [hc j hjl]
      simp [hjl] at hj
      simp [List.getD, hjl, hj]
    · intro u hu
      obtain ⟨_, _, rfl⟩ := List.mem_map.1 hu
      rfl
    · unfold maxLen; omega
    · intro v' w' h3 h4 _
      refine h v' w' ⟨hown.1.append hsrc.1, ?_⟩ h4
      rw [List.length_append, List.map_append]
      exact h3

/-! ### slices of byte slices -/
def Bss (w : World) (v : Value) (ll : List (List Nat)) : Prop :=
  ∃ a cap, v = .slice a ll.length cap ∧ ll.length ≤ 9223372036854775807 ∧ (ll ≠ [] → ∃ b off, a = some ⟨b, off, none⟩ ∧ ∀ i, i < ll.length → ∃ u, w.cell? ⟨b, off + i, none⟩ = some u ∧ Rs w u (ll.getD i []))
theorem Bss.below {w w' : World} {v : Value} {ll : List (List Nat)} (h : Bss w v ll) (k : Below w.heap.size w w') : Bss w' v ll := by
  obtain ⟨a, cap, rfl, hl, h⟩ := h
  refine ⟨_, cap, rfl, hl, fun hne => ?_⟩
  obtain ⟨b, off, rfl, hc⟩ := h hne
  refine ⟨b, off, rfl, fun i hi => ?_⟩
  obtain ⟨u, hu, hb⟩ := hc i hi
  exact ⟨u, (k.cell (World.block_lt_of_cell? w _ hu)).trans hu, hb.below k⟩
theorem Bss.at {w : World} {a : Option Addr} {n cap : Nat} {ll : List (List Nat)} (h : Bss w (.slice a n cap) ll) {k : Nat} (hk : k < ll.length) : ∃ b off u, a = some ⟨b, off, none⟩ ∧ w.cell? ⟨b, off + k, none⟩ = some u ∧ Rs w u (ll.getD k []) := by
  obtain ⟨a', cap', h', _, h⟩ := h
  simp only [Value.slice.injEq] at h'
  obtain ⟨rfl, -, -⟩ := h'
  obtain ⟨b, off, rfl, hc⟩ := h (by rintro rfl; simp at hk)
  obtain ⟨u, hu, hb⟩ := hc k hk
  exact ⟨b, off, u, rfl, hu, hb⟩
theorem Bs.form {w : World} {v : Value} {l : List Nat} (h : Bs w v l) : ∃ a cap, v = .slice a l.length cap := by
  obtain ⟨_, a, cap, h, _⟩ := h; exact ⟨a, cap, h⟩
theorem Own.form {w : World} {base : Nat} {v : Value} {l : List Nat} (h : Own w base v l) : ∃ a cap, v = .slice a l.length cap := h.bs.form

theorem cell_new (w : World) (cs : Array Value) (t : TypeId) (i : Nat) (v : Value) (h : cs[i]? = some v) : (w.alloc (.cells cs t)).cell? ⟨w.heap.size, i, none⟩ = some v := by
  simp only [World.cell?, heap_alloc_new]
  simpa using h
/-- A literal of byte slices that has just been built. -/
theorem bss_built (w : World) (vs : List Value) (ll : List (List Nat)) (hl : vs.length = ll.length) (h63 : ll.length ≤ 9223372036854775807) (h : ∀ i u, vs[i]? = some u → Rs w u (ll.getD i [])) :
    Bss (w.alloc (.cells vs.toArray 24)) (.slice (some ⟨w.heap.size, 0, none⟩) ll.length ll.length) ll := by
  refine ⟨_, ll.length, rfl, h63, fun _ => ⟨w.heap.size, 0, rfl, fun i hi => ?_⟩⟩
  have hi' : i < vs.length := by omega
  have hg : vs[i]? = some vs[i] := List.getElem?_eq_getElem hi'
  refine ⟨vs[i], ?_, (h i _ hg).below ((Below.refl _ _).alloc (Nat.le_refl _) _)⟩
  rw [Nat.zero_add]
  exact cell_new _ _ _ _ _ (by simp)
theorem bss_two {w : World} {u v : Value} {a b : List Nat} (hu : Rs w u a) (hv : Rs w v b) : Bss (w.alloc (.cells #[u, v] 24)) (.slice (some ⟨w.heap.size, 0, none⟩) 2 2) [a, b] :=
  bss_built w [u, v] [a, b] rfl (by simp) fun i x hx => by
    match i with
    | 0 => simp at hx; subst hx; exact hu
    | 1 => simp at hx; subst hx; exact hv
    | _ + 2 => simp at hx

/-! ### what calls return -/
/-- What a call returns: bytes of its own. -/
def RetOwn (l : List Nat) (w : World) (e : Ending) (w' : World) : Prop := ∃ v, e = .returned v ∧ Own w' w.heap.size v l ∧ Below w.heap.size w w'
/-- What a put returns: bytes of its own and true, or nil and false. -/
def RetPut (o : Option (List Nat)) (w : World) (e : Ending) (w' : World) : Prop :=
  Below w.heap.size w w' ∧ ((o = none ∧ e = .returned (.tuple #[.slice none 0 0, .bool false])) ∨ ∃ l v, o = some l ∧ e = .returned (.tuple #[v, .bool true]) ∧ Own w' w.heap.size v l)

/-- What a comparison returns. -/
def RetBool (c : Bool) (w : World) (e : Ending) (w' : World) : Prop := e = .returned (.bool c) ∧ Below w.heap.size w w'

/-- How long a slice is. -/
def lenOf : Value → Nat
  | .slice _ n _ => n
  | _ => 0
end Go.Proofs.YtgalddnblciciaaDoor
