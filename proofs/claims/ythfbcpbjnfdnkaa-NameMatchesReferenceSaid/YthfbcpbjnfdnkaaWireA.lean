import Derived.Test.YthfbcpbjnfdnkaaMem
import Derived.Test.YthfbcpbjnfdnkaaWireMath
namespace Go.Proofs.Ythfbcpbjnfdnkaa
open Go.RowKit Go.Deep


set_option maxRecDepth 100000 in
set_option maxHeartbeats 400000 in
theorem clone_rs (v : Value) (l : List Nat) (w : World) (h : Rs w v l) (hb : l.length ≤ 140737488355328) :
    Calls Try.prog 43 #[v] w (RetOwn l w) := by
  have H := Lib.hid h
  rcases h.2.2 with ⟨rfl, rfl⟩ | ⟨x, cap, rfl, _, hc⟩
  · have hn := fun wx => Lib.run_eql_slice_nil (P := Try.prog) wx _ _ none 0 0 0 0 Try.underlying23
    clear h
    go_enter Try.func43, Try.ntmps43
    go_wp2
    go_ret
    exact ⟨_, rfl, Own.nil _ _, Below.refl _ _⟩
  · have hn := fun wx => Lib.run_eql_slice_nil (P := Try.prog) wx _ _ (some x) l.length cap 0 0 Try.underlying23
    clear h hc
    go_enter Try.func43, Try.ntmps43
    go_wp2_with (at_builtin; go_must (refine wpList_append_rs rfl _ _ rfl w.heap.size (.slice (some ⟨w.heap.size, 0, none⟩) 0 0) [] rfl (own_built w _ [] AllB.nil (Nat.le_refl _) (by simp)) _ l rfl (H.out.below ((Below.refl _ _).alloc (Nat.le_refl _) _)) (by simp; omega) (by simp) ?_; intro v1 w1 hown hgr))
    go_ret
    refine ⟨_, rfl, ?_, ?_⟩
    · simpa using hown
    · exact below_only ((Below.refl _ _).alloc (Nat.le_refl _) _) (Nat.le_refl _) hgr (fun g hg => by simp [Value.ownBlock] at hg; omega)
theorem clone_any (v : Value) (l : List Nat) (w : World) (h : Bs w v l) (hb : l.length ≤ 140737488355328) :
    Calls Try.prog 43 #[v] w (RetOwn l w) := clone_rs v l w h.rs hb

/-! ### the reader -/
/-- At block p lies a reader of the bytes r.l. -/
def Rd (w : World) (p : Nat) (r : Wir.R) : Prop :=
  ∃ v, w.heap[p]? = some (.cells #[v, .bool r.bad] 69 (0, 0)) ∧ Bs w v r.l ∧ ∀ b, v.ownBlock = some b → b < p

theorem Rd.lt {w : World} {p : Nat} {r : Wir.R} (h : Rd w p r) : p < w.heap.size := by
  obtain ⟨v, h, _⟩ := h
  exact (Array.getElem?_eq_some_iff.1 h).1
theorem Rd.below {w w' : World} {p : Nat} {r : Wir.R} (h : Rd w p r) (k : Below w.heap.size w w') : Rd w' p r := by
  have hlt := h.lt
  obtain ⟨v, h, hb, hn⟩ := h
  exact ⟨v, (k.block p hlt).trans h, hb.below k, hn⟩

theorem two_cells {w : World} {b : Nat} {x y : Value} {t : TypeId} (h : w.heap[b]? = some (.cells #[x, y] t (0, 0))) :
    w.cell? ⟨b, 0, none⟩ = some x ∧ w.cell? ⟨b, 1, none⟩ = some y ∧ w.frozen? ⟨b, 0, none⟩ = false ∧ w.frozen? ⟨b, 1, none⟩ = false := by
  simp [World.cell?, World.frozen?, h]
theorem two_set0 {w : World} {b : Nat} {x y u : Value} {t : TypeId} (h : w.heap[b]? = some (.cells #[x, y] t (0, 0))) : (w.setCell ⟨b, 0, none⟩ u).heap[b]? = some (.cells #[u, y] t (0, 0)) := by
  have := heap_setCell_same w b 0 #[x, y] t u h
  simpa using this
theorem two_set1 {w : World} {b : Nat} {x y u : Value} {t : TypeId} (h : w.heap[b]? = some (.cells #[x, y] t (0, 0))) : (w.setCell ⟨b, 1, none⟩ u).heap[b]? = some (.cells #[x, u] t (0, 0)) := by
  have := heap_setCell_same w b 1 #[x, y] t u h
  simpa using this

def RetNone (p : Nat) (r : Wir.R) (w : World) (e : Ending) (w' : World) : Prop := e = .returned (.tuple #[]) ∧ Rd w' p r ∧ w.grownBy w' (some p)

set_option maxRecDepth 100000 in
set_option maxHeartbeats 400000 in
theorem fail_any (p : Nat) (r : Wir.R) (w : World) (h : Rd w p r) :
    Calls Try.prog 46 #[.pointer (some ⟨p, 0, none⟩)] w (RetNone p Wir.failed w) := by
  obtain ⟨v, h, hb, hn⟩ := h
  obtain ⟨c0, c1, f0, f1⟩ := two_cells h
  have H := Lib.hid h; clear h
  clear hb hn
  go_enter Try.func46, Try.ntmps46
  go_wp2
  go_end0
  have h1 := two_set1 (u := .bool true) H.out
  have h2 := two_set0 (u := .slice none 0 0) h1
  exact ⟨rfl, ⟨_, h2, Bs.nil _, by simp [Value.ownBlock]⟩, only_set (only_set (only_refl _ _) _ _) _ _⟩

/-- What 'next' returns. -/
def RetNext (p : Nat) (r : Wir.R) (n : Nat) (w : World) (e : Ending) (w' : World) : Prop :=
  Rd w' p (Wir.next r n).1 ∧ w.grownBy w' (some p) ∧
    (((Wir.next r n).2 = none ∧ e = .returned (.tuple #[.slice none 0 0, .bool false])) ∨ ∃ l v, (Wir.next r n).2 = some l ∧ e = .returned (.tuple #[v, .bool true]) ∧ Bs w' v l ∧ v.ownBlock ≠ some p)

set_option maxRecDepth 100000 in
set_option maxHeartbeats 400000 in
theorem next_bad (p : Nat) (r : Wir.R) (n : Nat) (w : World) (h : Rd w p r) (hbad : r.bad = true) :
    Calls Try.prog 45 #[.pointer (some ⟨p, 0, none⟩), .int .u64 n] w (RetNext p r n w) := by
  have hr := h
  obtain ⟨v, h, hb, hn⟩ := h
  rw [hbad] at h
  obtain ⟨c0, c1, f0, f1⟩ := two_cells h
  have HR := Lib.hid hr; clear hr
  have H := Lib.hid h; clear h
  have HBAD := Lib.hid hbad; clear hbad
  clear hb hn
  go_enter Try.func45, Try.ntmps45
  go_wp2_with fail
  refine (fail_any p r _ HR.out).mono ?_
  rintro e w1 ⟨rfl, h1, h2⟩
  clear c0 c1 f0 f1
  go_wp2_with fail
  go_ret2
  have e1 : Wir.next r n = (Wir.failed, none) := by unfold Wir.next; rw [if_pos (.inl HBAD.out)]
  exact ⟨by rw [e1]; exact h1, h2, .inl ⟨by rw [e1], rfl⟩⟩

set_option maxRecDepth 100000 in
set_option maxHeartbeats 400000 in
theorem next_short (p : Nat) (r : Wir.R) (n : Nat) (w : World) (h : Rd w p r) (hbad : r.bad = false) (hlt : r.l.length < n) (h64 : n < 18446744073709551616) :
    Calls Try.prog 45 #[.pointer (some ⟨p, 0, none⟩), .int .u64 n] w (RetNext p r n w) := by
  have hr := h
  obtain ⟨v, h, hb, hn⟩ := h
  rw [hbad] at h
  have hlen := hb.len
  have hvs : ∃ a cap, v = .slice a r.l.length cap := by obtain ⟨_, a, cap, h, _⟩ := hb; exact ⟨a, cap, h⟩
  obtain ⟨a, cap, rfl⟩ := hvs
  obtain ⟨c0, c1, f0, f1⟩ := two_cells h
  have HR := Lib.hid hr; clear hr
  have H := Lib.hid h; clear h
  have HBAD := Lib.hid hbad; clear hbad
  clear hb hn
  go_enter Try.func45, Try.ntmps45
  go_wp2_with fail
  refine (fail_any p r _ HR.out).mono ?_
  rintro e w1 ⟨rfl, h1, h2⟩
  clear c0 c1 f0 f1
  go_wp2_with fail
  go_ret2
  have e1 : Wir.next r n = (Wir.failed, none) := by unfold Wir.next; rw [if_pos (.inr hlt)]
  exact ⟨by rw [e1]; exact h1, h2, .inl ⟨by rw [e1], rfl⟩⟩

theorem next_end {p : Nat} {r : Wir.R} {n : Nat} {w : World} {v v1 v2 : Value} (h : w.heap[p]? = some (.cells #[v, .bool false] 69 (0, 0))) (e : Wir.next r n = (⟨r.l.drop n, false⟩, some (r.l.take n)))
    (h1 : Bs w v1 (r.l.take n)) (n1 : ∀ b, v1.ownBlock = some b → b < p) (h2 : Bs w v2 (r.l.drop n)) (n2 : ∀ b, v2.ownBlock = some b → b < p) : RetNext p r n w (.returned (.tuple #[v1, .bool true])) (w.setCell ⟨p, 0, none⟩ v2) := by
  have m1 : v1.ownBlock ≠ some p := fun e => Nat.lt_irrefl _ (n1 _ e)
  have m2 : v2.ownBlock ≠ some p := fun e => Nat.lt_irrefl _ (n2 _ e)
  have ho : w.grownBy (w.setCell ⟨p, 0, none⟩ v2) (some p) := only_set (only_refl _ _) _ _
  refine ⟨?_, ho, .inr ⟨_, v1, by rw [e], rfl, h1.only ho (.inr m1), m1⟩⟩
  rw [e]
  exact ⟨v2, two_set0 h, h2.only ho (.inr m2), n2⟩

set_option maxRecDepth 100000 in
set_option maxHeartbeats 400000 in
theorem next_full (p : Nat) (r : Wir.R) (n : Nat) (w : World) (h : Rd w p r) (hbad : r.bad = false) (hle : n ≤ r.l.length) :
    Calls Try.prog 45 #[.pointer (some ⟨p, 0, none⟩), .int .u64 n] w (RetNext p r n w) := by
  obtain ⟨v, h, hb, hn⟩ := h
  rw [hbad] at h
  have hlen := hb.len
  have e1 : Wir.next r n = (⟨r.l.drop n, false⟩, some (r.l.take n)) := by unfold Wir.next; rw [if_neg (by rw [hbad]; simp; omega)]
  have E1 := Lib.hid e1; clear e1
  have HBS := Lib.hid hb
  clear hbad
  rcases hb.cases with ⟨rfl, hnil⟩ | ⟨b, off, cap, rfl, hcap, hmax, hblt, hc⟩
  · have hn0 : n = 0 := by rw [hnil] at hle; simpa using hle
    subst hn0
    obtain ⟨c0, c1, f0, f1⟩ := two_cells h
    have H := Lib.hid h; clear h
    have HN := Lib.hid hnil; clear hnil
    clear hb hn
    go_enter Try.func45, Try.ntmps45
    go_wp2_with fail
    go_ret2
    exact next_end H.out E1.out (by rw [HN.out]; exact Bs.nil _) (by simp [Value.ownBlock]) (by rw [HN.out]; exact Bs.nil _) (by simp [Value.ownBlock])
  · obtain ⟨c0, c1, f0, f1⟩ := two_cells h
    have H := Lib.hid h; clear h
    have HC := Lib.hid hc; clear hc
    clear hb
    go_enter Try.func45, Try.ntmps45
    go_wp2_with fail
    · go_ret2
      have hd : r.l.drop n = [] := List.drop_eq_nil_of_le (by omega)
      have h0 : r.l.length - n = 0 := by omega
      exact next_end H.out E1.out (bs_take HBS.out hle (Nat.le_refl _) (by omega)) hn (by rw [hd, h0]; exact bs_empty (by omega) hblt) hn
    · go_ret2
      exact next_end H.out E1.out (bs_take HBS.out hle (Nat.le_refl _) (by omega)) hn (bs_drop HBS.out hle (by omega) (by omega)) hn

theorem next_any (p : Nat) (r : Wir.R) (n : Int) (w : World) (h : Rd w p r) (hn : 0 ≤ n ∧ n < 18446744073709551616) :
    Calls Try.prog 45 #[.pointer (some ⟨p, 0, none⟩), .int .u64 n] w (RetNext p r n.toNat w) := by
  obtain ⟨m, rfl⟩ := Int.eq_ofNat_of_zero_le hn.1
  rw [Int.toNat_natCast]
  cases hb : r.bad with
  | true => exact next_bad p r m w h hb
  | false =>
    by_cases hl : r.l.length < m
    · exact next_short p r m w h hb hl (by omega)
    · exact next_full p r m w h hb (by omega)
end Go.Proofs.Ythfbcpbjnfdnkaa
