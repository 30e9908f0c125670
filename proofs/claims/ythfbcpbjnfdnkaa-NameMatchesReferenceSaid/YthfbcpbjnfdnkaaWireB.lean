import Derived.Test.YthfbcpbjnfdnkaaWireA
namespace Go.Proofs.Ythfbcpbjnfdnkaa
open Go.RowKit Go.Deep

theorem next_len {r : Wir.R} {n : Nat} {l : List Nat} (h : (Wir.next r n).2 = some l) : l.length = n := by
  unfold Wir.next at h
  split at h
  · simp at h
  · rename_i hc
    simp at h
    subst h
    rw [List.length_take]
    have : ¬ r.l.length < n := fun h => hc (.inr h)
    omega
theorem or_byte (x c : Nat) (hx : x < 72057594037927936) (hc : c < 256) : bits .or .u64 ((x : Int) * 256) (c : Int) = ((x * 256 + c : Nat) : Int) := by
  have e : (x : Int) * 256 = ((x * 256 : Nat) : Int) := by omega
  rw [e, u64_or_nat _ _ (by omega) (by omega)]
  congr 1
  have := Nat.two_pow_add_eq_or_of_lt (i := 8) (b := c) (by omega) x
  rw [Nat.mul_comm] at this
  exact this.symm
theorem pow_7 (k : Nat) (h : k ≤ 7) : 256 ^ k ≤ 72057594037927936 := by
  have := Nat.pow_le_pow_right (n := 256) (by omega) h
  simpa using this

/-- What 'number' returns. -/
def RetNumber (p : Nat) (r : Wir.R) (k : Int) (w : World) (e : Ending) (w' : World) : Prop :=
  Rd w' p (Wir.number r k).1 ∧ w.grownBy w' (some p) ∧
    (((Wir.number r k).2 = none ∧ e = .returned (.tuple #[.int .u64 0, .bool false])) ∨ ∃ x : Nat, (Wir.number r k).2 = some x ∧ e = .returned (.tuple #[.int .u64 x, .bool true]))

theorem number_bad {r : Wir.R} {k : Int} (h : k < 1 ∨ 8 < k) : Wir.number r k = (Wir.failed, none) := by unfold Wir.number; rw [if_pos h]
theorem number_ok {r : Wir.R} {k : Int} (h : 1 ≤ k ∧ k ≤ 8) : Wir.number r k = ((Wir.next r k.toNat).1, (Wir.next r k.toNat).2.map Wir.be) := by unfold Wir.number; rw [if_neg (by omega)]

set_option maxRecDepth 100000 in
set_option maxHeartbeats 400000 in
theorem number_out (p : Nat) (r : Wir.R) (k : Int) (w : World) (h : Rd w p r) (hk : k < 1 ∨ 8 < k) :
    Calls Try.prog 44 #[.pointer (some ⟨p, 0, none⟩), .int .i64 k] w (RetNumber p r k w) := by
  have HR := Lib.hid h; clear h
  have E := Lib.hid (number_bad (r := r) hk)
  by_cases h1 : k < 1
  · clear hk
    go_enter Try.func44, Try.ntmps44
    go_wp2_with fail
    refine (fail_any p r _ HR.out).mono ?_
    rintro e w1 ⟨rfl, h1, h2⟩
    go_wp2_with fail
    go_ret2
    exact ⟨by rw [E.out]; exact h1, h2, .inl ⟨by rw [E.out], rfl⟩⟩
  · have h8 : 8 < k := by omega
    clear hk
    go_enter Try.func44, Try.ntmps44
    go_wp2_with fail
    refine (fail_any p r _ HR.out).mono ?_
    rintro e w1 ⟨rfl, h1, h2⟩
    go_wp2_with fail
    go_ret2
    exact ⟨by rw [E.out]; exact h1, h2, .inl ⟨by rw [E.out], rfl⟩⟩

set_option maxRecDepth 100000 in
set_option maxHeartbeats 400000 in
theorem number_in (p : Nat) (r : Wir.R) (k : Nat) (w : World) (h : Rd w p r) (hk1 : 1 ≤ k) (hk8 : k ≤ 8) :
    Calls Try.prog 44 #[.pointer (some ⟨p, 0, none⟩), .int .i64 k] w (RetNumber p r k w) := by
  have HR := Lib.hid h; clear h
  have E := Lib.hid (number_ok (r := r) (k := (k : Int)) (by omega))
  go_enter Try.func44, Try.ntmps44
  go_wp2_with fail
  refine (next_any p r _ _ HR.out (by omega)).mono ?_
  rintro e w1 ⟨h1, h2, h3⟩
  rw [Int.toNat_natCast] at h1 h3
  have H1 := Lib.hid h1; clear h1
  have H2 := Lib.hid h2; clear h2
  rcases h3 with ⟨hn, rfl⟩ | ⟨l, v, hs, rfl, hbs, hne⟩
  · have HN := Lib.hid hn; clear hn
    go_wp2_with fail
    go_ret2
    have E2 := E.out
    rw [Int.toNat_natCast, HN.out] at E2
    exact ⟨by rw [E2]; exact H1.out, H2.out, .inl ⟨by rw [E2]; rfl, rfl⟩⟩
  · have hlen := next_len hs
    have HS := Lib.hid hs; clear hs
    have hall := hbs.all
    have fin : RetNumber p r k w (.returned (.tuple #[.int .u64 ↑(Wir.be l), .bool true])) w1 := by
      have E2 := E.out
      rw [Int.toNat_natCast, HS.out] at E2
      exact ⟨by rw [E2]; exact H1.out, H2.out, .inr ⟨_, by rw [E2]; rfl, rfl⟩⟩
    have FIN := Lib.hid fin; clear fin
    clear E HR
    rcases hbs.cases with ⟨rfl, hnil⟩ | ⟨b, off, cap, rfl, hcap, hmax, hblt, hc⟩
    · rw [hnil] at hlen; simp at hlen; omega
    · rw [hlen] at hcap ⊢
      have HL := Lib.hid hlen
      have HC := Lib.hid hc; clear hc
      have HA := Lib.hid hall; clear hall
      clear hlen hbs
      go_wp2_with fail
      go_loop [8, 10, 30] (fun x _ i => ∃ j : Nat, j ≤ k ∧ i = .int .i64 j ∧ x = .int .u64 ↑(Wir.be (l.take j))) (fun _ _ i => k - (intOf i).toNat)
      case atStart => exact ⟨0, by omega, rfl, rfl⟩
      case round =>
        obtain ⟨j, hj, rfl, rfl⟩ := hrel
        by_cases hlt : j < k
        · have hc := HC.out j (by rw [HL.out]; exact hlt)
          have hx : Wir.be (l.take j) < 72057594037927936 := Nat.lt_of_lt_of_le (Wir.be_lt l HA.out j (by rw [HL.out]; omega)) (pow_7 j (by omega))
          have hb := AllB.get HA.out j
          have HS2 := Lib.hid (Wir.be_snoc l j (by rw [HL.out]; exact hlt))
          generalize l.getD j 0 = c at hc hb HS2
          generalize Wir.be (l.take j) = x at hx HS2 ⊢
          have eor := or_byte x c hx hb
          go_wp2_with fail
          go_round
          case rel => exact ⟨j + 1, by omega, by go_num, by rw [HS2.out]; rfl⟩
          case measure => simp [intOf]; omega
        · obtain rfl : j = k := by omega
          clear hlt hj
          have ht : l.take j = l := List.take_of_length_le (by rw [HL.out]; exact Nat.le_refl _)
          rw [ht]
          clear ht
          go_wp2_with fail
          go_ret2
          exact FIN.out

theorem number_any (p : Nat) (r : Wir.R) (k : Int) (w : World) (h : Rd w p r) :
    Calls Try.prog 44 #[.pointer (some ⟨p, 0, none⟩), .int .i64 k] w (RetNumber p r k w) := by
  by_cases hk : k < 1 ∨ 8 < k
  · exact number_out p r k w h hk
  · obtain ⟨m, rfl⟩ := Int.eq_ofNat_of_zero_le (show 0 ≤ k by omega)
    exact number_in p r m w h (by omega) (by omega)

/-- What the reader's Number returns. -/
def RetU64 (p : Nat) (r : Wir.R) (k : Int) (w : World) (e : Ending) (w' : World) : Prop :=
  e = .returned (.int .u64 ↑((Wir.number r k).2.getD 0)) ∧ Rd w' p (Wir.number r k).1 ∧ w.grownBy w' (some p)

set_option maxRecDepth 100000 in
set_option maxHeartbeats 400000 in
theorem rNumber_any (p : Nat) (r : Wir.R) (k : Int) (w : World) (h : Rd w p r) :
    Calls Try.prog 20 #[.pointer (some ⟨p, 0, none⟩), .int .i64 k] w (RetU64 p r k w) := by
  have HR := Lib.hid h; clear h
  go_enter Try.func20, Try.ntmps20
  go_wp2_with fail
  refine (number_any p r k _ HR.out).mono ?_
  rintro e w1 ⟨h1, h2, h3⟩
  rcases h3 with ⟨hn, rfl⟩ | ⟨x, hs, rfl⟩
  · have HN := Lib.hid hn; clear hn
    go_wp2_with fail
    go_ret
    exact ⟨by rw [HN.out]; rfl, h1, h2⟩
  · have HS := Lib.hid hs; clear hs
    go_wp2_with fail
    go_ret
    exact ⟨by rw [HS.out]; rfl, h1, h2⟩

/-- What a read of bytes returns. -/
def RetRead (p : Nat) (r : Wir.R) (l : List Nat) (w : World) (e : Ending) (w' : World) : Prop :=
  ∃ v, e = .returned v ∧ Own w' w.heap.size v l ∧ Rd w' p r ∧ w.grownBy w' (some p)

set_option maxRecDepth 100000 in
set_option maxHeartbeats 400000 in
theorem rTake_any (p : Nat) (r : Wir.R) (n : Int) (w : World) (h : Rd w p r) (hn : n ≤ 9223372036854775807) (hb : r.l.length ≤ 140737488355328) :
    Calls Try.prog 24 #[.pointer (some ⟨p, 0, none⟩), .int .i64 n] w (RetRead p (Wir.take r n).1 (Wir.take r n).2 w) := by
  have HR := Lib.hid h; clear h
  by_cases h0 : n < 0
  · have E := Lib.hid (show Wir.take r n = (Wir.failed, []) by unfold Wir.take; rw [if_pos h0])
    go_enter Try.func24, Try.ntmps24
    go_wp2_with fail
    refine (fail_any p r _ HR.out).mono ?_
    rintro e w1 ⟨rfl, h1, h2⟩
    go_wp2_with fail
    go_ret
    exact ⟨_, rfl, by rw [E.out]; exact Own.nil _ _, by rw [E.out]; exact h1, h2⟩
  · have E := Lib.hid (show Wir.take r n = ((Wir.next r n.toNat).1, (Wir.next r n.toNat).2.getD []) by unfold Wir.take; rw [if_neg h0])
    go_enter Try.func24, Try.ntmps24
    go_wp2_with fail
    refine (next_any p r _ _ HR.out (by omega)).mono ?_
    rintro e w1 ⟨h1, h2, h3⟩
    have H1 := Lib.hid h1; clear h1
    have H2 := Lib.hid h2; clear h2
    rcases h3 with ⟨hn, rfl⟩ | ⟨l, v, hs, rfl, hbs, hne⟩
    · have HN := Lib.hid hn; clear hn
      go_wp2_with fail
      go_ret
      exact ⟨_, rfl, by rw [E.out, HN.out]; exact Own.nil _ _, by rw [E.out]; exact H1.out, H2.out⟩
    · have hll : l.length ≤ r.l.length := by
        unfold Wir.next at hs
        split at hs
        · simp at hs
        · simp at hs; rw [← hs, List.length_take]; omega
      have HS := Lib.hid hs; clear hs
      have HB := Lib.hid hbs; clear hbs
      go_wp2_with fail
      refine (clone_any v l _ HB.out (by omega)).mono ?_
      rintro e w2 ⟨v2, rfl, hown, hbel⟩
      go_wp2_with fail
      go_ret
      exact ⟨_, rfl, by rw [E.out, HS.out]; exact hown.mono H2.out.size, by rw [E.out]; exact H1.out.below hbel, only_below H2.out hbel⟩

theorem string_none {r : Wir.R} {k : Int} (h : (Wir.number r k).2 = none) : Wir.string r k = ((Wir.number r k).1, []) := by
  unfold Wir.string
  split
  · rename_i r' h'; rw [h']
  · rename_i r' n h'; rw [h'] at h; cases h
theorem string_some {r : Wir.R} {k : Int} {n : Nat} (h : (Wir.number r k).2 = some n) : Wir.string r k = ((Wir.next (Wir.number r k).1 n).1, (Wir.next (Wir.number r k).1 n).2.getD []) := by
  unfold Wir.string
  split
  · rename_i r' h'; rw [h'] at h; cases h
  · rename_i r' m h'; rw [h'] at h ⊢; simp at h; subst h; rfl
theorem number_lt {r : Wir.R} {k : Int} {n : Nat} (hr : AllB r.l) (h : (Wir.number r k).2 = some n) : n < 18446744073709551616 := by
  unfold Wir.number at h
  split at h
  · simp at h
  · rename_i hk
    simp at h
    obtain ⟨l, hl, rfl⟩ := h
    have hlen := next_len hl
    have hall : AllB l := by
      unfold Wir.next at hl
      split at hl
      · simp at hl
      · simp at hl; rw [← hl]; exact hr.take _
    have := Wir.be_lt l hall l.length (Nat.le_refl _)
    rw [List.take_length] at this
    have h8 := Nat.pow_le_pow_right (n := 256) (by omega) (show l.length ≤ 8 by omega)
    have : Wir.be l < 256 ^ 8 := Nat.lt_of_lt_of_le this h8
    simpa using this
theorem number_le {r : Wir.R} {k : Int} : (Wir.number r k).1.l.length ≤ r.l.length := by
  unfold Wir.number
  split
  · simp [Wir.failed]
  · unfold Wir.next
    split
    · simp [Wir.failed]
    · simp

set_option maxRecDepth 100000 in
set_option maxHeartbeats 400000 in
theorem rString_any (p : Nat) (r : Wir.R) (k : Int) (w : World) (h : Rd w p r) (hb : r.l.length ≤ 140737488355328) :
    Calls Try.prog 21 #[.pointer (some ⟨p, 0, none⟩), .int .i64 k] w (RetRead p (Wir.string r k).1 (Wir.string r k).2 w) := by
  have hall : AllB r.l := by obtain ⟨_, _, h, _⟩ := h; exact h.all
  have HALL := Lib.hid hall; clear hall
  have HR := Lib.hid h; clear h
  go_enter Try.func21, Try.ntmps21
  go_wp2_with fail
  refine (number_any p r k _ HR.out).mono ?_
  rintro e w1 ⟨h1, h2, h3⟩
  have H1 := Lib.hid h1; clear h1
  have H2 := Lib.hid h2; clear h2
  rcases h3 with ⟨hn, rfl⟩ | ⟨x, hs, rfl⟩
  · have HN := Lib.hid hn; clear hn
    go_wp2_with fail
    go_ret
    exact ⟨_, rfl, by rw [string_none HN.out]; exact Own.nil _ _, by rw [string_none HN.out]; exact H1.out, H2.out⟩
  · have hx := number_lt HALL.out hs
    have HS := Lib.hid hs; clear hs
    go_wp2_with fail
    refine (next_any p _ _ _ H1.out (by omega)).mono ?_
    rintro e w2 ⟨h1, h2, h3⟩
    rw [Int.toNat_natCast] at h1 h3
    have H3 := Lib.hid h1; clear h1
    have H4 := Lib.hid (only_trans H2.out h2); clear h2
    rcases h3 with ⟨hn, rfl⟩ | ⟨l, v, hs, rfl, hbs, hne⟩
    · have HN := Lib.hid hn; clear hn
      go_wp2_with fail
      go_ret
      exact ⟨_, rfl, by rw [string_some HS.out, HN.out]; exact Own.nil _ _, by rw [string_some HS.out]; exact H3.out, H4.out⟩
    · have hll : l.length ≤ r.l.length := by
        have := number_le (r := r) (k := k)
        unfold Wir.next at hs
        split at hs
        · simp at hs
        · simp at hs; rw [← hs, List.length_take]; omega
      have HS2 := Lib.hid hs; clear hs
      have HB := Lib.hid hbs; clear hbs
      go_wp2_with fail
      refine (clone_any v l _ HB.out (by omega)).mono ?_
      rintro e w3 ⟨v2, rfl, hown, hbel⟩
      go_wp2_with fail
      go_ret
      exact ⟨_, rfl, by rw [string_some HS.out, HS2.out]; exact hown.mono H4.out.size, by rw [string_some HS.out]; exact H3.out.below hbel, only_below H4.out hbel⟩
end Go.Proofs.Ythfbcpbjnfdnkaa
