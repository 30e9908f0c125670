import Derived.Test.YthfbcpbjnfdnkaaRefA
namespace Go.Proofs.Ythfbcpbjnfdnkaa
open Go.RowKit Go.Deep

/-- What a comparison returns. -/
def RetBool (c : Bool) (w : World) (e : Ending) (w' : World) : Prop := e = .returned (.bool c) ∧ Below w.heap.size w w'

set_option maxRecDepth 100000 in
set_option maxHeartbeats 400000 in
theorem same_yes (va vb : Value) (l : List Nat) (w : World) (ha : Rs w va l) (hb : Rs w vb l) :
    Calls Try.prog 17 #[va, vb] w (RetBool true w) := by
  have hlen := ha.len
  obtain ⟨aa, ca, rfl⟩ := ha.form
  obtain ⟨ab, cb, rfl⟩ := hb.form
  have HA := Lib.hid ha
  have HB := Lib.hid hb
  clear ha hb
  obtain ⟨n, hn⟩ : ∃ n, n = l.length := ⟨_, rfl⟩
  rw [← hn] at hlen ⊢
  have HN := Lib.hid hn; clear hn
  go_enter Try.func17, Try.ntmps17
  go_wp2_with fail
  go_loopw [5] (fun i wr => ∃ k m : Nat, k ≤ n ∧ i = .int .i64 k ∧ wr = w.drewN m) (fun i _ => n - (intOf i).toNat)
  case atStart => exact ⟨0, 0, by omega, rfl, rfl⟩
  case round =>
    obtain ⟨k, m, hk, rfl, rfl⟩ := hrel
    by_cases hlt : k < n
    · obtain ⟨b1, o1, rfl, c1⟩ := HA.out.at (k := k) (by rw [← HN.out]; exact hlt)
      obtain ⟨b2, o2, rfl, c2⟩ := HB.out.at (k := k) (by rw [← HN.out]; exact hlt)
      have c1 := c1 k (by rw [← HN.out]; exact hlt)
      have c2 := c2 k (by rw [← HN.out]; exact hlt)
      generalize l.getD k 0 = x at c1 c2
      obtain ⟨wa, hwa⟩ : ∃ wa, wa = w.drewN m := ⟨_, rfl⟩
      have d1 : wa.cell? ⟨b1, o1 + k, none⟩ = some (bv x) := by rw [hwa]; exact c1
      have d2 : wa.cell? ⟨b2, o2 + k, none⟩ = some (bv x) := by rw [hwa]; exact c2
      rw [← hwa]
      have HW := Lib.hid hwa
      clear hwa c1 c2
      go_wp2_with fail
      go_quiet (fail)
      go_wp2_with fail
      go_roundw
      case rel => exact ⟨k + 1, m + nq, by omega, by go_num, by rw [HW.out, World.drewN_drewN]⟩
      case measure => simp [intOf]; omega
    · obtain rfl : k = n := by omega
      go_wp2_with fail
      go_ret
      exact ⟨rfl, below_drewN (Below.refl _ _) _⟩

set_option maxRecDepth 100000 in
set_option maxHeartbeats 400000 in
theorem refPutString_any (k : Int) (v : Value) (l : List Nat) (w : World) (h : Rs w v l) (hb : l.length ≤ 140737488355000) :
    Calls Try.prog 16 #[.int .i64 k, v] w (RetPut (Wir.putString k l) w) := by
  have H := Lib.hid h
  obtain ⟨a, cap, rfl⟩ := h.form
  clear h
  go_enter Try.func16, Try.ntmps16
  go_wp2_with fail
  refine (refPut_any k l.length _ (by omega)).mono ?_
  rintro e w1 ⟨hbel, ⟨ho, rfl⟩ | ⟨hd, vh, ho, rfl, hown⟩⟩
  · have HO := Lib.hid ho; clear ho
    have HB := Lib.hid hbel; clear hbel
    go_wp2_with fail
    go_ret2
    exact ⟨HB.out, .inl ⟨by unfold Wir.putString; rw [HO.out]; rfl, rfl⟩⟩
  · have HO := Lib.hid ho
    have hlen : hd.length ≤ 8 := by
      unfold Wir.putNumber at ho
      split at ho
      · simp at ho
      · split at ho
        · simp at ho; rw [← ho, Wir.enc_length]; omega
        · simp at ho
    clear ho
    have hsz := hbel.size
    have HB := Lib.hid hbel; clear hbel
    have HW := Lib.hid hown
    obtain ⟨va, vcap, rfl⟩ := hown.form
    clear hown
    go_wp2_with (at_builtin; go_must (refine wpList_append_rs rfl _ _ rfl w.heap.size _ _ rfl HW.out _ l rfl (H.out.below HB.out) (by omega) hsz ?_; intro v2 w2 hown2 hgr2))
    have hb2 := below_only HB.out (Nat.le_refl _) hgr2 (fun g hg => (HW.out.lt g hg).1)
    clear hgr2
    have HB2 := Lib.hid hb2; clear hb2
    have HO2 := Lib.hid hown2; clear hown2
    go_wp2_with fail
    go_ret2
    exact ⟨HB2.out, .inr ⟨_, _, by unfold Wir.putString; rw [HO.out]; rfl, rfl, HO2.out⟩⟩
end Go.Proofs.Ythfbcpbjnfdnkaa
