import Derived.Test.YthfbcpbjnfdnkaaWireC
namespace Go.Proofs.Ythfbcpbjnfdnkaa
open Go.RowKit Go.Deep

set_option maxRecDepth 100000 in
set_option maxHeartbeats 1000000 in
theorem join_any (v : Value) (ll : List (List Nat)) (w : World) (h : Bss w v ll) (hb : (Wir.join ll).length ≤ 140737488355328) :
    Calls Try.prog 19 #[v] w (RetOwn (Wir.join ll) w) := by
  have H := Lib.hid h
  obtain ⟨a, cap, rfl, hlen, -⟩ := h
  obtain ⟨n, hn⟩ : ∃ n, n = ll.length := ⟨_, rfl⟩
  rw [← hn] at hlen ⊢
  have HN := Lib.hid hn; clear hn
  go_enter Try.func19, Try.ntmps19
  go_wp2_with fail
  go_loop [3, 5, 11] (fun t _ i => ∃ k : Nat, k ≤ n ∧ i = .int .i64 k ∧ t = .int .i64 ↑(Wir.join (ll.take k)).length) (fun _ _ i => n - (intOf i).toNat)
  case atStart => exact ⟨0, by omega, rfl, rfl⟩
  case round =>
    obtain ⟨k, hk, rfl, rfl⟩ := hrel
    have hle := Wir.join_le ll k
    by_cases hlt : k < n
    · have hge := Wir.get_le ll k (by rw [← HN.out]; exact hlt)
      have hsn := Lib.hid (show (Wir.join (ll.take (k + 1))).length = (Wir.join (ll.take k)).length + (ll.getD k []).length by rw [Wir.join_snoc ll k (by rw [← HN.out]; exact hlt), List.length_append])
      obtain ⟨b, off, u, rfl, hu, hbs⟩ := H.out.at (k := k) (by rw [← HN.out]; exact hlt)
      obtain ⟨ua, ucap, rfl⟩ := hbs.form
      clear hbs
      generalize (ll.getD k []).length = m at hge hsn hu
      generalize (Wir.join (ll.take k)).length = t at hge hsn hle ⊢
      go_wp2_with fail
      go_round
      case rel => exact ⟨k + 1, by omega, by go_num, by rw [hsn.out]; rfl⟩
      case measure => simp [intOf]; omega
    · obtain rfl : k = n := by omega
      have htk : ll.take k = ll := List.take_of_length_le (by rw [HN.out]; exact Nat.le_refl _)
      rw [htk] at hle ⊢
      clear htk hlt hk
      obtain ⟨t, ht⟩ : ∃ t, t = (Wir.join ll).length := ⟨_, rfl⟩
      rw [← ht] at hle hb ⊢
      have HT := Lib.hid ht; clear ht
      go_wp2_with (at_make; go_must (refine wpList_make_bs rfl _ _ rfl w.heap.size _ _ _ t rfl rfl rfl (by omega) (Nat.le_refl _) ?_; intro w1 hown hgr))
      have hbel := below_of_only hgr
      clear hgr
      go_loopw [6, 8, 24] (fun v _ i wr => ∃ j : Nat, j ≤ k ∧ i = .int .i64 j ∧ Own wr w.heap.size v (Wir.join (ll.take j)) ∧ Below w.heap.size w wr) (fun _ _ i _ => k - (intOf i).toNat)
      case atStart => exact ⟨0, by omega, rfl, hown, hbel⟩
      case round =>
        clear hown hbel
        obtain ⟨j, hj, rfl, hown, hbel⟩ := hrel
        have hsz := hbel.size
        have HO := Lib.hid hown
        have HB := Lib.hid hbel
        by_cases hlt : j < k
        · have hge := Wir.get_le ll j (by rw [← HN.out]; exact hlt)
          have hsn := Lib.hid (Wir.join_snoc ll j (by rw [← HN.out]; exact hlt))
          have HSS := Lib.hid (H.out.below hbel)
          clear hbel
          obtain ⟨b, off, u, rfl, hu, hbs⟩ := HSS.out.at (k := j) (by rw [← HN.out]; exact hlt)
          have HBS := Lib.hid hbs
          obtain ⟨ua, ucap, rfl⟩ := hbs.form
          obtain ⟨va, vcap, rfl⟩ := hown.form
          clear hbs hown
          have hbnd : (Wir.join (ll.take j)).length + (ll.getD j []).length ≤ 140737488355328 := by have := HT.out; omega
          go_wp2_with (at_builtin; go_must (refine wpList_append_rs rfl _ _ rfl w.heap.size _ _ rfl HO.out _ (ll.getD j []) rfl HBS.out hbnd hsz ?_; intro v2 w2 hown2 hgr2))
          have hb2 := below_only HB.out (Nat.le_refl _) hgr2 (fun g hg => (HO.out.lt g hg).1)
          clear hgr2
          go_wp2_with fail
          go_roundw
          case rel => exact ⟨j + 1, by omega, by go_num, by rw [hsn.out]; exact hown2, hb2⟩
          case measure => simp [intOf]; omega
        · obtain rfl : j = k := by omega
          clear hown hbel
          go_wp2_with fail
          go_ret
          have ht2 : ll.take j = ll := List.take_of_length_le (by rw [HN.out]; exact Nat.le_refl _)
          have := HO.out
          rw [ht2] at this
          exact ⟨_, rfl, this, HB.out⟩
end Go.Proofs.Ythfbcpbjnfdnkaa
