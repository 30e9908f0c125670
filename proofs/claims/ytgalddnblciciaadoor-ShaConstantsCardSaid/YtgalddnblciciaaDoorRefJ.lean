/- The reference's Join, Same: walked. -/
import Derived.Test.YtgalddnblciciaaDoorMem
import Derived.Test.YtgalddnblciciaaDoorWireMath
namespace Go.Proofs.YtgalddnblciciaaDoor
open Go.RowKit Go.Deep

set_option maxRecDepth 100000 in
set_option maxHeartbeats 400000 in
theorem refJoin_any (v : Value) (ll : List (List Nat)) (w : World) (h : Bss w v ll) (hb : (Wir.join ll).length ≤ 140737488355328) :
    Calls Tryd.prog 14 #[v] w (RetOwn (Wir.join ll) w) := by
  have H := Lib.hid h
  obtain ⟨a, cap, rfl, hlen, -⟩ := h
  obtain ⟨n, hn⟩ : ∃ n, n = ll.length := ⟨_, rfl⟩
  rw [← hn] at hlen ⊢
  have HN := Lib.hid hn; clear hn
  go_enter Tryd.func14, Tryd.ntmps14
  go_wp2_with fail
  go_loopw [3, 4] (fun v i wr => ∃ j : Nat, j ≤ n ∧ i = .int .i64 j ∧ Own wr w.heap.size v (Wir.join (ll.take j)) ∧ Below w.heap.size w wr) (fun _ i _ => n - (intOf i).toNat)
  case atStart => exact ⟨0, by omega, rfl, Own.nil _ _, Below.refl _ _⟩
  case round =>
    obtain ⟨j, hj, rfl, hown, hbel⟩ := hrel
    have hsz := hbel.size
    have HO := Lib.hid hown
    have HB := Lib.hid hbel
    by_cases hlt : j < n
    · have hge := Wir.get_le ll j (by rw [← HN.out]; exact hlt)
      have hsn := Lib.hid (Wir.join_snoc ll j (by rw [← HN.out]; exact hlt))
      have hss := H.out.below hbel
      clear hbel
      obtain ⟨b, off, u, rfl, hu, hbs⟩ := hss.at (k := j) (by rw [← HN.out]; exact hlt)
      have HBS := Lib.hid hbs
      obtain ⟨ua, ucap, rfl⟩ := hbs.form
      obtain ⟨va, vcap, rfl⟩ := hown.form
      clear hss hbs hown
      have hbnd : (Wir.join (ll.take j)).length + (ll.getD j []).length ≤ 140737488355328 := by omega
      go_wp2_with (at_builtin; go_must (refine wpList_append_rs rfl _ _ rfl w.heap.size _ _ rfl HO.out _ (ll.getD j []) rfl HBS.out hbnd hsz ?_; intro v2 w2 hown2 hgr2))
      have hb2 := below_only HB.out (Nat.le_refl _) hgr2 (fun g hg => (HO.out.lt g hg).1)
      clear hgr2
      go_wp2_with fail
      go_roundw
      case rel => exact ⟨j + 1, by omega, by go_num, by rw [hsn.out]; exact hown2, hb2⟩
      case measure => simp [intOf]; omega
    · obtain rfl : j = n := by omega
      clear hown hbel
      go_wp2_with fail
      go_ret
      have ht2 : ll.take j = ll := List.take_of_length_le (by rw [HN.out]; exact Nat.le_refl _)
      have := HO.out
      rw [ht2] at this
      exact ⟨_, rfl, this, HB.out⟩

set_option maxRecDepth 100000 in
set_option maxHeartbeats 400000 in
theorem same_yes (va vb : Value) (l : List Nat) (w : World) (ha : Rs w va l) (hb : Rs w vb l) :
    Calls Tryd.prog 26 #[va, vb] w (RetBool true w) := by
  have hlen := ha.len
  obtain ⟨aa, ca, rfl⟩ := ha.form
  obtain ⟨ab, cb, rfl⟩ := hb.form
  have HA := Lib.hid ha
  have HB := Lib.hid hb
  clear ha hb
  obtain ⟨n, hn⟩ : ∃ n, n = l.length := ⟨_, rfl⟩
  rw [← hn] at hlen ⊢
  have HN := Lib.hid hn; clear hn
  go_enter Tryd.func26, Tryd.ntmps26
  go_wp2_with fail
  go_loopw [5] (fun i wr => ∃ k m : Nat, k ≤ n ∧ i = .int .i64 k ∧ wr = w.drewN m) (fun i _ => n - (intOf i).toNat)
  case atStart => exact ⟨0, 0, by omega, rfl, rfl⟩
  case round =>
    obtain ⟨k, m, hk, rfl, rfl⟩ := hrel
    by_cases hlt : k < n
    · obtain ⟨b1, o1, rfl, c1⟩ := HA.out.at (k := k) (by rw [← HN.out]; exact hlt)
      obtain ⟨b2, o2, rfl, c2⟩ := HB.out.at (k := k) (by rw [← HN.out]; exact hlt)
      have c1 := c1 k (by rw [← HN.out]; exact hlt)
      have c2 := c2 k (by rw [← HN.out]; exact hlt)
      generalize l.getD k 0 = x at c1 c2
      obtain ⟨wa, hwa⟩ : ∃ wa, wa = w.drewN m := ⟨_, rfl⟩
      have d1 : wa.cell? ⟨b1, o1 + k, none⟩ = some (bv x) := by rw [hwa]; exact c1
      have d2 : wa.cell? ⟨b2, o2 + k, none⟩ = some (bv x) := by rw [hwa]; exact c2
      rw [← hwa]
      have HW := Lib.hid hwa
      clear hwa c1 c2
      go_wp2_with fail
      go_quiet (fail)
      go_wp2_with fail
      go_roundw
      case rel => exact ⟨k + 1, m + nq, by omega, by go_num, by rw [HW.out, World.drewN_drewN]⟩
      case measure => simp [intOf]; omega
    · obtain rfl : k = n := by omega
      go_wp2_with fail
      go_ret
      exact ⟨rfl, below_drewN (Below.refl _ _) _⟩


theorem take_next (l m : List Nat) (k : Nat) (hl : k < l.length) (hm : k < m.length) (h : l.take k = m.take k) (e : l.getD k 0 = m.getD k 0) : l.take (k + 1) = m.take (k + 1) := by
  have e' : l[k] = m[k] := by simpa [List.getD, hl, hm] using e
  rw [List.take_succ_eq_append_getElem hl, List.take_succ_eq_append_getElem hm, h, e']
/-- Whether two lists are the same, behind a name that the walk does not open. -/
def sameB (l m : List Nat) : Bool := decide (l = m)
theorem sameB_yes {l m : List Nat} (h : l = m) : sameB l m = true := by unfold sameB; simp [h]
theorem sameB_no {l m : List Nat} (h : l ≠ m) : sameB l m = false := by unfold sameB; simp [h]
attribute [irreducible] sameB

set_option maxRecDepth 100000 in
set_option maxHeartbeats 1000000 in
theorem same_any (va vb : Value) (l m : List Nat) (w : World) (ha : Rs w va l) (hb : Rs w vb m) :
    Calls Tryd.prog 26 #[va, vb] w (RetBool (sameB l m) w) := by
  by_cases hlm : l.length = m.length
  case neg =>
    have E := Lib.hid (sameB_no (l := l) (m := m) (fun h => hlm (by rw [h])))
    obtain ⟨aa, ca, rfl⟩ := ha.form
    obtain ⟨ab, cb, rfl⟩ := hb.form
    have l1 := ha.len
    have l2 := hb.len
    clear ha hb
    have hd : (((l.length : Nat) : Int) != ((m.length : Nat) : Int)) = true := by rw [bne_iff_ne]; omega
    go_enter Tryd.func26, Tryd.ntmps26
    go_wp2_with fail
    go_ret
    exact ⟨by rw [E.out]; rfl, Below.refl _ _⟩
  case pos =>
    have hlen := ha.len
    obtain ⟨aa, ca, rfl⟩ := ha.form
    obtain ⟨ab, cb, rfl⟩ := hb.form
    have HA := Lib.hid ha
    have HB := Lib.hid hb
    clear ha hb
    rw [← hlm]
    obtain ⟨n, hn⟩ : ∃ n, n = l.length := ⟨_, rfl⟩
    rw [← hn] at hlen hlm ⊢
    have HN := Lib.hid hn; clear hn
    have HM := Lib.hid hlm; clear hlm
    go_enter Tryd.func26, Tryd.ntmps26
    go_wp2_with fail
    go_loopw [5] (fun i wr => ∃ k j : Nat, k ≤ n ∧ i = .int .i64 k ∧ wr = w.drewN j ∧ l.take k = m.take k) (fun i _ => n - (intOf i).toNat)
    case atStart => exact ⟨0, 0, by omega, rfl, rfl, rfl⟩
    case round =>
      obtain ⟨k, j, hk, rfl, rfl, htk⟩ := hrel
      have HT := Lib.hid htk; clear htk
      by_cases hlt : k < n
      · obtain ⟨b1, o1, rfl, c1⟩ := HA.out.at (k := k) (by rw [← HN.out]; exact hlt)
        obtain ⟨b2, o2, rfl, c2⟩ := HB.out.at (k := k) (by rw [← HM.out]; exact hlt)
        have c1 := c1 k (by rw [← HN.out]; exact hlt)
        have c2 := c2 k (by rw [← HM.out]; exact hlt)
        have HX := Lib.hid (take_next l m k (by rw [← HN.out]; exact hlt) (by rw [← HM.out]; exact hlt) HT.out)
        have HY : Hid (l.getD k 0 ≠ m.getD k 0 → sameB l m = false) := Lib.hid (fun h => sameB_no (fun e => h (by rw [e])))
        generalize l.getD k 0 = x at c1 HX HY
        generalize m.getD k 0 = y at c2 HX HY
        obtain ⟨wa, hwa⟩ : ∃ wa, wa = w.drewN j := ⟨_, rfl⟩
        have d1 : wa.cell? ⟨b1, o1 + k, none⟩ = some (bv x) := by rw [hwa]; exact c1
        have d2 : wa.cell? ⟨b2, o2 + k, none⟩ = some (bv y) := by rw [hwa]; exact c2
        rw [← hwa]
        have HW := Lib.hid hwa
        clear hwa c1 c2
        by_cases hxy : x = y
        · have hd : (((x : Nat) : Int) != ((y : Nat) : Int)) = false := by rw [bne_eq_false_iff_eq]; omega
          have HX2 := Lib.hid (HX.out hxy)
          clear hxy
          go_wp2_with fail
          go_quiet (fail)
          go_wp2_with fail
          go_roundw
          case rel => exact ⟨k + 1, j + nq, by omega, by go_num, by rw [HW.out, World.drewN_drewN], HX2.out⟩
          case measure => simp [intOf]; omega
        · have hd : (((x : Nat) : Int) != ((y : Nat) : Int)) = true := by rw [bne_iff_ne]; omega
          have HX2 := Lib.hid (HY.out hxy)
          clear hxy
          go_wp2_with fail
          go_quiet (fail)
          go_wp2_with fail
          go_ret
          exact ⟨by rw [HX2.out]; rfl, by rw [HW.out]; exact below_drewN (below_drewN (Below.refl _ _) _) _⟩
      · obtain rfl : k = n := by omega
        have E := Lib.hid (sameB_yes (l := l) (m := m) (by have := HT.out; rw [HN.out, List.take_length, ← HN.out, HM.out, List.take_length] at this; exact this))
        go_wp2_with fail
        go_ret
        exact ⟨by rw [E.out]; rfl, below_drewN (Below.refl _ _) _⟩
end Go.Proofs.YtgalddnblciciaaDoor
