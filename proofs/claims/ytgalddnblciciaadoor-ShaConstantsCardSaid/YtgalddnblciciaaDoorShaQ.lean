import Derived.Test.YtgalddnblciciaaDoorShaP
namespace Sha
theorem enc_take (j x : Nat) (h : j < 8) : (Wir.enc 8 x).take (j + 1) = (Wir.enc 8 x).take j ++ [x / 256 ^ (7 - j) % 256] := by
  rw [Wir.enc_cons, Wir.enc_cons, Wir.enc_cons, Wir.enc_cons, Wir.enc_cons, Wir.enc_cons, Wir.enc_cons, Wir.enc_cons]
  rcases j with _ | _ | _ | _ | _ | _ | _ | _ | j <;> first | rfl | omega
end Sha
namespace Go.Proofs.YtgalddnblciciaaDoor
open Go.RowKit Go.Deep

set_option maxRecDepth 100000 in
set_option maxHeartbeats 2000000 in
theorem refpadding_any (n : Nat) (w : World) (hn : n ≤ 140737488355328) :
    Calls Tryd.prog 27 #[.int .i64 n] w (RetOwn (Sha.pad n) w) := by
  obtain ⟨z, hz⟩ : ∃ z, z = (119 - n % 64) % 64 := ⟨_, rfl⟩
  have E := Lib.hid (show Sha.pad n = 128 :: (List.replicate z 0 ++ Wir.enc 8 (8 * n)) by rw [hz]; rfl)
  have hz64 : z < 64 := by omega
  have hx : (n : Int) * 8 = ((8 * n : Nat) : Int) := by omega
  have hx2 : 8 * n < 18446744073709551616 := by omega
  have HZ := Lib.hid hz; clear hz
  generalize 8 * n = x at E hx hx2
  go_enter Tryd.func27, Tryd.ntmps27
  go_wp2_with fail
  go_loopw [3] (fun v wr => ∃ k : Nat, k ≤ z ∧ Own wr w.heap.size v (128 :: List.replicate k 0) ∧ Below w.heap.size w wr) (fun v _ => 100 - lenOf v)
  case atStart => exact ⟨0, by omega, own_built w _ [128] (AllB.one (by omega)) (Nat.le_refl _) (by simp), (Below.refl _ _).alloc (Nat.le_refl _) _⟩
  case round =>
    obtain ⟨k, hk, hown, hbel⟩ := hrel
    have hsz := hbel.size
    have B := Lib.hid hbel; clear hbel
    obtain ⟨va, vcap, rfl⟩ := hown.form
    have e : (128 :: List.replicate k 0).length = k + 1 := by simp
    rw [e] at hown ⊢
    clear e
    have O := Lib.hid hown
    clear hown
    by_cases hlt : k < z
    · have ht : (((n : Int) + (k + 1) + 8) % 64 != 0) = true := by have := HZ.out; rw [bne_iff_ne]; omega
      go_wp2_with (at_builtin; go_must (refine wpList_append_bs rfl _ _ rfl w.heap.size _ (128 :: List.replicate k 0) rfl (O.out.alloc _) _ [0] rfl (own_built wr _ [0] (AllB.one (by omega)) hsz (by simp)).bs (by simp; omega) (Nat.le_trans hsz (by simp)) ?_; intro v2 w2 hown2 hgr2))
      have hb2 := below_only (B.out.alloc hsz (.cells #[bv 0] 5)) (Nat.le_refl _) hgr2 (fun g hg => (O.out.lt g hg).1)
      have e : (128 :: List.replicate k 0) ++ [0] = 128 :: List.replicate (k + 1) 0 := by rw [List.replicate_succ']; rfl
      rw [e] at hown2
      have hl2 : lenOf v2 = k + 2 := by obtain ⟨a2, c2, rfl⟩ := hown2.form; simp [lenOf]
      have HL2 := Lib.hid hl2
      clear hgr2 hl2 e
      go_wp2_with fail
      go_roundw
      case rel => exact ⟨k + 1, by omega, hown2, hb2⟩
      case measure => rw [HL2.out]; simp [lenOf]; omega
    · obtain rfl : k = z := by omega
      have ht : (((n : Int) + (k + 1) + 8) % 64 != 0) = false := by have := HZ.out; rw [bne_eq_false_iff_eq]; omega
      clear hlt hk
      go_wp2_with fail
      go_loopw [3, 5] (fun v i wr => ∃ j : Nat, j ≤ 8 ∧ i = .int .i64 (7 - (j : Int)) ∧ Own wr w.heap.size v (128 :: (List.replicate k 0 ++ (Wir.enc 8 x).take j)) ∧ Below w.heap.size w wr) (fun _ i _ => (intOf i + 1).toNat)
      case atStart => exact ⟨0, by omega, rfl, by simpa using O.out, B.out⟩
      case round =>
        clear O B hsz ht
        obtain ⟨j, hj, rfl, hown, hbel⟩ := hrel
        have hsz := hbel.size
        have B := Lib.hid hbel; clear hbel
        obtain ⟨va, vcap, rfl⟩ := hown.form
        have e : (128 :: (List.replicate k 0 ++ (Wir.enc 8 x).take j)).length = k + 1 + j := by simp [Wir.enc_length]; omega
        rw [e] at hown ⊢
        clear e
        have O := Lib.hid hown
        clear hown
        by_cases hlt : j < 8
        · obtain ⟨p, hp⟩ : ∃ p : Nat, p = 7 - j := ⟨_, rfl⟩
          have hpi : (7 : Int) - j = (p : Int) := by omega
          have hp8 : p < 8 := by omega
          rw [hpi]
          have T := Lib.hid (Sha.enc_take j x hlt)
          have hq : x / 2 ^ (8 * p) = x / 256 ^ (7 - j) := by rw [Wir.pow_shift, hp]
          have hql : x / 256 ^ (7 - j) ≤ x := Nat.div_le_self _ _
          generalize x / 256 ^ (7 - j) = q at T hq hql
          have hqi : (x : Int) / 2 ^ (8 * p) = (q : Int) := by rw [← hq, Int.natCast_ediv, Int.natCast_pow]; rfl
          have HP := Lib.hid (And.intro hp hpi); clear hp hpi hq
          have hq2 : q % 256 < 256 := Nat.mod_lt _ (by omega)
          go_wp2_with (at_builtin; go_must (refine wpList_append_bs rfl _ _ rfl w.heap.size _ (128 :: (List.replicate k 0 ++ (Wir.enc 8 x).take j)) rfl (O.out.alloc _) _ [q % 256] rfl (own_built wr _ [q % 256] (AllB.one hq2) hsz (by simp)).bs (by simp [Wir.enc_length]; omega) (Nat.le_trans hsz (by simp)) ?_; intro v2 w2 hown2 hgr2))
          have hb2 := below_only (B.out.alloc hsz (.cells #[bv (q % 256)] 5)) (Nat.le_refl _) hgr2 (fun g hg => (O.out.lt g hg).1)
          have e : (128 :: (List.replicate k 0 ++ (Wir.enc 8 x).take j)) ++ [q % 256] = 128 :: (List.replicate k 0 ++ (Wir.enc 8 x).take (j + 1)) := by rw [T.out]; simp
          rw [e] at hown2
          have h1 : (p : Int) - 1 = 7 - ↑(j + 1) := by have := HP.out; omega
          refine ⟨⟨j + 1, by omega, congrArg (Value.int .i64) h1, hown2, hb2⟩, ?_⟩
          simp [intOf]
        · obtain rfl : j = 8 := by omega
          have hO := O.out
          have e : (Wir.enc 8 x).take 8 = Wir.enc 8 x := List.take_of_length_le (by rw [Wir.enc_length]; exact Nat.le_refl _)
          rw [e] at hO
          have O2 := Lib.hid hO; clear hO e
          clear hlt hj
          go_wp2_with fail
          go_ret
          exact ⟨_, rfl, by rw [E.out]; exact O2.out, B.out⟩
end Go.Proofs.YtgalddnblciciaaDoor
