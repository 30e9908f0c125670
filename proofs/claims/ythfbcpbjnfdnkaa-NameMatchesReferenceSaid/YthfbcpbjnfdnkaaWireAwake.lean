import Derived.Test.YthfbcpbjnfdnkaaRefB
namespace Go.Proofs.Ythfbcpbjnfdnkaa
open Go.RowKit Go.Deep

theorem Bs.stay {w w' : World} {v : Value} {l : List Nat} {B : Nat} (h : Bs w v l) (k : Below B w w') (hlt : ∀ b, v.ownBlock = some b → b < B) : Bs w' v l :=
  h.of_blocks k.size fun b hb => k.block b (hlt b hb)
/-- The blocks of a value lie below B. -/
def Under (B : Nat) (v : Value) : Prop := ∀ b, v.ownBlock = some b → b < B
theorem Under.mono {B B' : Nat} {v : Value} (h : Under B v) (k : B ≤ B') : Under B' v := fun b hb => Nat.lt_of_lt_of_le (h b hb) k
theorem Bs.under {w : World} {v : Value} {l : List Nat} (h : Bs w v l) : Under w.heap.size v := h.lt
theorem Own.far {w : World} {base p : Nat} {v : Value} {l : List Nat} (h : Own w base v l) (hp : p < base) : v.ownBlock = none ∨ v.ownBlock ≠ some p := by
  refine .inr fun e => ?_
  have := (h.lt p e).1; omega
theorem built_bs (w : World) (l : List Nat) (hl : AllB l) (h63 : l.length ≤ 9223372036854775807) : Bs (w.alloc (.cells (l.map bv).toArray 5)) (.slice (some ⟨w.heap.size, 0, none⟩) l.length l.length) l :=
  (own_built w 0 l hl (Nat.zero_le _) h63).bs
theorem below_reader {B : Nat} {w w' : World} {p : Nat} (h : w.grownBy w' (some p)) (hB : B ≤ p) (hs : B ≤ w.heap.size) : Below B w w' :=
  below_only (Below.refl B w) hs h (fun g hg => by simp at hg; omega)

set_option maxRecDepth 100000 in
set_option maxHeartbeats 2000000 in
theorem awake_any (w : World) : Calls Try.prog 12 #[] w (RetBool true w) := by
  have A7 := Lib.hid (show AllB [7, 8] by unfold AllB; decide)
  have A1 := Lib.hid (show AllB [1, 2, 2, 7, 8] by unfold AllB; decide)
  have A12 := Lib.hid (show AllB [1, 2] by unfold AllB; decide)
  have A27 := Lib.hid (show AllB [2, 7, 8] by unfold AllB; decide)
  go_enter Try.func12, Try.ntmps12
  go_wp2_with fail
  refine (putNumber_fits 2 258 _ (by omega) (by omega) (by decide)).mono ?_
  rintro e w1 ⟨hb1, ⟨ho, rfl⟩ | ⟨l1, v1, ho, rfl, hown1⟩⟩
  · exact absurd ho (by decide)
  have hl1 : l1 = [1, 2] := by
    have : Wir.putNumber ((2 : Nat) : Int) 258 = some [1, 2] := by decide
    rw [this] at ho; simpa using ho.symm
  subst hl1
  clear ho
  have S1 := hb1.size
  have B1 := Lib.hid hb1; clear hb1
  have V1 := Lib.hid hown1.bs; clear hown1
  go_wp2_with fail
  refine (string_put 1 _ [7, 8] _ (built_bs w1 [7, 8] A7.out (by simp)).rs (by omega) (by simp)).mono ?_
  rintro e w2 ⟨hb2, ⟨ho, rfl⟩ | ⟨l2, v2, ho, rfl, hown2⟩⟩
  · exact absurd ho (by decide)
  have hl2 : l2 = [2, 7, 8] := by
    have : Wir.putString 1 [7, 8] = some [2, 7, 8] := by decide
    rw [this] at ho; simpa using ho.symm
  subst hl2
  clear ho
  have hb2' : Below w1.heap.size w1 w2 := ((Below.refl _ _).alloc (Nat.le_refl _) (.cells #[bv 7, bv 8] 5)).trans (hb2.mono (by simp))
  have S2 := hb2'.size
  have B2 := Lib.hid (B1.out.trans (hb2'.mono S1))
  have V1b := Lib.hid (V1.out.below hb2')
  have V2 := Lib.hid hown2.bs
  clear hb2 hb2' hown2 V1 B1
  go_wp2_with fail
  refine (putNumber_big 1 256 _ (by omega) (by omega) (by decide)).mono ?_
  rintro e w3 ⟨hb3, ⟨ho, rfl⟩ | ⟨l3, v3, ho, rfl, hown3⟩⟩
  rotate_left
  · rw [show Wir.putNumber ((1 : Nat) : Int) 256 = none by decide] at ho; cases ho
  clear ho
  have S3 := hb3.size
  have B3 := Lib.hid (B2.out.trans (hb3.mono (by omega)))
  have V1c := Lib.hid (V1b.out.below hb3)
  have V2c := Lib.hid (V2.out.below hb3)
  clear hb3 V1b V2 B2
  go_wp2_with fail
  refine (new_any _ [1, 2, 2, 7, 8] _ (built_bs w3 [1, 2, 2, 7, 8] A1.out (by simp)).rs (by simp)).mono ?_
  rintro e w4 ⟨p, rfl, hp, hrd, hb4⟩
  have hp3 : w3.heap.size < p := by simp at hp; omega
  have hb4' : Below w3.heap.size w3 w4 := ((Below.refl _ _).alloc (Nat.le_refl _) (.cells #[bv 1, bv 2, bv 2, bv 7, bv 8] 5)).trans (hb4.mono (by simp))
  have S4 := hb4'.size
  have hp4 := hrd.lt
  have B4 := Lib.hid (B3.out.trans (hb4'.mono (by omega)))
  have U1 := Lib.hid (V1c.out.under)
  have U2 := Lib.hid (V2c.out.under)
  have V1d := Lib.hid (V1c.out.below hb4')
  have V2d := Lib.hid (V2c.out.below hb4')
  have R4 := Lib.hid hrd
  clear hb4 hb4' hrd hp V1c V2c B3
  go_wp2_with fail
  refine (rNumber_any p _ 2 _ R4.out).mono ?_
  rintro e w5 ⟨he, hrd, hg⟩
  have e1 : Wir.number ⟨[1, 2, 2, 7, 8], false⟩ 2 = (⟨[2, 7, 8], false⟩, some 258) := by rfl
  rw [e1] at he hrd
  subst he
  have hb5 : Below w3.heap.size w4 w5 := below_reader hg (by omega) (by omega)
  have S5 := hb5.size
  have B5 := Lib.hid (B4.out.trans (hb5.mono (by omega)))
  have V1e := Lib.hid (V1d.out.stay hb5 U1.out)
  have V2e := Lib.hid (V2d.out.stay hb5 U2.out)
  have R5 := Lib.hid hrd
  clear hb5 hg hrd e1 V1d V2d B4 R4
  go_wp2_with fail
  refine (rString_any p _ 1 _ R5.out (by simp)).mono ?_
  rintro e w6 ⟨v6, rfl, hown6, hrd, hg⟩
  have e1 : Wir.string ⟨[2, 7, 8], false⟩ 1 = (⟨[], false⟩, [7, 8]) := by rfl
  rw [e1] at hown6 hrd
  have hb6 : Below w3.heap.size w5 w6 := below_reader hg (by omega) (by omega)
  have S6 := hb6.size
  have B6 := Lib.hid (B5.out.trans (hb6.mono (by omega)))
  have V1f := Lib.hid (V1e.out.stay hb6 U1.out)
  have V2f := Lib.hid (V2e.out.stay hb6 U2.out)
  have O6 := Lib.hid hown6
  have R6 := Lib.hid hrd
  clear hb6 hg hrd e1 hown6 V1e V2e B5 R5
  have s6 : ∃ a c, v6 = .slice a 2 c := O6.out.form
  obtain ⟨a6, c6, rfl⟩ := s6
  have s1 : ∃ a c, v1 = .slice a 2 c := V1f.out.form
  obtain ⟨a1, c1, rfl⟩ := s1
  have s2 : ∃ a c, v2 = .slice a 3 c := V2f.out.form
  obtain ⟨a2, c2, rfl⟩ := s2
  go_wp2_with fail
  refine (done_any p _ _ R6.out).mono ?_
  rintro e w' ⟨rfl, rfl⟩
  go_wp2_with fail
  refine (rNumber_any p _ 1 _ R6.out).mono ?_
  rintro e w7 ⟨he, hrd, hg⟩
  have e1 : Wir.number ⟨[], false⟩ 1 = (Wir.failed, none) := by rfl
  rw [e1] at he hrd
  subst he
  have hb7 : Below w3.heap.size w6 w7 := below_reader hg (by omega) (by omega)
  have S7 := hb7.size
  have B7 := Lib.hid (B6.out.trans (hb7.mono (by omega)))
  have V1g := Lib.hid (V1f.out.stay hb7 U1.out)
  have V2g := Lib.hid (V2f.out.stay hb7 U2.out)
  have O7 := Lib.hid (O6.out.only hg (O6.out.far (by omega)))
  have R7 := Lib.hid hrd
  clear hb7 hg hrd e1 V1f V2f O6 B6 R6
  go_wp2_with fail
  have hA : Below w7.heap.size w7 (w7.alloc (.cells #[bv 1, bv 2] 5)) := (Below.refl _ _).alloc (Nat.le_refl _) _
  refine (same_yes _ _ [1, 2] _ (V1g.out.below hA).rs (built_bs w7 [1, 2] A12.out (by simp)).rs).mono ?_
  rintro e w8 ⟨rfl, hb8⟩
  have hb8' : Below w7.heap.size w7 w8 := hA.trans (hb8.mono (by simp))
  have S8 := hb8'.size
  have B8 := Lib.hid (B7.out.trans (hb8'.mono (by omega)))
  have V2h := Lib.hid (V2g.out.below hb8')
  have O8 := Lib.hid (O7.out.below hb8')
  have R8 := Lib.hid (R7.out.below hb8')
  clear hA hb8 hb8' V1g V2g O7 R7 B7
  go_wp2_with fail
  have hA : Below w8.heap.size w8 (w8.alloc (.cells #[bv 2, bv 7, bv 8] 5)) := (Below.refl _ _).alloc (Nat.le_refl _) _
  refine (same_yes _ _ [2, 7, 8] _ (V2h.out.below hA).rs (built_bs w8 [2, 7, 8] A27.out (by simp)).rs).mono ?_
  rintro e w9 ⟨rfl, hb9⟩
  have hb9' : Below w8.heap.size w8 w9 := hA.trans (hb9.mono (by simp))
  have S9 := hb9'.size
  have B9 := Lib.hid (B8.out.trans (hb9'.mono (by omega)))
  have O9 := Lib.hid (O8.out.below hb9')
  have R9 := Lib.hid (R8.out.below hb9')
  clear hA hb9 hb9' V2h O8 R8 B8
  go_wp2_with fail
  have hA : Below w9.heap.size w9 (w9.alloc (.cells #[bv 7, bv 8] 5)) := (Below.refl _ _).alloc (Nat.le_refl _) _
  refine (same_yes _ _ [7, 8] _ (O9.out.bs.below hA).rs (built_bs w9 [7, 8] A7.out (by simp)).rs).mono ?_
  rintro e w10 ⟨rfl, hb10⟩
  have hb10' : Below w9.heap.size w9 w10 := hA.trans (hb10.mono (by simp))
  have B10 := Lib.hid (B9.out.trans (hb10'.mono (by omega)))
  have R10 := Lib.hid (R9.out.below hb10')
  clear hA hb10 hb10' O9 R9 B9
  go_wp2_with fail
  refine (bad_any p _ _ R10.out).mono ?_
  rintro e w' ⟨rfl, rfl⟩
  go_wp2_with fail
  refine (done_any p _ _ R10.out).mono ?_
  rintro e w' ⟨rfl, rfl⟩
  go_wp2_with fail
  go_ret
  exact ⟨rfl, B10.out⟩
end Go.Proofs.Ythfbcpbjnfdnkaa
