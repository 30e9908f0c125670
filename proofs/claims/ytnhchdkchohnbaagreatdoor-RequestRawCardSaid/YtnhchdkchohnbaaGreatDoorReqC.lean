/- Layer 14: the reference's Bytes and Parse. -/
import Derived.Test.YtnhchdkchohnbaaGreatDoorReqB
namespace Go.Proofs.YtnhchdkchohnbaaGreatDoor
open Go.RowKit Go.Deep

theorem putString_big (l : List Nat) (h : 65536 ≤ l.length) : Wir.putString 2 l = none := by
  unfold Wir.putString Wir.putNumber
  rw [if_neg (by omega), if_neg (by have : (256 : Nat) ^ (2 : Int).toNat = 65536 := by decide
                                    omega)]; rfl
/-- What PutString returns where its length does not matter. -/
theorem refPut_two (v : Value) (l : List Nat) (w : World) (h : Rs w v l) (hb : l.length ≤ 1000000000) :
    Calls Tryz.prog 51 #[.int .i64 2, v] w fun e w' => Below w.heap.size w w' ∧ ∃ m u, e = .returned (.tuple #[u, .bool (decide (l.length < 65536))]) ∧ Own w' w.heap.size u m ∧ m.length ≤ l.length + 2 ∧ (l.length < 65536 → m = Wir.enc 2 l.length ++ l) := by
  refine (refPutString_any 2 v l w h (by omega)).mono ?_
  rintro e w' ⟨hb', ht⟩
  refine ⟨hb', ?_⟩
  by_cases hl : l.length < 65536
  · rw [putString_two l hl] at ht
    rcases ht with ⟨hno, _⟩ | ⟨m, u, hm, rfl, o⟩
    · cases hno
    cases hm
    exact ⟨_, u, by rw [decide_eq_true hl], o, by rw [List.length_append, Wir.enc_length]; omega, fun _ => rfl⟩
  · rw [putString_big l (by omega)] at ht
    rcases ht with ⟨_, rfl⟩ | ⟨_, _, hno, _⟩
    · exact ⟨[], _, by rw [decide_eq_false hl], Own.nil _ _, by simp, fun h => absurd h hl⟩
    · cases hno
set_option maxRecDepth 100000 in
set_option maxHeartbeats 4000000 in
theorem refrqbytes_any (u v : Value) (x y : List Nat) (w : World) (hu : Rs w u x) (hv : Rs w v y) (hx : x.length ≤ 1000000000) (hy : y.length ≤ 1000000000) :
    Calls Tryz.prog 23 #[u, v] w (RetPut (Req.bytes x y) w) := by
  obtain ⟨ua, uc, rfl⟩ := hu.form
  obtain ⟨va, vc, rfl⟩ := hv.form
  have HU := Lib.hid hu
  have HV := Lib.hid hv
  generalize hR : Req.bytes x y = R
  have HR := Lib.hid hR
  clear hu hv hR
  go_enter Tryz.func23, Tryz.ntmps23
  go_wp2_with fail
  refine (refPut_two _ x w HU.out hx).mono ?_
  rintro e w1 ⟨hb1, X, u1, rfl, o1, lX, eX⟩
  obtain ⟨a1, c1, rfl⟩ := o1.form
  have HV1 := Lib.hid (HV.out.below hb1)
  have G1 := only_of_below hb1 none
  go_wp2_with fail
  refine (refPut_two _ y w1 HV1.out hy).mono ?_
  rintro e w2 ⟨hb2, Y, u2, rfl, o2, lY, eY⟩
  obtain ⟨a2, c2, rfl⟩ := o2.form
  have O1 := Lib.hid (o1.below hb2).bs.rs
  have O2 := Lib.hid o2.bs.rs
  have G2 := only_trans G1 (only_of_below hb2 none)
  have HX := Lib.hid (And.intro lX eX)
  have HY := Lib.hid (And.intro lY eY)
  clear o1 o2 hb1 hb2 G1 HV1 HU HV lX eX lY eY
  go_wp2_with fail
  have A1 : Below w2.heap.size w2 (w2.alloc (.cells #[.int .u8 65, .int .u8 80, .int .u8 1] 5)) := (Below.refl _ _).alloc (Nat.le_refl _) _
  have r1 : Rs (w2.alloc (.cells #[.int .u8 65, .int .u8 80, .int .u8 1] 5)) (.slice (some ⟨w2.heap.size, 0, none⟩) 3 3) [65, 80, 1] := (own_built w2 0 [65, 80, 1] (fun i hi => by simp at hi; omega) (Nat.zero_le _) (by decide)).bs.rs
  have HB := bss_three r1 (O1.out.below A1) (O2.out.below A1)
  have G3 := only_alloc (only_alloc G2 (.cells #[.int .u8 65, .int .u8 80, .int .u8 1] 5)) (.cells #[.slice (some ⟨w2.heap.size, 0, none⟩) 3 3, .slice a1 X.length c1, .slice a2 Y.length c2] 24)
  rw [World.size_alloc] at HB
  have hjl : (Wir.join [[65, 80, 1], X, Y]).length = 3 + X.length + Y.length := by
    unfold Wir.join
    simp only [List.flatten_cons, List.flatten_nil, List.length_append, List.length_cons, List.length_nil]
    omega
  refine (refJoin_any _ _ _ HB (by rw [hjl]; have := HX.out.1; have := HY.out.1; omega)).mono ?_
  rintro e w3 ⟨v3, rfl, o3, hb3⟩
  obtain ⟨a3, c3, rfl⟩ := o3.form
  have G4 := only_trans G3 (only_of_below hb3 none)
  have O3 := Lib.hid (o3.mono G3.size)
  clear o3 HB G3 hb3 A1 r1 G2
  by_cases h1 : x.length < 65536
  rotate_left
  · have E1 := Lib.hid (show R = none by rw [← HR.out]; unfold Req.bytes; rw [if_pos (by omega)])
    clear HR hjl
    rw [decide_eq_false h1]
    go_wp2_with fail
    go_ret2
    exact ⟨below_of_only G4, .inl ⟨E1.out, rfl⟩⟩
  by_cases h2 : y.length < 65536
  rotate_left
  · have E1 := Lib.hid (show R = none by rw [← HR.out]; unfold Req.bytes; rw [if_pos (by omega)])
    clear HR hjl
    rw [decide_eq_true h1, decide_eq_false h2]
    go_wp2_with fail
    go_ret2
    exact ⟨below_of_only G4, .inl ⟨E1.out, rfl⟩⟩
  obtain rfl := HX.out.2 h1
  obtain rfl := HY.out.2 h2
  have hj : Wir.join [[65, 80, 1], Wir.enc 2 x.length ++ x, Wir.enc 2 y.length ++ y] = 65 :: 80 :: 1 :: (Wir.enc 2 x.length ++ (x ++ (Wir.enc 2 y.length ++ y))) := by
    unfold Wir.join; simp
  rw [List.length_append, List.length_append, Wir.enc_length, Wir.enc_length] at hjl
  rw [hj] at hjl O3
  rw [hj]
  clear hj HX HY O1 O2
  by_cases hbig : 65536 < 7 + x.length + y.length
  · have E1 := Lib.hid (show R = none by rw [← HR.out]; unfold Req.bytes; rw [if_pos hbig])
    clear HR
    rw [decide_eq_true h1, decide_eq_true h2]
    generalize 65 :: 80 :: 1 :: (Wir.enc 2 x.length ++ (x ++ (Wir.enc 2 y.length ++ y))) = J at *
    have hJ : 65536 < J.length := by omega
    clear hjl
    go_wp2_with fail
    all_goals first | omega | skip
    go_ret2
    exact ⟨below_of_only G4, .inl ⟨E1.out, rfl⟩⟩
  · have E1 := Lib.hid (show R = some (65 :: 80 :: 1 :: (Wir.enc 2 x.length ++ (x ++ (Wir.enc 2 y.length ++ y)))) by rw [← HR.out]; unfold Req.bytes; rw [if_neg hbig])
    clear HR
    rw [decide_eq_true h1, decide_eq_true h2]
    generalize 65 :: 80 :: 1 :: (Wir.enc 2 x.length ++ (x ++ (Wir.enc 2 y.length ++ y))) = J at *
    have hJ : J.length ≤ 65536 := by omega
    clear hjl
    go_wp2_with fail
    all_goals first | omega | skip
    go_ret2
    exact ⟨below_of_only G4, .inr ⟨_, _, E1.out, rfl, O3.out⟩⟩
/-- What the reference's Parse returns. -/
def RetRef (w : World) (o : Option (List Nat × List Nat)) (e : Ending) (w' : World) : Prop :=
  Below w.heap.size w w' ∧ ∃ u v x y, e = .returned (.tuple #[u, v, .bool o.isSome]) ∧ Rs w' u x ∧ Rs w' v y ∧ (x, y) = o.getD ([], [])
theorem retRef_none {w w' : World} {e : Ending} (h : Below w.heap.size w w') (he : e = .returned (.tuple #[.slice none 0 0, .slice none 0 0, .bool false])) : RetRef w none e w' :=
  ⟨h, .slice none 0 0, .slice none 0 0, [], [], he, Rs.nil _, Rs.nil _, rfl⟩
namespace Req
theorem refParse_head {b : List Nat} (h : b.length < 7 ∨ 65536 < b.length ∨ b.getD 0 0 ≠ 65 ∨ b.getD 1 0 ≠ 80 ∨ b.getD 2 0 ≠ 1) : refParse b = none := by unfold refParse; rw [if_pos h]
theorem refParse_one {b : List Nat} {n : Nat} (hn : n = 256 * b.getD 3 0 + b.getD 4 0) (h : b.length < 7 + n) : refParse b = none := by
  subst hn; unfold refParse
  split
  · rfl
  · rw [if_pos (by omega)]
theorem refParse_two {b : List Nat} {n m : Nat} (hn : n = 256 * b.getD 3 0 + b.getD 4 0) (hm : m = 256 * b.getD (5 + n) 0 + b.getD (6 + n) 0) (h : 7 + n + m ≠ b.length) : refParse b = none := by
  subst hn hm; unfold refParse
  split
  · rfl
  · split
    · rfl
    · rfl
theorem refParse_yes {b : List Nat} {n m : Nat} (h0 : ¬ (b.length < 7 ∨ 65536 < b.length ∨ b.getD 0 0 ≠ 65 ∨ b.getD 1 0 ≠ 80 ∨ b.getD 2 0 ≠ 1)) (hn : n = 256 * b.getD 3 0 + b.getD 4 0) (hm : m = 256 * b.getD (5 + n) 0 + b.getD (6 + n) 0) (h : 7 + n + m = b.length) : refParse b = some ((b.take (5 + n)).drop 5, b.drop (7 + n)) := by
  subst hn hm; unfold refParse
  rw [if_neg h0, if_neg (by omega), if_neg (by omega)]
end Req
end Go.Proofs.YtnhchdkchohnbaaGreatDoor
