/- The law's awake of layer 8: walked; contracts at arguments written out. -/
import Derived.Test.YtibgmoapkionjaaCtrF
import Derived.Test.YtibgmoapkionjaaRefJ
namespace Go.Proofs.Ytibgmoapkionjaa
open Go.RowKit Go.Deep

abbrev z16 : Value := .agg #[.int .u8 0, .int .u8 0, .int .u8 0, .int .u8 0, .int .u8 0, .int .u8 0, .int .u8 0, .int .u8 0, .int .u8 0, .int .u8 0, .int .u8 0, .int .u8 0, .int .u8 0, .int .u8 0, .int .u8 0, .int .u8 0]
abbrev z8 : Value := .agg #[.int .u8 0, .int .u8 0, .int .u8 0, .int .u8 0, .int .u8 0, .int .u8 0, .int .u8 0, .int .u8 0]
theorem z16_eq : z16 = .agg (arr .u8 16 (fun _ => 0)) := by rw [arr16_lit]; rfl
theorem z8_eq : z8 = .agg (arr .u8 8 (fun _ => 0)) := by rw [arr8_lit]; rfl
theorem b8_zero : Aes.B8 (fun _ => 0) := fun _ => (by decide : 0 < 256)
theorem ctrstream_zero (a n : Int) (w : World) : Calls Try.prog 26 #[z16, z8, .int .i64 a, .int .i64 n] w (RetOwn (Ctr.strI (fun _ => 0) (fun _ => 0) a n) w) := by
  rw [z16_eq, z8_eq]; exact ctrstream_any _ _ a n w b8_zero b8_zero
theorem ctrcrypt_zero (v : Value) (l : List Nat) (w : World) (hv : Rs w v l) (hl : l.length ≤ 140737488355328) : Calls Try.prog 28 #[z16, z8, v] w (RetOwn (Ctr.crypt (fun _ => 0) (fun _ => 0) 0 l) w) := by
  rw [z16_eq, z8_eq]; exact ctrcrypt_any _ _ v l w b8_zero b8_zero hv hl
theorem lit_rs (w : World) (l : List Nat) (hl : (l.all fun x => decide (x < 256)) = true) (h63 : l.length ≤ 9223372036854775807) : Rs (w.alloc (.cells (l.map bv).toArray 5)) (.slice (some ⟨w.heap.size, 0, none⟩) l.length l.length) l :=
  (own_built w 0 l (fun x hx => by simpa using (List.all_eq_true.1 hl) x hx) (Nat.zero_le _) h63).bs.rs
theorem Ctr.doc3 : Ctr.strI (fun _ => 0) (fun _ => 0) 0 3 = [102, 233, 75] := by
  unfold Ctr.strI
  rw [if_neg (by omega)]
  exact Ctr.doc
theorem Ctr.docBad : Ctr.strI (fun _ => 0) (fun _ => 0) (-1) 3 = [] := by
  unfold Ctr.strI
  rw [if_pos (by omega)]
set_option maxRecDepth 100000 in
set_option maxHeartbeats 4000000 in
theorem ctrAwake_any (w : World) : Calls Try.prog 24 #[] w (RetBool true w) := by
  go_enter Try.func24, Try.ntmps24
  go_wp2_with fail
  refine (ctrstream_zero _ _ _).mono ?_
  rintro e w1 ⟨v1, rfl, ho1, hb1⟩
  rw [Ctr.doc3] at ho1
  obtain ⟨a1, c1, rfl⟩ := ho1.form
  have O1 := Lib.hid ho1; have B1 := Lib.hid hb1
  clear ho1 hb1
  go_wp2_with fail
  have hA : Below w1.heap.size w1 (w1.alloc (.cells #[bv 102, bv 233, bv 75] 5)) := (Below.refl _ _).alloc (Nat.le_refl _) _
  refine (same_yes _ _ [102, 233, 75] _ (O1.out.below hA).bs.rs (lit_rs w1 [102, 233, 75] (by decide) (by simp))).mono ?_
  rintro e w2 ⟨rfl, hb2⟩
  have B2 := Lib.hid (B1.out.trans ((hA.trans (hb2.mono (by simp))).mono B1.out.size))
  clear hA hb2 B1 O1
  go_wp2_with fail
  refine (ctrstream_zero _ _ _).mono ?_
  rintro e w3 ⟨v3, rfl, ho3, hb3⟩
  rw [Ctr.docBad] at ho3
  obtain ⟨a3, c3, rfl⟩ := ho3.form
  have B3 := Lib.hid (B2.out.trans (hb3.mono B2.out.size))
  clear ho3 hb3 B2
  go_wp2_with fail
  have hA : Below w3.heap.size w3 (w3.alloc (.cells #[bv 1, bv 2] 5)) := (Below.refl _ _).alloc (Nat.le_refl _) _
  refine (ctrcrypt_zero _ [1, 2] _ (lit_rs w3 [1, 2] (by decide) (by simp)) (by simp)).mono ?_
  rintro e w4 ⟨v4, rfl, ho4, hb4⟩
  obtain ⟨a4, c4, rfl⟩ := ho4.form
  rw [Ctr.crypt_length]
  have B4 := Lib.hid (B3.out.trans ((hA.trans (hb4.mono (by simp))).mono B3.out.size))
  clear hA hb4 B3 ho4
  go_wp2_with fail
  have B5 := Lib.hid (B4.out.alloc B4.out.size (.cells #[bv 1] 5))
  refine (ctrnext_nil _ _).mono ?_
  rintro e w5 ⟨rfl, rfl⟩
  go_wp2_with fail
  refine (ctrused_nil _).mono ?_
  rintro e w5 ⟨rfl, rfl⟩
  go_wp2_with fail
  go_ret
  exact ⟨rfl, B5.out⟩
end Go.Proofs.Ytibgmoapkionjaa
