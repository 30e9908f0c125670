/- Layer 13: Bytes of an authenticator, in the reference. -/
import Derived.Test.YtnhchdkchohnbaaGreatDoorAutB
namespace Go.Proofs.YtnhchdkchohnbaaGreatDoor
open Go.RowKit Go.Deep

set_option maxRecDepth 100000 in
set_option maxHeartbeats 4000000 in
theorem refaubytes_any (r : ByteArray) (u : Value) (ss : List ByteArray) (t : Int) (m s : Nat) (w : World) (hr : r.size ≤ maxLen) (hm : m < 4294967296) (hs : s < 4294967296) (h : Ss w u ss) (hv : Aut.valid (aut r ss t m s) = true) :
    Calls Tryz.prog 48 #[.agg (au r u t m s)] w (RetOwn (Aut.bytes (aut r ss t m s)) w) := by
  have hsz := au_size r u t m s
  have T0 := Ab.new (W := w) (t := t) h hr hm hs
  have G0 := only_alloc (only_refl w none) (.cells (au r u t m s) 32)
  obtain ⟨ua, uc, rfl⟩ := h.form
  obtain ⟨v1, v2, v3, v4⟩ := (Aut.valid_iff _).1 hv
  have hnl := Nam.bytes_len v1
  dsimp only [aut] at v1 v2 v3 v4 hnl
  obtain ⟨a, rfl⟩ := Int.eq_ofNat_of_zero_le v2
  have hbt : Aut.bytes (aut r ss a m s) = Wir.join [[2], Nam.bytes (nm r ss), Wir.enc 8 a, Wir.enc 4 m, Wir.enc 4 s] := by
    unfold Aut.bytes aut Wir.join
    simp
  have hjl : (Wir.join [[2], Nam.bytes (nm r ss), Wir.enc 8 a, Wir.enc 4 m, Wir.enc 4 s]).length ≤ 140737488355328 := by
    unfold Wir.join
    simp only [List.flatten_cons, List.flatten_nil, List.length_append, List.length_cons, List.length_nil, Wir.enc_length]
    omega
  rw [hbt]
  have HV1 := Lib.hid v1
  have HJL := Lib.hid hjl
  clear h hv hbt v1 v2 hnl hjl
  have hwa : IntKind.u64.wrap (a : Int) = (a : Int) := by simp only [IntKind.wrap_u64]; omega
  have hwm : IntKind.u64.wrap (m : Int) = (m : Int) := by simp only [IntKind.wrap_u64]; omega
  have hws : IntKind.u64.wrap (s : Int) = (s : Int) := by simp only [IntKind.wrap_u64]; omega
  have E1 := Lib.hid (putNumber_enc 8 a (by omega) (by omega))
  have E2 := Lib.hid (putNumber_enc 4 m (by omega) (by omega))
  have E3 := Lib.hid (putNumber_enc 4 s (by omega) (by omega))
  have c2 := T0.c2
  go_enter Tryz.func48, Tryz.ntmps48
  go_wp2_with fail
  refine (refPut_any 8 a _ (by omega)).mono ?_
  rintro x w1 ⟨hb1, ht⟩
  have e1 : Wir.putNumber 8 a = some (Wir.enc 8 a) := E1.out
  rw [e1] at ht
  rcases ht with ⟨hno, _⟩ | ⟨l1, u1, hl1, rfl, o1⟩
  · cases hno
  cases hl1
  obtain ⟨x1, y1, rfl⟩ := o1.form
  have T1 := T0.only (only_of_below hb1 none)
  have G1 := only_trans G0 (only_of_below hb1 none)
  have O1 := Lib.hid o1.bs.rs
  clear c2 T0 G0 hb1 o1 e1 E1
  have c3 := T1.c3
  go_wp2_with fail
  refine (refPut_any 4 m _ (by omega)).mono ?_
  rintro x w2 ⟨hb2, ht⟩
  have e2 : Wir.putNumber 4 m = some (Wir.enc 4 m) := E2.out
  rw [e2] at ht
  rcases ht with ⟨hno, _⟩ | ⟨l2, u2, hl2, rfl, o2⟩
  · cases hno
  cases hl2
  obtain ⟨x2, y2, rfl⟩ := o2.form
  have T2 := T1.only (only_of_below hb2 none)
  have G2 := only_trans G1 (only_of_below hb2 none)
  have O1 := Lib.hid (O1.out.below hb2)
  have O2 := Lib.hid o2.bs.rs
  clear c3 T1 G1 hb2 o2 e2 E2
  have c4 := T2.c4
  go_wp2_with fail
  refine (refPut_any 4 s _ (by omega)).mono ?_
  rintro x w3 ⟨hb3, ht⟩
  have e3 : Wir.putNumber 4 s = some (Wir.enc 4 s) := E3.out
  rw [e3] at ht
  rcases ht with ⟨hno, _⟩ | ⟨l3, u3, hl3, rfl, o3⟩
  · cases hno
  cases hl3
  obtain ⟨x3, y3, rfl⟩ := o3.form
  have A4 := (Below.refl w3.heap.size w3).alloc (Nat.le_refl _) (.cells #[.int .u8 2] 5)
  have F4 := only_trans (only_of_below hb3 none) (only_of_below A4 none)
  have T4 := T2.only F4
  have G4 := only_trans G2 F4
  have O1 := Lib.hid (O1.out.below (below_of_only F4))
  have O2 := Lib.hid (O2.out.below (below_of_only F4))
  have O3 := Lib.hid (o3.bs.rs.below A4)
  have r1 : Rs (w3.alloc (.cells #[.int .u8 2] 5)) (.slice (some ⟨w3.heap.size, 0, none⟩) 1 1) [2] := (own_built w3 0 [2] (AllB.one (by decide)) (Nat.zero_le _) (by decide)).bs.rs
  have R1 := Lib.hid r1
  clear c4 T2 G2 hb3 o3 e3 E3 F4 A4 r1
  have c0 := T4.c0
  have c1 := T4.c1
  go_wp2_with fail
  refine (refbytes_any r _ ss _ T4.2.1 HV1.out).mono ?_
  rintro x w5 ⟨v5, rfl, o5, hb5⟩
  obtain ⟨x5, y5, rfl⟩ := o5.form
  have HB := bss_five (R1.out.below hb5) o5.bs.rs (O1.out.below hb5) (O2.out.below hb5) (O3.out.below hb5)
  have G5 := only_trans G4 (only_of_below hb5 none)
  have G6 := only_alloc G5 (.cells #[.slice (some ⟨w3.heap.size, 0, none⟩) 1 1, .slice x5 (Nam.bytes (nm r ss)).length y5, .slice x1 (Wir.enc 8 a).length y1, .slice x2 (Wir.enc 4 m).length y2, .slice x3 (Wir.enc 4 s).length y3] 24)
  have HB := Lib.hid HB
  clear c0 c1 T4 G4 hb5 o5 G5 R1 O1 O2 O3
  generalize Nam.bytes (nm r ss) = NB at *
  go_wp2_with fail
  refine (refJoin_any _ _ _ HB.out HJL.out).mono ?_
  rintro x w7 ⟨v7, rfl, o7, hb7⟩
  have G7 := only_trans G6 (only_of_below hb7 none)
  have O7 := Lib.hid (o7.mono G6.size)
  clear o7 HB G6 hb7
  go_wp2_with fail
  go_ret
  exact ⟨_, rfl, O7.out, below_of_only G7⟩
end Go.Proofs.YtnhchdkchohnbaaGreatDoor
