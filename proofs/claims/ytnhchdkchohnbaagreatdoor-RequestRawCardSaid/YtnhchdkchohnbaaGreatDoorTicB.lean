/- Layer 12: Bytes of a ticket, in the program. -/
import Derived.Test.YtnhchdkchohnbaaGreatDoorTicA
namespace Go.Proofs.YtnhchdkchohnbaaGreatDoor
open Go.RowKit Go.Deep

theorem putNumber_enc (k x : Nat) (hk : 1 ≤ k ∧ k ≤ 8) (h : x < 256 ^ k) : Wir.putNumber k x = some (Wir.enc k x) := by
  unfold Wir.putNumber
  rw [if_neg (by omega), if_pos (by simpa using h)]; rfl
theorem Tb.key_rs {W : World} {b : Nat} {r : ByteArray} {u : Value} {ss : List ByteArray} {s e : Int} {key : Nat → Nat} (h : Tb W b r u ss s e key) : Rs W (.slice (some ⟨b, 4, none⟩) 16 16) (Sea.nl 16 key) := by
  refine ⟨Sea.nl_all h.2.2.2, by rw [Sea.nl_length]; omega, .inr ⟨_, 16, by rw [Sea.nl_length], by rw [Sea.nl_length]; omega, fun i hi => ?_⟩⟩
  rw [Sea.nl_length] at hi
  rw [Sea.nl_get _ _ _ hi]
  exact h.ck i _ (by simp [arr, hi])
theorem bss_five {w : World} {u v x y z : Value} {a b c d e : List Nat} (hu : Rs w u a) (hv : Rs w v b) (hx : Rs w x c) (hy : Rs w y d) (hz : Rs w z e) : Bss (w.alloc (.cells #[u, v, x, y, z] 24)) (.slice (some ⟨w.heap.size, 0, none⟩) 5 5) [a, b, c, d, e] :=
  bss_built w [u, v, x, y, z] [a, b, c, d, e] rfl (by simp) fun i t ht => by
    match i with
    | 0 => simp at ht; subst ht; exact hu
    | 1 => simp at ht; subst ht; exact hv
    | 2 => simp at ht; subst ht; exact hx
    | 3 => simp at ht; subst ht; exact hy
    | 4 => simp at ht; subst ht; exact hz
    | _ + 5 => simp at ht
set_option maxRecDepth 100000 in
set_option maxHeartbeats 4000000 in
theorem tkbytes_any (r : ByteArray) (u : Value) (ss : List ByteArray) (s e : Int) (key : Nat → Nat) (w : World) (hr : r.size ≤ maxLen) (hk : Aes.B8 key) (h : Ss w u ss) :
    Calls Tryz.prog 77 #[.agg (tk r u s e key)] w (RetPut (if Tic.valid (tic r ss s e key) = true then some (Tic.bytes (tic r ss s e key)) else none) w) := by
  have hsz := tk_size r u s e key
  have T0 := Tb.new (W := w) (s := s) (e := e) h hr hk
  have G0 := only_alloc (only_refl w none) (.cells (tk r u s e key) 41)
  obtain ⟨ua, uc, rfl⟩ := h.form
  generalize hR : (if Tic.valid (tic r ss s e key) = true then some (Tic.bytes (tic r ss s e key)) else none) = R
  have HR := Lib.hid hR
  clear h hR
  go_enter Tryz.func77, Tryz.ntmps77
  go_wp2_with (refine wpList_load_row rfl _ _ rfl w.heap.size rfl _ _ (0, 0) _ T0.1 rfl rfl (info_tk _ _ _ _ _) ?_)
  refine (tkvalid_any r _ ss s e key _ hr T0.2.1).mono ?_
  rintro x w1 ⟨rfl, g1⟩
  have G1 := only_trans G0 g1
  have T1 := T0.only g1
  cases hv : Tic.valid (tic r ss s e key)
  · have E1 := Lib.hid (show R = none by rw [← HR.out, hv]; rfl)
    clear HR
    go_wp2_with fail
    go_ret2
    exact ⟨below_of_only G1, .inl ⟨E1.out, rfl⟩⟩
  · have E1 := Lib.hid (show R = some (Tic.bytes (tic r ss s e key)) by rw [← HR.out, if_pos hv])
    clear HR
    obtain ⟨v1, v2, v3, v4⟩ := (Tic.valid_iff _).1 hv
    have hnl := Nam.bytes_len v1
    dsimp only [tic] at v1 v2 v3 v4 hnl
    obtain ⟨a, rfl⟩ := Int.eq_ofNat_of_zero_le v2
    obtain ⟨b, rfl⟩ := Int.eq_ofNat_of_zero_le (Int.le_trans v2 v3)
    have hbt : Tic.bytes (tic r ss a b key) = Wir.join [[1], Nam.bytes (nm r ss), Wir.enc 8 a, Wir.enc 8 b, Sea.nl 16 key] := by
      unfold Tic.bytes tic Wir.join
      simp
    rw [hbt] at E1
    have HV1 := Lib.hid v1
    clear hv hbt v1 v2
    have c0 := T1.c0
    have c1 := T1.c1
    go_wp2_with fail
    refine (nbytes_any r hr _ ss _ T1.2.1).mono ?_
    rintro x w2 ⟨hb2, ht⟩
    rw [if_pos HV1.out] at ht
    rcases ht with ⟨hno, _⟩ | ⟨l0, u0, hl0, rfl, o0⟩
    · cases hno
    cases hl0
    have G2 := only_trans G1 (only_of_below hb2 none)
    have T2 := T1.only (only_of_below hb2 none)
    clear c0 c1 T1 hb2
    generalize Nam.bytes (nm r ss) = NB at *
    have c2 := T2.c2
    have hwa : IntKind.u64.wrap (a : Int) = (a : Int) := by simp only [IntKind.wrap_u64]; omega
    have hwb : IntKind.u64.wrap (b : Int) = (b : Int) := by simp only [IntKind.wrap_u64]; omega
    go_wp2_with fail
    refine (putNumber_fits 8 a _ (by omega) (by omega) (by omega)).mono ?_
    rintro x w3 ⟨hb3, ht⟩
    rw [putNumber_enc 8 a (by omega) (by omega)] at ht
    rcases ht with ⟨hno, _⟩ | ⟨l1, u1, hl1, rfl, o1⟩
    · cases hno
    cases hl1
    have G3 := only_trans G2 (only_of_below hb3 none)
    have T3 := T2.only (only_of_below hb3 none)
    have o0 := o0.below hb3
    clear c2 T2 hb3 hwa G2
    have c3 := T3.c3
    go_wp2_with fail
    refine (putNumber_fits 8 b _ (by omega) (by omega) (by omega)).mono ?_
    rintro x w4 ⟨hb4, ht⟩
    rw [putNumber_enc 8 b (by omega) (by omega)] at ht
    rcases ht with ⟨hno, _⟩ | ⟨l2, u2, hl2, rfl, o2⟩
    · cases hno
    cases hl2
    have G4 := only_trans G3 (only_of_below hb4 none)
    have T4 := T3.only (only_of_below hb4 none)
    have o0 := o0.below hb4
    have o1 := o1.below hb4
    clear c3 T3 hb4 hwb G3
    obtain ⟨x0, y0, rfl⟩ := o0.form
    obtain ⟨x1, y1, rfl⟩ := o1.form
    obtain ⟨x2, y2, rfl⟩ := o2.form
    have O0 := Lib.hid o0.bs.rs
    have O1 := Lib.hid o1.bs.rs
    have O2 := Lib.hid o2.bs.rs
    clear o0 o1 o2
    go_wp2_with fail
    have A1 : Below w4.heap.size w4 (w4.alloc (.cells #[.int .u8 1] 5)) := (Below.refl _ _).alloc (Nat.le_refl _) _
    have r1 : Rs (w4.alloc (.cells #[.int .u8 1] 5)) (.slice (some ⟨w4.heap.size, 0, none⟩) 1 1) [1] := (own_built w4 0 [1] (AllB.one (by decide)) (Nat.zero_le _) (by decide)).bs.rs
    have HB := bss_five r1 (O0.out.below A1) (O1.out.below A1) (O2.out.below A1) ((T4.below A1).key_rs)
    have G5 := only_alloc (only_alloc G4 (.cells #[.int .u8 1] 5)) (.cells #[.slice (some ⟨w4.heap.size, 0, none⟩) 1 1, .slice x0 NB.length y0, .slice x1 (Wir.enc 8 a).length y1, .slice x2 (Wir.enc 8 b).length y2, .slice (some ⟨w.heap.size, 4, none⟩) 16 16] 24)
    rw [World.size_alloc] at HB
    have hjl : (Wir.join [[1], NB, Wir.enc 8 a, Wir.enc 8 b, Sea.nl 16 key]).length ≤ 140737488355328 := by
      unfold Wir.join
      simp only [List.flatten_cons, List.flatten_nil, List.length_append, List.length_cons, List.length_nil, Wir.enc_length, Sea.nl_length]
      omega
    refine (join_any _ _ _ HB hjl).mono ?_
    rintro x w5 ⟨v5, rfl, o5, hb5⟩
    have G6 := only_trans G5 (only_of_below hb5 none)
    have O5 := Lib.hid (o5.mono G5.size)
    clear o5 HB G5 A1 r1 hb5 T4 hjl
    go_wp2_with fail
    go_ret2
    exact ⟨below_of_only G6, .inr ⟨_, _, E1.out, rfl, O5.out⟩⟩
end Go.Proofs.YtnhchdkchohnbaaGreatDoor
