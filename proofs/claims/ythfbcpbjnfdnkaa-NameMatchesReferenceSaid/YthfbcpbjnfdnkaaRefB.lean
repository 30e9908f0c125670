import Derived.Test.YthfbcpbjnfdnkaaRefA
namespace Go.Proofs.Ythfbcpbjnfdnkaa
open Go.RowKit Go.Deep

set_option maxRecDepth 100000 in
set_option maxHeartbeats 400000 in
theorem refPutString_any (k : Int) (v : Value) (l : List Nat) (w : World) (h : Rs w v l) (hb : l.length ≤ 140737488355000) :
    Calls Try.prog 16 #[.int .i64 k, v] w (RetPut (Wir.putString k l) w) := by
  have H := Lib.hid h
  obtain ⟨a, cap, rfl⟩ := h.form
  clear h
  go_enter Try.func16, Try.ntmps16
  go_wp2_with fail
  refine (refPut_any k l.length _ (by omega)).mono ?_
  rintro e w1 ⟨hbel, ⟨ho, rfl⟩ | ⟨hd, vh, ho, rfl, hown⟩⟩
  · have HO := Lib.hid ho; clear ho
    have HB := Lib.hid hbel; clear hbel
    go_wp2_with fail
    go_ret2
    exact ⟨HB.out, .inl ⟨by unfold Wir.putString; rw [HO.out]; rfl, rfl⟩⟩
  · have HO := Lib.hid ho
    have hlen : hd.length ≤ 8 := by
      unfold Wir.putNumber at ho
      split at ho
      · simp at ho
      · split at ho
        · simp at ho; rw [← ho, Wir.enc_length]; omega
        · simp at ho
    clear ho
    have hsz := hbel.size
    have HB := Lib.hid hbel; clear hbel
    have HW := Lib.hid hown
    obtain ⟨va, vcap, rfl⟩ := hown.form
    clear hown
    go_wp2_with (at_builtin; go_must (refine wpList_append_rs rfl _ _ rfl w.heap.size _ _ rfl HW.out _ l rfl (H.out.below HB.out) (by omega) hsz ?_; intro v2 w2 hown2 hgr2))
    have hb2 := below_only HB.out (Nat.le_refl _) hgr2 (fun g hg => (HW.out.lt g hg).1)
    clear hgr2
    have HB2 := Lib.hid hb2; clear hb2
    have HO2 := Lib.hid hown2; clear hown2
    go_wp2_with fail
    go_ret2
    exact ⟨HB2.out, .inr ⟨_, _, by unfold Wir.putString; rw [HO.out]; rfl, rfl, HO2.out⟩⟩
end Go.Proofs.Ythfbcpbjnfdnkaa
