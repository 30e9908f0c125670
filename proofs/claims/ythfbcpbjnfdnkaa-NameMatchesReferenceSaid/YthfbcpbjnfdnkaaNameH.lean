/- Layer 11: the reference's split. -/
import Derived.Test.YthfbcpbjnfdnkaaNameG
namespace Go.Proofs.Ythfbcpbjnfdnkaa
open Go.RowKit Go.Deep

theorem cur_snoc (l : Nam.W) (i f : Nat) (h : i < l.length) (hf : f ≤ i) : (l.take (i + 1)).drop f = (l.take i).drop f ++ [l.getD i 0] := by
  rw [take_snoc l i h, List.drop_append_of_le_length (by rw [List.length_take]; omega)]
theorem split_nil (sign : UInt8) (cur : Nam.W) : Nam.split sign [] cur = [cur] := by
  conv => lhs; unfold Nam.split
theorem split_92 (sign : UInt8) (l : Nam.W) (i f : Nat) (h : i < l.length) (hf : f ≤ i) (hc : l.getD i 0 = 92) : Nam.split sign (l.drop i) ((l.take i).drop f) = Nam.split sign (l.drop (i + 2)) ((l.take (i + 2)).drop f) := by
  rw [drop_cons l i h, hc]
  rcases Nat.lt_or_ge (i + 1) l.length with h1 | h1
  · rw [drop_cons l (i + 1) h1, Nam.split_back, cur_snoc l (i + 1) f h1 (by omega), cur_snoc l i f h hf, hc]
    simp
  · rw [List.drop_eq_nil_of_le h1, List.drop_eq_nil_of_le (show l.length ≤ i + 2 by omega), List.take_of_length_le (show l.length ≤ i + 2 by omega), split_nil]
    have e : l.drop f = (l.take i).drop f ++ [92] := by
      have := cur_snoc l i f h hf
      rw [hc, List.take_of_length_le (show l.length ≤ i + 1 by omega)] at this
      exact this
    rw [e]
    conv => lhs; unfold Nam.split
    rw [if_pos rfl]
theorem split_here (sign : UInt8) (l : Nam.W) (i f : Nat) (h : i < l.length) (hs : sign ≠ 92) (hc : l.getD i 0 = sign) : Nam.split sign (l.drop i) ((l.take i).drop f) = (l.take i).drop f :: Nam.split sign (l.drop (i + 1)) ((l.take (i + 1)).drop (i + 1)) := by
  rw [drop_cons l i h, hc, Nam.split_sign _ _ _ hs, List.drop_eq_nil_of_le (show (l.take (i + 1)).length ≤ i + 1 by rw [List.length_take]; omega)]
theorem split_on (sign : UInt8) (l : Nam.W) (i f : Nat) (h : i < l.length) (hf : f ≤ i) (h92 : l.getD i 0 ≠ 92) (hc : l.getD i 0 ≠ sign) : Nam.split sign (l.drop i) ((l.take i).drop f) = Nam.split sign (l.drop (i + 1)) ((l.take (i + 1)).drop f) := by
  rw [drop_cons l i h, Nam.split_step _ _ _ _ h92 hc, cur_snoc l i f h hf]
theorem extract_size (s : ByteArray) (i j : Nat) : (s.extract i j).size ≤ s.size := by
  rw [← bl_length, bl_extract, List.length_drop, List.length_take, bl_length]; omega

set_option maxRecDepth 100000 in
set_option maxHeartbeats 2000000 in
theorem refsplit_any (s : ByteArray) (sign : UInt8) (w : World) (hs : s.size ≤ 900000) (hsg : sign ≠ 92) :
    Calls Try.prog 50 #[.string s, .int .u8 sign.toNat] w fun e w' => ∃ v ss, e = .returned v ∧ OwnS w' w.heap.size v ss ∧ ss.map bl = Nam.split sign (bl s) [] ∧ w.grownBy w' none := by
  go_enter Try.func50, Try.ntmps50
  have hR : ([] : List ByteArray).map bl ++ Nam.split sign ((bl s).drop 0) (((bl s).take 0).drop 0) = Nam.split sign (bl s) [] := rfl
  generalize Nam.split sign (bl s) [] = R at hR ⊢
  have HR := Lib.hid hR; clear hR
  have hml : s.size ≤ maxLen := by unfold maxLen; omega
  go_wp2_with fail
  go_loopw [5, 6, 7] (fun x y z wr => ∃ (i f : Nat) (ss : List ByteArray), i ≤ s.size + 1 ∧ f ≤ i ∧ f ≤ s.size ∧ ss.length ≤ f ∧ OwnS wr w.heap.size x ss ∧ y = .int .i64 f ∧ z = .int .i64 i ∧ w.grownBy wr none ∧ ss.map bl ++ Nam.split sign ((bl s).drop i) (((bl s).take i).drop f) = R) (fun _ _ z _ => s.size + 1 - (intOf z).toNat)
  case atStart => exact ⟨0, 0, [], by omega, Nat.le_refl _, Nat.zero_le _, Nat.le_refl _, OwnS.nil _ _, rfl, rfl, only_refl _ _, HR.out⟩
  case round =>
    obtain ⟨i, f, ss, hi, hfi, hfs, hssf, hown, rfl, rfl, hg, hR⟩ := hrel
    clear HR
    have HR := Lib.hid hR; clear hR
    obtain ⟨va, vc, rfl⟩ := hown.ss.form
    have hsz := hg.size
    by_cases hp : i < s.size
    · have hix := fun W => ix_run s i hp W
      by_cases h92 : (bl s).getD i 0 = 92
      · have HP := Lib.hid (split_92 sign (bl s) i f (by rw [bl_length]; exact hp) hfi h92)
        rw [h92] at hix
        go_wp2_with fail
        all_goals first | omega | skip
        go_roundw
        case rel => exact ⟨i + 2, f, ss, by omega, by omega, hfs, hssf, hown, rfl, by go_num, hg, by rw [← HP.out]; exact HR.out⟩
        case measure => simp [intOf]; omega
      · by_cases hc : (bl s).getD i 0 = sign
        · have HP := Lib.hid (split_here sign (bl s) i f (by rw [bl_length]; exact hp) hsg hc)
          rw [hc] at hix
          have hs92 : ¬ (sign.toNat : Int) = 92 := fun h => hsg (nat_of_eq.2 h)
          clear h92 hc
          have hxz : (s.extract f i).size ≤ maxLen := Nat.le_trans (extract_size s f i) hml
          go_wp2_with (at_builtin; go_must (refine wpList_append_one rfl _ _ rfl w.heap.size (.slice va ss.length vc) ss rfl (hown.alloc _) wr.heap.size (s.extract f i) hxz rfl (cell_new _ _ _ 0 _ rfl) (by omega) (Nat.le_trans hsz (by simp)) ?_; intro a3 c3 w3 hown3 hgr3))
          all_goals first | omega | skip
          go_roundw
          case rel =>
            refine ⟨i + 1, i + 1, ss ++ [s.extract f i], by omega, Nat.le_refl _, by omega, by simp; omega, ?_, by go_num, by go_num, ?_, ?_⟩
            · exact hown3
            · exact only_of_below (below_only (below_of_only (only_alloc hg _)) (Nat.le_refl _) hgr3 (fun g hg' => (hown.lt g hg').1)) none
            · rw [List.map_append, List.map_singleton, bl_extract, List.append_assoc, List.singleton_append, ← HP.out]; exact HR.out
          case measure => simp [intOf]; omega
        · have HP := Lib.hid (split_on sign (bl s) i f (by rw [bl_length]; exact hp) hfi h92 hc)
          rw [nat_of_eq] at h92 hc
          rw [show ((92 : UInt8).toNat : Int) = 92 from rfl] at h92
          generalize (bl s).getD i 0 = c at hix h92 hc
          go_wp2_with fail
          all_goals first | omega | skip
          go_roundw
          case rel => exact ⟨i + 1, f, ss, by omega, by omega, hfs, hssf, hown, rfl, by go_num, hg, by rw [← HP.out]; exact HR.out⟩
          case measure => simp [intOf]; omega
    · have hxz : (s.extract f s.size).size ≤ maxLen := Nat.le_trans (extract_size s f s.size) hml
      have E := HR.out
      rw [List.drop_eq_nil_of_le (show (bl s).length ≤ i by rw [bl_length]; omega), List.take_of_length_le (show (bl s).length ≤ i by rw [bl_length]; omega), split_nil] at E
      go_wp2_with (at_builtin; go_must (refine wpList_append_one rfl _ _ rfl w.heap.size (.slice va ss.length vc) ss rfl (hown.alloc _) wr.heap.size (s.extract f s.size) hxz rfl (cell_new _ _ _ 0 _ rfl) (by omega) (Nat.le_trans hsz (by simp)) ?_; intro a3 c3 w3 hown3 hgr3))
      all_goals first | omega | skip
      go_ret
      refine ⟨_, ss ++ [s.extract f s.size], rfl, hown3, ?_, only_of_below (below_only (below_of_only (only_alloc hg _)) (Nat.le_refl _) hgr3 (fun g hg' => (hown.lt g hg').1)) none⟩
      rw [List.map_append, List.map_singleton, bl_extract, ← E, ← bl_length, List.take_length]
end Go.Proofs.Ythfbcpbjnfdnkaa
