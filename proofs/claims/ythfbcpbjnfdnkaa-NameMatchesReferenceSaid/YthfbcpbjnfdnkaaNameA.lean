/- Layer 11: words, in the program and in the reference. -/
import Derived.Test.YthfbcpbjnfdnkaaNameMathB
import Derived.Test.YthfbcpbjnfdnkaaMem
import Derived.Lib.OthersKept
import Derived.WalkKit
import Derived.BigCall
namespace Go.Proofs.Ythfbcpbjnfdnkaa
open Go.RowKit Go.Deep

/-- The bytes of a string. -/
abbrev bl (s : ByteArray) : Nam.W := s.data.toList
theorem bl_length (s : ByteArray) : (bl s).length = s.size := rfl
theorem bl_get (s : ByteArray) (i : Nat) (h : i < s.size) : (s[i]'h) = (bl s).getD i 0 := by
  have : i < (bl s).length := by rw [bl_length]; exact h
  simp only [List.getD, List.getElem?_eq_getElem this, Option.getD_some]
  simp [bl]; rfl
theorem take_snoc (l : Nam.W) (i : Nat) (h : i < l.length) : l.take (i + 1) = l.take i ++ [l.getD i 0] := by
  rw [List.take_add_one]
  simp [List.getD, h]
theorem all_take_snoc (l : Nam.W) (p : UInt8 → Bool) (i : Nat) (h : i < l.length) : (l.take (i + 1)).all p = ((l.take i).all p && p (l.getD i 0)) := by
  rw [take_snoc l i h, List.all_append]; simp
theorem all_take_false (l : Nam.W) (p : UInt8 → Bool) (i : Nat) (h : i < l.length) (hp : p (l.getD i 0) = false) : l.all p = false := by
  rw [← List.take_append_drop (i + 1) l, List.all_append, all_take_snoc l p i h, hp]; simp
theorem word_short {s : ByteArray} (h : s.size < 1 ∨ 100 < s.size) : Nam.word (bl s) = false := by
  unfold Nam.word
  rw [bl_length]
  rcases h with h | h
  · have : ¬ 1 ≤ s.size := by omega
    simp [this]
  · have : ¬ s.size ≤ 100 := by omega
    simp [this]
theorem word_bad {s : ByteArray} {i : Nat} (h : i < s.size) (hp : Nam.okc ((bl s).getD i 0) = false) : Nam.word (bl s) = false := by
  unfold Nam.word
  rw [all_take_false _ _ i (by rw [bl_length]; exact h) hp, Bool.and_false]
theorem word_good {s : ByteArray} (h1 : ¬ s.size < 1) (h2 : ¬ 100 < s.size) (hp : ((bl s).take s.size).all Nam.okc = true) : Nam.word (bl s) = true := by
  unfold Nam.word
  rw [← bl_length, List.take_length] at hp
  rw [hp, bl_length]
  simp; omega
theorem okc_nat (c : UInt8) : Nam.okc c = (decide (33 ≤ c.toNat) && decide (c.toNat ≤ 126)) := by
  unfold Nam.okc
  congr 1
theorem only_iterAt {a w : World} {r : Option Nat} (h : a.grownBy w r) {k : Nat} (hk : a.heap.size ≤ k) (s : ByteArray) (pos : Nat) : a.grownBy (w.iterAt k s pos) r :=
  ⟨h.os, h.tape, h.output, by rw [Lib.iterAt_size]; exact h.size, fun i hi hn => (Lib.iterAt_other w k i s pos (by omega)).trans (h.block i hi hn)⟩

set_option maxRecDepth 100000 in
set_option maxHeartbeats 1000000 in
theorem word_any (s : ByteArray) (w : World) (hs : s.size ≤ maxLen) :
    Calls Try.prog 57 #[.string s] w fun e w' => e = .returned (.bool (Nam.word (bl s))) ∧ w.grownBy w' none := by
  unfold maxLen at hs
  by_cases h1 : s.size < 1
  · have HF := Lib.hid (word_short (.inl h1))
    go_enter Try.func57, Try.ntmps57
    go_wp2
    all_goals first | omega | skip
    all_goals (go_ret; exact ⟨by rw [HF.out]; rfl, only_refl _ _⟩)
  by_cases h2 : 100 < s.size
  · have HF := Lib.hid (word_short (.inr h2))
    go_enter Try.func57, Try.ntmps57
    go_wp2
    all_goals first | omega | skip
    all_goals (go_ret; exact ⟨by rw [HF.out]; rfl, only_refl _ _⟩)
  go_enter Try.func57, Try.ntmps57
  go_wp2
  all_goals first | omega | skip
  go_loopw [] (fun wr => ∃ pos, pos ≤ s.size ∧ wr.heap[w.heap.size]? = some (.stringIter s pos) ∧ w.grownBy wr none ∧ ((bl s).take pos).all Nam.okc = true) (fun wr => s.size - wr.iterPos w.heap.size)
  case atStart => exact ⟨0, Nat.zero_le _, World.iter_heap w s 0, only_alloc (only_refl _ _) _, rfl⟩
  case round =>
    obtain ⟨pos, hle, hit, hg, hall⟩ := hrel
    by_cases hp : pos < s.size
    · by_cases ha : (s[pos]'hp).toNat < 128
      · have hnx : ∀ ty, (Instr.next (.pointer (some ⟨w.heap.size, 0, none⟩)) true ty).run Try.prog wr = _ := fun ty => Lib.run_next_ascii_at wr w.heap.size s pos ty hit hp ha
        have hc := bl_get s pos hp
        rw [hc] at hnx
        have hit2 := Lib.iterAt_heap wr w.heap.size s pos (pos + 1) hit
        have hg2 := only_iterAt hg (Nat.le_refl _) s (pos + 1)
        by_cases hok : Nam.okc ((bl s).getD pos 0) = true
        · have hall2 : ((bl s).take (pos + 1)).all Nam.okc = true := by rw [all_take_snoc _ _ _ (by rw [bl_length]; exact hp), hall, hok]; rfl
          rw [okc_nat] at hok
          simp only [Bool.and_eq_true, decide_eq_true_eq] at hok
          generalize ((bl s).getD pos 0).toNat = c at hnx hok
          have HA := Lib.hid hall2
          clear hall hall2 hc ha
          go_wp2
          all_goals first | omega | skip
          go_roundw
          case rel => exact ⟨pos + 1, hp, hit2, hg2, HA.out⟩
          case measure =>
            simp only [World.iterPos, hit2, hit]
            omega
        · have hok' : Nam.okc ((bl s).getD pos 0) = false := by simpa using hok
          have HF := Lib.hid (word_bad hp hok')
          rw [okc_nat] at hok'
          simp only [Bool.and_eq_false_iff, decide_eq_false_iff_not] at hok'
          generalize ((bl s).getD pos 0).toNat = c at hnx hok'
          clear hall hc ha hok
          go_wp2
          all_goals first | omega | skip
          all_goals (go_ret; exact ⟨by rw [HF.out]; rfl, hg2⟩)
      · have hnx : ∀ ty, (Instr.next (.pointer (some ⟨w.heap.size, 0, none⟩)) true ty).run Try.prog wr = _ := fun ty => Lib.run_next_any_at wr w.heap.size s pos ty hit hp
        have hd := (decode_high s pos hp (by omega)).1
        have hc := bl_get s pos hp
        rw [hc] at ha
        have HF := Lib.hid (word_bad hp (by rw [okc_nat]; simp only [Bool.and_eq_false_iff, decide_eq_false_iff_not]; omega))
        have hg2 := only_iterAt hg (Nat.le_refl _) s (pos + (Utf8.decode s pos).2)
        generalize (Utf8.decode s pos).1 = c at hnx hd
        generalize (Utf8.decode s pos).2 = d at hnx hg2
        clear hall hc ha
        go_wp2
        all_goals first | omega | skip
        all_goals (go_ret; exact ⟨by rw [HF.out]; rfl, hg2⟩)
    · have hnx : ∀ ty, (Instr.next (.pointer (some ⟨w.heap.size, 0, none⟩)) true ty).run Try.prog wr = _ := fun ty => Lib.run_next_end_at wr w.heap.size s pos ty hit hp
      obtain rfl : pos = s.size := by omega
      have HF := Lib.hid (word_good h1 h2 hall)
      clear hall
      go_wp2
      go_ret
      exact ⟨by rw [HF.out]; rfl, hg⟩

theorem ix_run (s : ByteArray) (i : Nat) (h : i < s.size) (w : World) : (Instr.index 9 (.string s) (.int .i64 (i : Int))).run Try.prog w = .ok (.int .u8 ((bl s).getD i 0).toNat) w := by
  rw [run_index_string w _ s _ _ Try.underlying9, dif_pos ⟨by omega, by omega⟩]
  simp only [Int.toNat_natCast]
  rw [bl_get]
set_option maxRecDepth 100000 in
set_option maxHeartbeats 1000000 in
theorem refword_any (s : ByteArray) (w : World) (hs : s.size ≤ maxLen) :
    Calls Try.prog 56 #[.string s] w fun e w' => e = .returned (.bool (Nam.word (bl s))) ∧ w.grownBy w' none := by
  unfold maxLen at hs
  go_enter Try.func56, Try.ntmps56
  go_wp2
  go_loop [3] (fun i => ∃ j : Nat, j ≤ s.size ∧ i = .int .i64 j ∧ ((bl s).take j).all Nam.okc = true) (fun i => s.size - (intOf i).toNat)
  case atStart => exact ⟨0, Nat.zero_le _, rfl, rfl⟩
  case round =>
    obtain ⟨j, hle, rfl, hall⟩ := hrel
    by_cases hp : j < s.size
    · have hix := ix_run s j hp w
      by_cases hok : Nam.okc ((bl s).getD j 0) = true
      · have hall2 : ((bl s).take (j + 1)).all Nam.okc = true := by rw [all_take_snoc _ _ _ (by rw [bl_length]; exact hp), hall, hok]; rfl
        rw [okc_nat] at hok
        simp only [Bool.and_eq_true, decide_eq_true_eq] at hok
        generalize ((bl s).getD j 0).toNat = c at hix hok
        have HA := Lib.hid hall2
        clear hall hall2
        go_wp2
        all_goals first | omega | skip
        go_round
        case rel => exact ⟨j + 1, by omega, by go_num, HA.out⟩
        case measure => simp [intOf]; omega
      · have hok' : Nam.okc ((bl s).getD j 0) = false := by simpa using hok
        have HF := Lib.hid (word_bad hp hok')
        rw [okc_nat] at hok'
        simp only [Bool.and_eq_false_iff, decide_eq_false_iff_not] at hok'
        generalize ((bl s).getD j 0).toNat = c at hix hok'
        clear hall hok
        go_wp2
        all_goals first | omega | skip
        all_goals (go_ret; exact ⟨by rw [HF.out]; rfl, only_refl _ _⟩)
    · obtain rfl : j = s.size := by omega
      by_cases h1 : s.size < 1
      · have HF := Lib.hid (word_short (.inl h1))
        clear hall
        go_wp2
        all_goals first | omega | skip
        all_goals (go_ret; exact ⟨by rw [HF.out]; rfl, only_refl _ _⟩)
      by_cases h2 : 100 < s.size
      · have HF := Lib.hid (word_short (.inr h2))
        clear hall
        go_wp2
        all_goals first | omega | skip
        all_goals (go_ret; exact ⟨by rw [HF.out, show (false : Bool) = decide ((s.size : Int) ≤ 100) from (decide_eq_false (by omega)).symm]; rfl, only_refl _ _⟩)
      have HF := Lib.hid (word_good h1 h2 hall)
      clear hall
      go_wp2
      all_goals first | omega | skip
      all_goals (go_ret; exact ⟨by rw [HF.out, show (true : Bool) = decide ((s.size : Int) ≤ 100) from (decide_eq_true (by omega)).symm]; rfl, only_refl _ _⟩)
theorem esc_nat (c : UInt8) : Nam.esc c = (decide ((c.toNat : Int) = 47) || (decide ((c.toNat : Int) = 64) || decide ((c.toNat : Int) = 92))) := by
  rw [Bool.eq_iff_iff, Nam.esc_iff]
  simp only [Bool.or_eq_true, decide_eq_true_eq, ← UInt8.toNat_inj]
  have e1 : (47 : UInt8).toNat = 47 := rfl
  have e2 : (64 : UInt8).toNat = 64 := rfl
  have e3 : (92 : UInt8).toNat = 92 := rfl
  rw [e1, e2, e3]
  omega
set_option maxRecDepth 100000 in
set_option maxHeartbeats 1000000 in
theorem escaped_any (c : UInt8) (w : World) :
    Calls Try.prog 53 #[.int .u8 c.toNat] w fun e w' => e = .returned (.bool (Nam.esc c)) ∧ w' = w := by
  have HF := Lib.hid (esc_nat c)
  generalize c.toNat = x at HF ⊢
  go_enter Try.func53, Try.ntmps53
  go_wp2
  all_goals (go_ret; refine ⟨congrArg (fun b : Bool => Ending.returned (.bool b)) ?_, rfl⟩; rw [HF.out]; clear HF)
  · simp_all
  · simp_all
  · rw [← Bool.or_assoc]; rfl
end Go.Proofs.Ythfbcpbjnfdnkaa
