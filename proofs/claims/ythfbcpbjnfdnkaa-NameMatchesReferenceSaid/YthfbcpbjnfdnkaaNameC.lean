/- Layer 11: scan. -/
import Derived.Test.YthfbcpbjnfdnkaaNameB
import Derived.Test.YthfbcpbjnfdnkaaMemB
import Derived.Laws.IdiomStrings
namespace Go.Proofs.Ythfbcpbjnfdnkaa
open Go.RowKit Go.Deep

/-- string(b). -/
theorem str_run {w : World} {v : Value} {l : List Nat} (h : Bs w v l) : (convert 23 9 v).run Try.prog w = .ok (.string ⟨(Nam.fromN l).toArray⟩) w := by
  rcases h.cases with ⟨rfl, rfl⟩ | ⟨b, off, cap, rfl, _, _, _, hc⟩
  · exact run_convert_bytes_nil w 23 5 Try.underlying23 Try.underlying5 0 0 9 Try.underlying9
  · have := run_convert_bytes_back (P := Try.prog) w 23 9 5 ⟨b, off, none⟩ cap (Nam.fromN l) Try.underlying23 Try.underlying5 Try.underlying9 (fun j hj => by
      rw [Nam.fromN_length] at hj
      rw [Addr.add_lit, hc j hj]
      have hl := h.all _ (List.getElem_mem hj)
      simp [Nam.fromN, bv, List.getD, hj]
      omega)
    rwa [Nam.fromN_length] at this
theorem snoc_bytes (b : Nam.W) (c : UInt8) : Nam.toN b ++ [c.toNat] = Nam.toN (b ++ [c]) := by simp [Nam.toN]
theorem drop_cons (l : Nam.W) (i : Nat) (h : i < l.length) : l.drop i = l.getD i 0 :: l.drop (i + 1) := by
  rw [List.drop_eq_getElem_cons h]
  simp [List.getD, h]
/-- What scan hands back of a text of n bytes. -/
def scanned (n : Nat) : Option (Nam.W × Nam.W) → Value
  | some (b, r) => .tuple #[.string ⟨b.toArray⟩, .int .i64 ((n - r.length : Nat) : Int), .bool true]
  | none => .tuple #[.string ⟨#[]⟩, .int .i64 0, .bool false]
theorem scan_nil (b : Nam.W) : Nam.scan [] b = if Nam.word b then some (b, []) else none := by
  conv => lhs; unfold Nam.scan
theorem scan_stop {c : UInt8} {t b : Nam.W} (h : c = 47 ∨ c = 64) : Nam.scan (c :: t) b = if Nam.word b then some (b, c :: t) else none := by
  conv => lhs; unfold Nam.scan
  rw [if_pos h]
theorem scan_back_nil {b : Nam.W} : Nam.scan [92] b = none := by
  conv => lhs; unfold Nam.scan
  rw [if_neg (by decide), if_pos rfl]
theorem scan_back_bad {d : UInt8} {t b : Nam.W} (h : Nam.esc d = false) : Nam.scan (92 :: d :: t) b = none := by
  conv => lhs; unfold Nam.scan
  rw [if_neg (by decide), if_pos rfl]
  simp [h]
theorem scan_back_full {d : UInt8} {t b : Nam.W} (hb : b.length = 100) : Nam.scan (92 :: d :: t) b = none := by
  conv => lhs; unfold Nam.scan
  rw [if_neg (by decide), if_pos rfl]
  simp [hb]
theorem scan_back {d : UInt8} {t b : Nam.W} (h : Nam.esc d = true) (hb : b.length ≠ 100) : Nam.scan (92 :: d :: t) b = Nam.scan t (b ++ [d]) := by
  conv => lhs; unfold Nam.scan
  rw [if_neg (by decide), if_pos rfl]
  simp [h, hb]
theorem scan_full {c : UInt8} {t b : Nam.W} (h : ¬ (c = 47 ∨ c = 64)) (h2 : c ≠ 92) (hb : b.length = 100) : Nam.scan (c :: t) b = none := by
  conv => lhs; unfold Nam.scan
  rw [if_neg h, if_neg h2, if_pos hb]
theorem scan_step {c : UInt8} {t b : Nam.W} (h : ¬ (c = 47 ∨ c = 64)) (h2 : c ≠ 92) (hb : b.length ≠ 100) : Nam.scan (c :: t) b = Nam.scan t (b ++ [c]) := by
  conv => lhs; unfold Nam.scan
  rw [if_neg h, if_neg h2, if_neg hb]
theorem nat_of_eq {c d : UInt8} : c = d ↔ (c.toNat : Int) = d.toNat := by
  rw [← UInt8.toNat_inj]; omega
theorem below_only_none {w wr w2 : World} {v : Value} {l : List Nat} {o : Obj} (hg : w.grownBy wr none) (h : Own wr w.heap.size v l) (k : (wr.alloc o).grownBy w2 v.ownBlock) : w.grownBy w2 none :=
  only_of_below (below_only (below_of_only (only_alloc hg o)) (Nat.le_refl _) k (fun g hg' => (h.lt g hg').1)) none
set_option maxRecDepth 100000 in
set_option maxHeartbeats 2000000 in
theorem scan_any (s : ByteArray) (i0 : Nat) (w : World) (hs : s.size ≤ maxLen) (h0 : i0 ≤ s.size) :
    Calls Try.prog 49 #[.string s, .int .i64 i0] w fun e w' => e = .returned (scanned s.size (Nam.scan ((bl s).drop i0) [])) ∧ w.grownBy w' none := by
  unfold maxLen at hs
  go_enter Try.func49, Try.ntmps49
  generalize hR : Nam.scan ((bl s).drop i0) [] = R
  have HR := Lib.hid hR; clear hR
  go_wp2_with fail
  go_loopw [1, 7] (fun x v wr => ∃ (i : Nat) (b : Nam.W), x = .int .i64 i ∧ i ≤ s.size ∧ b.length ≤ 100 ∧ Own wr w.heap.size v (Nam.toN b) ∧ w.grownBy wr none ∧ Nam.scan ((bl s).drop i) b = R) (fun x _ _ => s.size - (intOf x).toNat)
  case atStart => exact ⟨i0, [], rfl, h0, by simp, Own.nil _ _, only_refl _ _, HR.out⟩
  case round =>
    obtain ⟨i, b, rfl, hi, hb, hown, hg, hR⟩ := hrel
    clear HR
    have HR := Lib.hid hR; clear hR
    obtain ⟨va, vc, rfl⟩ := hown.form
    rw [Nam.toN_length] at *
    have O := Lib.hid hown; clear hown
    have hbs : (⟨b.toArray⟩ : ByteArray).size ≤ maxLen := by
      show b.toArray.size ≤ _
      unfold maxLen; simp; omega
    by_cases hp : i < s.size
    · have hix := ix_run s i hp wr
      have hd := drop_cons (bl s) i (by rw [bl_length]; exact hp)
      generalize hc : (bl s).getD i 0 = c at hix hd
      clear hc
      by_cases hstop : c = 47 ∨ c = 64
      · have HN := Lib.hid (show Nam.scan ((bl s).drop i) b = if Nam.word b then some (b, (bl s).drop i) else none by rw [hd]; exact scan_stop hstop)
        clear hd
        rw [nat_of_eq, nat_of_eq] at hstop
        simp only [show ((47 : UInt8).toNat : Int) = 47 from rfl, show ((64 : UInt8).toNat : Int) = 64 from rfl, show ((92 : UInt8).toNat : Int) = 92 from rfl] at hstop
        rcases hstop with hv | hv
        · rw [hv] at hix
          have hcv := str_run O.out.bs
          rw [Nam.from_to] at hcv
          go_wp2_with (go_at_call 57; refine (word_any ⟨b.toArray⟩ _ hbs).mono ?_)
          all_goals first | omega | skip
          all_goals (
            rintro e w2 ⟨rfl, h2⟩
            have g2 := only_trans hg h2
            have eb : bl ⟨b.toArray⟩ = b := rfl
            rw [eb]
            have E1 := HR.out
            rw [HN.out] at E1
            cases hw : Nam.word b
            · rw [hw] at E1
              go_wp2_with fail
              go_ret3
              exact ⟨by rw [← E1]; rfl, g2⟩
            · rw [hw] at E1
              go_wp2_with fail
              go_ret3
              exact ⟨by rw [← E1]; show _ = Ending.returned (.tuple #[.string ⟨b.toArray⟩, .int .i64 ((s.size - ((bl s).drop i).length : Nat) : Int), .bool true]); rw [show s.size - ((bl s).drop i).length = i by rw [List.length_drop, bl_length]; omega]; rfl, g2⟩)
        · rw [hv] at hix
          have hcv := str_run O.out.bs
          rw [Nam.from_to] at hcv
          go_wp2_with (go_at_call 57; refine (word_any ⟨b.toArray⟩ _ hbs).mono ?_)
          all_goals first | omega | skip
          all_goals (
            rintro e w2 ⟨rfl, h2⟩
            have g2 := only_trans hg h2
            have eb : bl ⟨b.toArray⟩ = b := rfl
            rw [eb]
            have E1 := HR.out
            rw [HN.out] at E1
            cases hw : Nam.word b
            · rw [hw] at E1
              go_wp2_with fail
              go_ret3
              exact ⟨by rw [← E1]; rfl, g2⟩
            · rw [hw] at E1
              go_wp2_with fail
              go_ret3
              exact ⟨by rw [← E1]; show _ = Ending.returned (.tuple #[.string ⟨b.toArray⟩, .int .i64 ((s.size - ((bl s).drop i).length : Nat) : Int), .bool true]); rw [show s.size - ((bl s).drop i).length = i by rw [List.length_drop, bl_length]; omega]; rfl, g2⟩)
      · by_cases h92 : c = 92
        · subst h92
          simp only [show ((47 : UInt8).toNat : Int) = 47 from rfl, show ((64 : UInt8).toNat : Int) = 64 from rfl, show ((92 : UInt8).toNat : Int) = 92 from rfl] at hix
          by_cases hq : i + 1 < s.size
          · have hd2 := drop_cons (bl s) (i + 1) (by rw [bl_length]; exact hq)
            have hix2 := ix_run s (i + 1) hq wr
            rw [show ((i + 1 : Nat) : Int) = (i : Int) + 1 by omega] at hix2
            generalize hcd : (bl s).getD (i + 1) 0 = d at hix2 hd2
            clear hcd
            rw [hd2] at hd
            cases he : Nam.esc d
            · have HN := Lib.hid (show Nam.scan ((bl s).drop i) b = none by rw [hd]; exact scan_back_bad he)
              clear hd hd2
              have E1 := HR.out
              rw [HN.out] at E1
              go_wp2_with (go_at_call 53; refine (escaped_any d _).mono ?_; rintro e w2 ⟨rfl, rfl⟩; rw [he])
              all_goals first | omega | skip
              go_wp2_with fail
              all_goals first | omega | skip
              all_goals (go_ret3; exact ⟨by rw [← E1]; rfl, hg⟩)
            · by_cases hfull : b.length = 100
              · have HN := Lib.hid (show Nam.scan ((bl s).drop i) b = none by rw [hd]; exact scan_back_full hfull)
                clear hd hd2
                have E1 := HR.out
                rw [HN.out] at E1
                go_wp2_with (go_at_call 53; refine (escaped_any d _).mono ?_; rintro e w2 ⟨rfl, rfl⟩; rw [he])
                all_goals first | omega | skip
                go_wp2_with fail
                all_goals first | omega | skip
                all_goals (go_ret3; exact ⟨by rw [← E1]; rfl, hg⟩)
              · have HN := Lib.hid (scan_back (t := (bl s).drop (i + 1 + 1)) he hfull)
                have HD := Lib.hid hd; clear hd hd2
                have hsz := hg.size
                have hcB := d.toNat_lt
                go_wp2_with (first | (go_at_call 53; refine (escaped_any d _).mono ?_; rintro e w3 ⟨rfl, rfl⟩; rw [he]) | (at_builtin; go_must (refine wpList_append_bs rfl _ _ rfl w.heap.size (.slice va b.length vc) (Nam.toN b) rfl (O.out.alloc _) _ [d.toNat] rfl (own_built _ _ [d.toNat] (AllB.one hcB) hsz (by simp)).bs (by rw [Nam.toN_length]; simp; omega) (Nat.le_trans hsz (by simp)) ?_; intro v2 w2 hown2 hgr2)))
                all_goals first | omega | skip
                go_wp2_with fail
                all_goals first | omega | skip
                go_roundw
                case rel =>
                  refine ⟨i + 1 + 1, b ++ [d], by go_num, by omega, by simp; omega, ?_, ?_, ?_⟩
                  · rw [← snoc_bytes]; exact hown2
                  · exact below_only_none hg O.out hgr2
                  · rw [← HN.out, ← HD.out]; exact HR.out
                case measure => simp [intOf]; omega
          · have hi1 : i + 1 = s.size := by omega
            have HN := Lib.hid (show Nam.scan ((bl s).drop i) b = none by rw [hd, List.drop_eq_nil_of_le (by rw [bl_length]; omega)]; exact scan_back_nil)
            clear hd
            have E1 := HR.out
            rw [HN.out] at E1
            go_wp2_with fail
            all_goals first | omega | skip
            all_goals (go_ret3; exact ⟨by rw [← E1]; rfl, hg⟩)
        · by_cases hfull : b.length = 100
          · have HN := Lib.hid (show Nam.scan ((bl s).drop i) b = none by rw [hd]; exact scan_full hstop h92 hfull)
            clear hd
            rw [nat_of_eq] at h92
            rw [nat_of_eq, nat_of_eq] at hstop
            simp only [show ((47 : UInt8).toNat : Int) = 47 from rfl, show ((64 : UInt8).toNat : Int) = 64 from rfl, show ((92 : UInt8).toNat : Int) = 92 from rfl] at h92 hstop
            have e47 : ((c.toNat : Int) != 47) = true := by rw [bne_iff_ne]; omega
            have e64 : ((c.toNat : Int) != 64) = true := by rw [bne_iff_ne]; omega
            have e92 : ((c.toNat : Int) == 92) = false := by rw [beq_eq_false_iff_ne]; omega
            have E1 := HR.out
            rw [HN.out] at E1
            go_wp2_with fail
            all_goals first | omega | skip
            all_goals (go_ret3; exact ⟨by rw [← E1]; rfl, hg⟩)
          · have HN := Lib.hid (scan_step (t := (bl s).drop (i + 1)) hstop h92 hfull)
            rw [nat_of_eq] at h92
            rw [nat_of_eq, nat_of_eq] at hstop
            simp only [show ((47 : UInt8).toNat : Int) = 47 from rfl, show ((64 : UInt8).toNat : Int) = 64 from rfl, show ((92 : UInt8).toNat : Int) = 92 from rfl] at h92 hstop
            have e47 : ((c.toNat : Int) != 47) = true := by rw [bne_iff_ne]; omega
            have e64 : ((c.toNat : Int) != 64) = true := by rw [bne_iff_ne]; omega
            have e92 : ((c.toNat : Int) == 92) = false := by rw [beq_eq_false_iff_ne]; omega
            have HD := Lib.hid hd; clear hd
            have hsz := hg.size
            have hcB := c.toNat_lt
            go_wp2_with (first | (at_builtin; go_must (refine wpList_append_bs rfl _ _ rfl w.heap.size (.slice va b.length vc) (Nam.toN b) rfl (O.out.alloc _) _ [c.toNat] rfl (own_built _ _ [c.toNat] (AllB.one hcB) hsz (by simp)).bs (by rw [Nam.toN_length]; simp; omega) (Nat.le_trans hsz (by simp)) ?_; intro v2 w2 hown2 hgr2)))
            all_goals first | omega | skip
            go_wp2_with fail
            all_goals first | omega | skip
            go_roundw
            case rel =>
              refine ⟨i + 1, b ++ [c], by go_num, by omega, by simp; omega, ?_, ?_, ?_⟩
              · rw [← snoc_bytes]; exact hown2
              · exact below_only_none hg O.out hgr2
              · rw [← HN.out, ← HD.out]; exact HR.out
            case measure => simp [intOf]; omega
    · obtain rfl : i = s.size := by omega
      have HN := Lib.hid (show Nam.scan ((bl s).drop s.size) b = if Nam.word b then some (b, (bl s).drop s.size) else none by rw [List.drop_eq_nil_of_le (by rw [bl_length]; omega)]; exact scan_nil b)
      have hcv := str_run O.out.bs
      rw [Nam.from_to] at hcv
      go_wp2_with (go_at_call 57; refine (word_any ⟨b.toArray⟩ _ hbs).mono ?_)
      all_goals first | omega | skip
      all_goals (
        rintro e w2 ⟨rfl, h2⟩
        have g2 := only_trans hg h2
        have eb : bl ⟨b.toArray⟩ = b := rfl
        rw [eb]
        have E1 := HR.out
        rw [HN.out] at E1
        cases hw : Nam.word b
        · rw [hw] at E1
          go_wp2_with fail
          go_ret3
          exact ⟨by rw [← E1]; rfl, g2⟩
        · rw [hw] at E1
          go_wp2_with fail
          go_ret3
          exact ⟨by rw [← E1]; show _ = Ending.returned (.tuple #[.string ⟨b.toArray⟩, .int .i64 ((s.size - ((bl s).drop s.size).length : Nat) : Int), .bool true]); rw [show s.size - ((bl s).drop s.size).length = s.size by rw [List.length_drop, bl_length]; omega]; rfl, g2⟩)
end Go.Proofs.Ythfbcpbjnfdnkaa
