/- Layer 11: the reference's Parse. -/
import Derived.Test.YthfbcpbjnfdnkaaNameH
import Derived.Test.YthfbcpbjnfdnkaaReg
import Derived.Deep.RegionLaw
namespace Go.Proofs.Ythfbcpbjnfdnkaa
open Go.RowKit Go.Deep

section
variable {P : Program} {ops : Array Oper} {o : Oper} {a : Act} {w : World} {K : Act → World → Prop} {Q : Exit → Act → World → Prop} {E : Prop}
/-- A law of the walk at an operation of a region that draws. -/
theorem lawQ_done (h : K a w) : wpList P ops (lawQ K Q) [] a w := h
theorem law_if (hg : o.guard = none) (h : wpList P #[] (lawQ K Q) [{ o with guard := none }] a w) : if Region.wanted o (yielded ops a.tmps) = true then Oper.wp P o a w K Q else E := by
  have hw : Region.wanted o (yielded ops a.tmps) = true := by simp [Region.wanted, hg]
  rw [if_pos hw]
  exact wp_of_law h
theorem call_if (hg : o.guard = none) (f : FuncId) (args : Array Value) (hrun : (execOp a.eval o).run P w = .ok (.enter f args) w) (h : Calls P f args w fun e w' => ∃ v, e = .returned v ∧ K (a.put o.dst v) w') :
    if Region.wanted o (yielded ops a.tmps) = true then Oper.wp P o a w K Q else E := by
  have hw : Region.wanted o (yielded ops a.tmps) = true := by simp [Region.wanted, hg]
  rw [if_pos hw]
  unfold Oper.wp
  rw [hrun]
  refine h.mono ?_
  rintro e w' ⟨v, rfl, hk⟩
  exact hk
end
theorem split_len (sign : UInt8) : ∀ (s cur : Nam.W), (Nam.split sign s cur).length ≤ s.length + 1
  | [], cur => by simp [Nam.split]
  | [c], cur => by
    unfold Nam.split
    split <;> (try split) <;> simp
  | c :: d :: t, cur => by
    unfold Nam.split
    split
    · have := split_len sign t (cur ++ [c, d]); simp; omega
    · split
      · have := split_len sign (d :: t) []; simp at this ⊢; omega
      · have := split_len sign (d :: t) (cur ++ [c]); simp at this ⊢; omega
theorem split_mem (sign : UInt8) : ∀ (s cur x : Nam.W), x ∈ Nam.split sign s cur → x.length ≤ cur.length + s.length
  | [], cur, x, h => by simp [Nam.split] at h; subst h; simp
  | [c], cur, x, h => by
    unfold Nam.split at h
    split at h <;> (try split at h) <;> simp at h
    · subst h; simp
    · rcases h with rfl | rfl <;> simp
    · subst h; simp
  | c :: d :: t, cur, x, h => by
    unfold Nam.split at h
    split at h
    · have := split_mem sign t _ x h; simp at this ⊢; omega
    · split at h
      · rcases List.mem_cons.1 h with rfl | h
        · simp
        · have := split_mem sign (d :: t) [] x h; simp at this ⊢; omega
      · have := split_mem sign (d :: t) _ x h; simp at this ⊢; omega
theorem plain_len : ∀ l : Nam.W, (Nam.plain l).length ≤ l.length
  | [] => by simp [Nam.plain]
  | [c] => by simp [Nam.plain]
  | c :: d :: t => by
    unfold Nam.plain
    split
    · have := plain_len t; simp; omega
    · have := plain_len (d :: t); simp at this ⊢; omega
theorem grown_new {w w3 wr : World} {g : Nat} (h : w.grownBy w3 none) (k : w3.grownBy wr (some g)) (hg : w.heap.size ≤ g) : w.grownBy wr none :=
  ⟨k.os.trans h.os, k.tape.trans h.tape, k.output.trans h.output, Nat.le_trans h.size k.size, fun i hi _ => (k.block i (Nat.lt_of_lt_of_le hi h.size) (fun e => by cases e; omega)).trans (h.block i hi (by simp))⟩
theorem grown_step {w3 wr w5 : World} {g : Nat} {v : Value} {ss : List ByteArray} {o : Obj} (hg : w3.grownBy wr (some g)) (ho : OwnS wr w3.heap.size v ss) (k : (wr.drew.alloc o).grownBy w5 v.ownBlock) : w3.grownBy w5 (some g) := by
  have h1 : w3.grownBy (wr.drew.alloc o) (some g) := only_alloc (w := wr.drew) ⟨hg.os, hg.tape, hg.output, hg.size, hg.block⟩ o
  refine ⟨k.os.trans h1.os, k.tape.trans h1.tape, k.output.trans h1.output, Nat.le_trans h1.size k.size, fun i hi hne => ?_⟩
  refine (k.block i (Nat.lt_of_lt_of_le hi h1.size) (fun e => ?_)).trans (h1.block i hi hne)
  have := (ho.lt i e.symm).1
  omega
theorem refParse_two {s : Nam.W} (h : (Nam.split 64 s []).length ≠ 2) : Nam.refParse s = none := by
  unfold Nam.refParse
  split
  · rename_i e; rw [e] at h; exact absurd rfl h
  · rfl
theorem refParse_pair {s a b : Nam.W} (h : Nam.split 64 s [] = [a, b]) : Nam.refParse s = if Nam.valid ⟨Nam.plain b, (Nam.split 47 a []).map Nam.plain⟩ = true ∧ Nam.text ⟨Nam.plain b, (Nam.split 47 a []).map Nam.plain⟩ = s then some ⟨Nam.plain b, (Nam.split 47 a []).map Nam.plain⟩ else none := by
  unfold Nam.refParse
  rw [h]
theorem refsplit64 (s : ByteArray) (w : World) (hs : s.size ≤ 900000) :
    Calls Try.prog 50 #[.string s, .int .u8 64] w fun e w' => ∃ v ss, e = .returned v ∧ OwnS w' w.heap.size v ss ∧ ss.map bl = Nam.split 64 (bl s) [] ∧ w.grownBy w' none := by
  have := refsplit_any s 64 w hs (by decide)
  rwa [show ((64 : UInt8).toNat : Int) = 64 from rfl] at this
theorem refsplit47 (s : ByteArray) (w : World) (hs : s.size ≤ 900000) :
    Calls Try.prog 50 #[.string s, .int .u8 47] w fun e w' => ∃ v ss, e = .returned v ∧ OwnS w' w.heap.size v ss ∧ ss.map bl = Nam.split 47 (bl s) [] ∧ w.grownBy w' none := by
  have := refsplit_any s 47 w hs (by decide)
  rwa [show ((47 : UInt8).toNat : Int) = 47 from rfl] at this

set_option maxRecDepth 100000 in
set_option maxHeartbeats 4000000 in
theorem refparse_any (s : ByteArray) (w : World) (hs : s.size ≤ 900000) :
    Calls Try.prog 32 #[.string s] w (RetName w (Nam.refParse (bl s))) := by
  have hb0 := Hb.new w #[.string ⟨#[]⟩, .slice none 0 0] 53
  go_enter Try.func32, Try.ntmps32
  go_wp2_with (go_at_call 50; refine (refsplit64 s _ hs).mono ?_)
  rintro e w1 ⟨v1, l1, rfl, o1, hl1, h1⟩
  have k0 := hb0.only h1
  have g1 := only_trans (only_alloc (only_refl w none) _) h1
  clear hb0 h1
  obtain ⟨va, vc, rfl⟩ := o1.ss.form
  by_cases h2 : l1.length = 2
  · match l1, h2 with
    | [a1, b1], _ =>
      simp only [List.map_cons, List.map_nil] at hl1
      have HP := Lib.hid (refParse_pair hl1.symm)
      have ha1 : a1.size ≤ 900000 := by
        have := split_mem 64 (bl s) [] (bl a1) (by rw [← hl1]; simp)
        rw [bl_length, bl_length] at this; simp at this; omega
      have hb1 : b1.size ≤ 900000 := by
        have := split_mem 64 (bl s) [] (bl b1) (by rw [← hl1]; simp)
        rw [bl_length, bl_length] at this; simp at this; omega
      have hlt := k0.lt
      obtain ⟨b, off, rfl, c0⟩ := o1.ss.at (k := 0) (by simp)
      obtain ⟨_, _, e0, c1⟩ := o1.ss.at (k := 1) (by simp)
      cases e0
      simp only [Nat.add_zero] at c0
      have c0 : w1.cell? ⟨b, off, none⟩ = some (.string a1) := c0
      have c1 : w1.cell? ⟨b, off + 1, none⟩ = some (.string b1) := c1
      have hpl := plain_len (bl b1)
      rw [bl_length] at hpl
      have hpz : (⟨(Nam.plain (bl b1)).toArray⟩ : ByteArray).size ≤ maxLen := by
        show (Nam.plain (bl b1)).toArray.size ≤ _
        unfold maxLen; simp; omega
      have ebl : bl ⟨(Nam.plain (bl b1)).toArray⟩ = Nam.plain (bl b1) := rfl
      have n0 := Hb.new w1 #[.string ⟨#[]⟩, .slice none 0 0] 53
      obtain ⟨x0, x1, y0, y1, z0, z1⟩ := n0.two (.string ⟨(Nam.plain (bl b1)).toArray⟩)
      have hbb : b < w1.heap.size := World.block_lt_of_cell? w1 _ c0
      have c0' : (w1.alloc (.cells #[.string ⟨(Nam.plain (bl b1)).toArray⟩, .slice none 0 0] 53)).cell? ⟨b, off, none⟩ = some (.string a1) := by
        rw [World.cell?_alloc_lt _ _ _ hbb, c0]
      have HC := Lib.hid (show True from trivial)
      go_wp2_with (first | (go_at_call 51; refine (refplain_any b1 _ (by omega)).mono ?_; rintro e w2 ⟨rfl, rfl⟩) | (go_at_call 50; refine (refsplit47 a1 _ ha1).mono ?_))
      rintro e w3 ⟨v3, l3, rfl, o3, hl3, h3⟩
      have n3 := (Hb.new w2 #[.string ⟨(Nam.plain (bl b1)).toArray⟩, .slice none 0 0] 53).only h3
      have k3 := (k0.alloc (.cells #[.string ⟨(Nam.plain (bl b1)).toArray⟩, .slice none 0 0] 53)).only h3
      have g3 := only_trans (only_alloc g1 _) h3
      have hl3n : l3.length ≤ 900001 := by
        have := split_len 47 (bl a1) []
        rw [← hl3, List.length_map, bl_length] at this
        omega
      have hl3s : ∀ i, i < l3.length → (l3.getD i ByteArray.empty).size ≤ 900000 := fun i hi => by
        have e : l3.getD i ByteArray.empty = l3[i] := by simp [List.getD, hi]
        have := split_mem 47 (bl a1) [] (bl l3[i]) (by rw [← hl3]; exact List.mem_map.2 ⟨_, List.getElem_mem hi, rfl⟩)
        rw [bl_length, bl_length] at this
        rw [e]; simp at this; omega
      have B1 : w2.heap.size < w3.heap.size := n3.lt
      have hsz0 := g1.size
      clear n0 x0 x1 y0 y1 z0 z1 c0 c1 c0' hbb o1 k0 h3 HC
      have O3 := Lib.hid (o3.mono (base' := w2.heap.size + 1) (by simp)); clear o3
      have ho3lt := O3.out.lt
      obtain ⟨wa, wc, rfl⟩ := O3.out.ss.form
      have HL3 := Lib.hid hl3; clear hl3
      have N3 := Lib.hid n3; clear n3
      have K3 := Lib.hid k3; clear k3
      generalize hbn : w2.heap.size = bn at *
      clear hbn
      go_wp2_with fail
      go_loopw [7] (fun x wr => ∃ (j : Nat) (v : Value) (ss : List ByteArray), x = .int .i64 j ∧ j ≤ l3.length ∧ ss.length = j ∧ Hb wr bn #[.string ⟨(Nam.plain (bl b1)).toArray⟩, v] 53 ∧ OwnS wr w3.heap.size v ss ∧ w3.grownBy wr (some bn) ∧ ss.map bl = ((l3.take j).map bl).map Nam.plain) (fun x _ => l3.length - (intOf x).toNat)
      case atStart => exact ⟨0, _, [], rfl, Nat.zero_le _, rfl, N3.out, OwnS.nil _ _, only_refl _ _, rfl⟩
      case round =>
        obtain ⟨j, v, ss, rfl, hj, hss, hn, ho, hg, hm⟩ := hrel
        subst hss
        obtain ⟨ya, yc, rfl⟩ := ho.ss.form
        have m0 := hn.cell (i := 0) rfl
        have m1 := hn.cell (i := 1) rfl
        have hsz3 := hg.size
        by_cases hjl : ss.length < l3.length
        · have ss3 := (O3.out.only hg (.inr (fun e => (O3.out.apart (Nat.lt_succ_self _)) e.symm))).ss
          obtain ⟨b', off', e', hc⟩ := ss3.at hjl
          cases e'
          have hts := hl3s ss.length hjl
          have htk := take_snoc_ss l3 ss.length hjl
          generalize l3.getD ss.length ByteArray.empty = t at hc hts htk
          have HM := Lib.hid hm; clear hm
          have HT := Lib.hid htk; clear htk
          have hcd : wr.drew.cell? ⟨b', off' + ss.length, none⟩ = some (.string t) := hc
          have m1d : wr.drew.cell? ⟨bn, 1, none⟩ = some (.slice ya ss.length yc) := m1
          have hnd : Hb wr.drew bn #[.string ⟨(Nam.plain (bl b1)).toArray⟩, .slice ya ss.length yc] 53 := hn
          have hod : OwnS wr.drew w3.heap.size (.slice ya ss.length yc) ss := ho
          have m1e : (wr.alloc (.cells #[.string ⟨(Nam.plain (bl t)).toArray⟩] 9)).cell? ⟨bn, 1, none⟩ = some (.slice ya ss.length yc) := (hn.alloc _).cell (i := 1) rfl
          have hpt := plain_len (bl t)
          rw [bl_length] at hpt
          have hptz : (⟨(Nam.plain (bl t)).toArray⟩ : ByteArray).size ≤ maxLen := by
            show (Nam.plain (bl t)).toArray.size ≤ _
            unfold maxLen; simp; omega
          go_wp2_with fail
          go_region_law (first
            | (refine law_if rfl ?_; refine wpList_append_one rfl _ _ rfl w3.heap.size (.slice ya ss.length yc) ss rfl (hod.alloc _) wr.heap.size ⟨(Nam.plain (bl t)).toArray⟩ hptz rfl (cell_new wr.drew #[.string ⟨(Nam.plain (bl t)).toArray⟩] 9 0 _ rfl) (by omega) (Nat.le_trans hsz3 (by simp)) ?_; intro a3 c3 w5 hown5 hgr5; have q1 := (hnd.alloc (.cells #[.string ⟨(Nam.plain (bl t)).toArray⟩] 9)).keep hgr5 (ho.apart B1); have x5 := q1.cell (i := 1) rfl; have y5 := q1.frozen 1; refine lawQ_done ?_)
            | (refine call_if rfl 51 #[.string t] (by kernel_rfl) ?_; refine (refplain_any t _ (by omega)).mono ?_; rintro e w5 ⟨rfl, rfl⟩; refine ⟨_, rfl, ?_⟩))
          all_goals (
            go_wp2_with fail
            go_roundw
            case rel =>
              refine ⟨ss.length + 1, _, ss ++ [⟨(Nam.plain (bl t)).toArray⟩], by go_num, by omega, by simp, q1.set 1 _, hown5.setCell (p := ⟨bn, 1, none⟩) B1 _, only_set (grown_step hg ho hgr5) 1 _, ?_⟩
              rw [HT.out, List.map_append, List.map_append, List.map_append, HM.out]; rfl
            case measure => simp [intOf]; omega)
        · have hjl : ss.length = l3.length := by omega
          rw [hjl, List.take_length, HL3.out] at hm
          have hnm : nm ⟨(Nam.plain (bl b1)).toArray⟩ ss = ⟨Nam.plain (bl b1), (Nam.split 47 (bl a1) []).map Nam.plain⟩ := by unfold nm; rw [hm]
          rw [← hnm] at HP
          have gr : w.grownBy wr none := grown_new g3 hg (Nat.le_of_lt hlt)
          have k0r := K3.out.keep hg (fun e => by cases e; omega)
          clear hm hnm HL3 N3 hjl hg
          generalize hpb : (⟨(Nam.plain (bl b1)).toArray⟩ : ByteArray) = pb at *
          clear hpb
          have HO := Lib.hid ho; clear ho
          have HN1 := Lib.hid hn; clear hn
          go_wp2_with (go_at_call 36; refine (refvalid_any pb hpz _ ss _ HO.out.ss).mono ?_)
          all_goals first | omega | skip
          rintro e w6 ⟨rfl, h6⟩
          have g6 := only_trans gr h6
          have k6 := k0r.only h6
          have n6 := HN1.out.only h6
          have o6 := HO.out.below (below_of_only h6)
          obtain ⟨c0, c1, f0, f1, d1, e1⟩ := k6.two (.string ⟨#[]⟩)
          clear h6 m0 m1
          cases hv : Nam.valid (nm pb ss)
          · have HF := Lib.hid (show Nam.refParse (bl s) = none by rw [HP.out, hv]; simp)
            go_wp2_with fail
            try simp only [Exit.inBlock, Exit.then, Exit.noGoto_ret]
            refine bodyPost_ret (results_cell_row_tmp rfl _ _ w.heap.size _ _ (0, 0) _ rfl ((k6.set 0 _).set 1 _) rfl rfl info_name) rfl ?_
            rw [HF.out]
            exact retName_none (fresh_set (fresh_set g6 (Nat.le_refl _) _) (Nat.le_refl _) _) rfl
          have m0 := n6.cell (i := 0) rfl
          have m1 := n6.cell (i := 1) rfl
          go_wp2_with (go_at_call 39; refine (reftext_any pb hpz _ ss _ o6.ss).mono ?_)
          rintro e w7 ⟨rfl, h7⟩
          have g7 := only_trans g6 h7
          have k7 := k6.only h7
          have n7 := n6.only h7
          have o7 := o6.below (below_of_only h7)
          clear c0 c1 f0 f1 d1 e1 m0 m1 h7
          by_cases ht : Nam.text (nm pb ss) = bl s
          · have HF := Lib.hid (show Nam.refParse (bl s) = some (nm pb ss) by rw [HP.out, if_pos ⟨hv, ht⟩])
            have hcmp : ((⟨(Nam.text (nm pb ss)).toArray⟩ : ByteArray).toList == s.toList) = true := by rw [ht, mk_bl]; simp
            have hcmp2 : (Nam.text (nm pb ss) == s.toList) = true := by rw [ht, ByteArray.toList_eq]; simp [bl]
            have m0 := n7.cell (i := 0) rfl
            have m1 := n7.cell (i := 1) rfl
            obtain ⟨c0, c1, f0, f1, d1, e1⟩ := k7.two (.string pb)
            go_wp2_with fail
            all_goals first | omega | skip
            try simp only [Exit.inBlock, Exit.then, Exit.noGoto_ret]
            refine bodyPost_ret (results_cell_row_tmp rfl _ _ w.heap.size _ _ (0, 0) _ rfl ((k7.set 0 _).set 1 _) rfl rfl info_name) rfl ?_
            rw [HF.out]
            have h03 : w.heap.size < w3.heap.size := Nat.lt_trans hlt B1
            exact ⟨fresh_set (fresh_set g7 (Nat.le_refl _) _) (Nat.le_refl _) _, _, ss, pb, rfl, ((o7.setCell (p := ⟨w.heap.size, 0, none⟩) h03 _).setCell (p := ⟨w.heap.size, 1, none⟩) h03 _).mono (Nat.le_of_lt h03), hpz, rfl⟩
          · have HF := Lib.hid (show Nam.refParse (bl s) = none by rw [HP.out]; exact if_neg (fun h => ht h.2))
            have hcmp : ((⟨(Nam.text (nm pb ss)).toArray⟩ : ByteArray).toList == s.toList) = false := by rw [ByteArray.toList_mk, ByteArray.toList_eq]; simpa using ht
            have hcmp2 : (Nam.text (nm pb ss) == s.toList) = false := by rw [ByteArray.toList_eq]; simpa using ht
            obtain ⟨c0, c1, f0, f1, d1, e1⟩ := k7.two (.string ⟨#[]⟩)
            go_wp2_with fail
            all_goals first | omega | skip
            try simp only [Exit.inBlock, Exit.then, Exit.noGoto_ret]
            refine bodyPost_ret (results_cell_row_tmp rfl _ _ w.heap.size _ _ (0, 0) _ rfl ((k7.set 0 _).set 1 _) rfl rfl info_name) rfl ?_
            rw [HF.out]
            exact retName_none (fresh_set (fresh_set g7 (Nat.le_refl _) _) (Nat.le_refl _) _) rfl
  · have HN := Lib.hid (refParse_two (s := bl s) (by rw [← hl1, List.length_map]; exact h2))
    obtain ⟨c0, c1, f0, f1, d1, e1⟩ := k0.two (.string ⟨#[]⟩)
    have hne : ((l1.length : Int) != 2) = true := by rw [bne_iff_ne]; omega
    clear hl1
    go_wp2_with fail
    all_goals first | omega | skip
    try simp only [Exit.inBlock, Exit.then, Exit.noGoto_ret]
    refine bodyPost_ret (results_cell_row_tmp rfl _ _ w.heap.size _ _ (0, 0) _ rfl ((k0.set 0 _).set 1 _) rfl rfl info_name) rfl ?_
    rw [HN.out]
    exact retName_none (fresh_set (fresh_set g1 (Nat.le_refl _) _) (Nat.le_refl _) _) rfl
end Go.Proofs.Ythfbcpbjnfdnkaa
