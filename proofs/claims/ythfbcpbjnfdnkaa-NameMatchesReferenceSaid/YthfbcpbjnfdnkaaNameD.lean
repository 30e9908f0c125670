/- Layer 11: slices of strings of the call's own; Parse. -/
import Derived.Test.YthfbcpbjnfdnkaaNameC
import Derived.WalkMore
namespace Go.Proofs.Ythfbcpbjnfdnkaa
open Go.RowKit Go.Deep

/-- A slice of strings of the call's own. -/
def OwnS (w : World) (base : Nat) (v : Value) (ss : List ByteArray) : Prop := (∀ s, s ∈ ss → s.size ≤ maxLen) ∧ w.ownsRow base 9 1 v ss.length (ss.map Value.string)
theorem OwnS.nil (w : World) (base : Nat) : OwnS w base (.slice none 0 0) [] := ⟨(fun _ h => by cases h), World.ownsRow_nil _ _ _ _⟩
theorem OwnS.lt {w : World} {base : Nat} {v : Value} {ss : List ByteArray} (h : OwnS w base v ss) : ∀ g, v.ownBlock = some g → base ≤ g ∧ g < w.heap.size := h.2.lt
theorem OwnS.only {w w' : World} {base : Nat} {v : Value} {ss : List ByteArray} {r : Option Nat} (h : OwnS w base v ss) (k : w.grownBy w' r) (hne : v.ownBlock = none ∨ v.ownBlock ≠ r) : OwnS w' base v ss := ⟨h.1, h.2.kept k hne⟩
theorem OwnS.below {w w' : World} {base : Nat} {v : Value} {ss : List ByteArray} (h : OwnS w base v ss) (k : Below w.heap.size w w') : OwnS w' base v ss := h.only (only_of_below k none) (by cases hv : v.ownBlock <;> simp)
theorem OwnS.mono {w : World} {base base' : Nat} {v : Value} {ss : List ByteArray} (h : OwnS w base v ss) (hb : base' ≤ base) : OwnS w base' v ss := by
  refine ⟨h.1, h.2.1, ?_⟩
  rcases h.2.2 with h' | ⟨g, cap, cur, h1, h2, h3⟩
  · exact .inl h'
  · exact .inr ⟨g, cap, cur, h1, Nat.le_trans hb h2, h3⟩
theorem OwnS.alloc {w : World} {base : Nat} {v : Value} {ss : List ByteArray} (h : OwnS w base v ss) (o : Obj) : OwnS (w.alloc o) base v ss := ⟨h.1, h.2.alloc o⟩
theorem OwnS.cases {w : World} {base : Nat} {v : Value} {ss : List ByteArray} (h : OwnS w base v ss) : (v = .slice none 0 0 ∧ ss = []) ∨ ∃ g cap, v = .slice (some ⟨g, 0, none⟩) ss.length cap ∧ base ≤ g ∧ g < w.heap.size ∧ ss.length ≤ cap ∧ cap ≤ 9223372036854775807 ∧
    ∀ i, i < ss.length → w.cell? ⟨g, i, none⟩ = some (.string (ss.getD i ByteArray.empty)) := by
  obtain ⟨h0, h1⟩ := h
  rcases h1.2 with ⟨rfl, hn⟩ | ⟨g, cap, cur, rfl, hb, hg, hn, hc, hs, ht⟩
  · exact .inl ⟨rfl, List.eq_nil_of_length_eq_zero hn⟩
  · refine .inr ⟨g, cap, rfl, hb, (Array.getElem?_eq_some_iff.1 hg).1, hn, hc, fun i hi => ?_⟩
    rw [h1.cellAt i (by omega)]
    simp [List.getD, hi]
theorem OwnS.ss {w : World} {base : Nat} {v : Value} {ss : List ByteArray} (h : OwnS w base v ss) : Ss w v ss := by
  rcases h.cases with ⟨rfl, rfl⟩ | ⟨g, cap, rfl, _, _, h1, h2, hc⟩
  · exact Ss.nil w
  · exact ⟨h.1, by omega, .inr ⟨⟨g, 0, none⟩, cap, rfl, ⟨h1, h2⟩, fun i hi => by rw [Addr.add_lit, Nat.zero_add]; exact hc i hi⟩⟩
theorem grown_set {w : World} {p : Addr} (u : Value) : w.grownBy (w.setCell p u) (some p.block) := only_setCell (only_refl w _) (.inl rfl) u
theorem OwnS.apart {w : World} {base : Nat} {v : Value} {ss : List ByteArray} (h : OwnS w base v ss) {b : Nat} (hb : b < base) : some b ≠ v.ownBlock := fun e => by have := (h.lt b e.symm).1; omega
theorem OwnS.setCell {w : World} {base : Nat} {v : Value} {ss : List ByteArray} (h : OwnS w base v ss) {p : Addr} (hp : p.block < base) (u : Value) : OwnS (w.setCell p u) base v ss := by
  refine h.only (grown_set u) ?_
  cases hv : v.ownBlock with
  | none => exact .inl rfl
  | some g => exact .inr (fun e => by have := (h.lt g hv).1; cases e; omega)
theorem Hb.set {w : World} {b : Nat} {cs : Array Value} {t : TypeId} (h : Hb w b cs t) (i : Nat) (u : Value) : Hb (w.setCell ⟨b, i, none⟩ u) b (cs.setIfInBounds i u) t := by
  unfold Hb at h ⊢
  simp [World.setCell, Array.getElem?_modify, h]
theorem Hb.far {w : World} {b : Nat} {cs : Array Value} {t : TypeId} (h : Hb w b cs t) {p : Addr} (hp : b ≠ p.block) (u : Value) : Hb (w.setCell p u) b cs t := (Below.heap_setCell w p u b hp).trans h
/-- What a store of two cells asks. -/
theorem Hb.two {w : World} {b : Nat} {x y : Value} {t : TypeId} (h : Hb w b #[x, y] t) (u : Value) :
    w.cell? ⟨b, 0, none⟩ = some x ∧ w.cell? ⟨b, 1, none⟩ = some y ∧ w.frozen? ⟨b, 0, none⟩ = false ∧ w.frozen? ⟨b, 1, none⟩ = false ∧ (w.setCell ⟨b, 0, none⟩ u).cell? ⟨b, 1, none⟩ = some y ∧ (w.setCell ⟨b, 0, none⟩ u).frozen? ⟨b, 1, none⟩ = false :=
  ⟨h.cell (i := 0) rfl, h.cell (i := 1) rfl, h.frozen 0, h.frozen 1, (h.set 0 u).cell (i := 1) rfl, (h.set 0 u).frozen 1⟩
theorem info_name : (Try.prog.info? 53).map (·.size) = some 2 := by kernel_rfl
theorem info_str : (Try.prog.info? 9).map (fun i => (i.zero, i.size, i.bytes)) = some (some (.string ⟨#[]⟩), 1, 16) := by kernel_rfl
theorem wpList_append_one {w : World} {ops : Array Oper} {rest : List Oper} {o : Oper} {a : Act} {Q : Exit → Act → World → Prop} (hgd : o.guard = none) (s x : Operand)
    (ho : o.op = .call { callee := .builtin .append, args := #[s, x], argTypes := #[51, 51] })
    (base : Nat) (v : Value) (ss : List ByteArray) (hs : a.eval s = v) (hown : OwnS w base v ss) (g : Nat) (t : ByteArray) (ht : t.size ≤ maxLen) (hx : a.eval x = .slice (some ⟨g, 0, none⟩) 1 1) (hc : w.cell? ⟨g, 0, none⟩ = some (.string t))
    (hn : ss.length ≤ 1000000) (hbase : base ≤ w.heap.size)
    (h : ∀ a' c' w', OwnS w' base (.slice a' (ss.length + 1) c') (ss ++ [t]) → w.grownBy w' v.ownBlock → wpList Try.prog ops Q rest (a.put o.dst (.slice a' (ss.length + 1) c')) w') : wpList Try.prog ops Q (o :: rest) a w := by
  obtain ⟨i0, hi, hz0, hz1, hz2⟩ := info_parts info_str
  refine wpList_append_own w hgd s x 51 ho base 9 i0 (.string ⟨#[]⟩) 1 16 Try.underlying51 hi hz0 hz1 hz2 rfl (by decide) v ss.length (ss.map Value.string) hs hown.2 ⟨g, 0, none⟩ 1 1 [.string t] hx (by simp) ?_ ?_ ?_ (by omega) hbase ?_
  · intro j u hj
    match j, hj with
    | 0, hj => simp at hj; subst hj; rw [Addr.add_lit]; exact hc
  · intro u hu
    simp at hu; subst hu; rfl
  · unfold maxLen; omega
  · intro v' w' h3 h4 _
    have hO : OwnS w' base v' (ss ++ [t]) := by
      refine ⟨fun s hs => ?_, ?_⟩
      · rcases List.mem_append.1 hs with hs | hs
        · exact hown.1 s hs
        · rw [List.mem_singleton.1 hs]; exact ht
      · rw [List.length_append, List.map_append]
        exact h3
    obtain ⟨a', c', e⟩ := hO.ss.form
    rw [List.length_append, List.length_singleton] at e
    subst e
    exact h a' c' w' hO h4

/-! ### the parser's steps -/
def parseP (s : Nam.W) (ps : List Nam.W) : Option Nam.N := Nam.parseK (s.length + 1) s ps
theorem parseP_none {s : Nam.W} {ps : List Nam.W} (h : Nam.scan s [] = none) : parseP s ps = none := by
  unfold parseP Nam.parseK; rw [h]
theorem parseP_stop {s w r : Nam.W} {ps : List Nam.W} (h : Nam.scan s [] = some (w, r)) (k : r = [] ∨ ps.length = 8) : parseP s ps = none := by
  unfold parseP Nam.parseK; rw [h]; exact if_pos k
theorem parseP_at {s w t : Nam.W} {ps : List Nam.W} (h : Nam.scan s [] = some (w, 64 :: t)) (k : ps.length ≠ 8) : parseP s ps = match Nam.scan t [] with
    | some (x, []) => some ⟨x, ps ++ [w]⟩
    | _ => none := by
  conv => lhs; unfold parseP Nam.parseK
  rw [h]; dsimp only
  rw [if_neg (by simp [k]), if_pos rfl]
  rcases Nam.scan t [] with _ | ⟨x, _ | _⟩ <;> rfl
theorem parseP_slash {s w t : Nam.W} {ps : List Nam.W} (h : Nam.scan s [] = some (w, 47 :: t)) (k : ps.length ≠ 8) : parseP s ps = parseP t (ps ++ [w]) := by
  conv => lhs; unfold parseP Nam.parseK
  rw [h]; dsimp only
  rw [if_neg (by simp [k]), if_neg (by decide)]
  have := Nam.scan_rest h
  simp only [List.length_cons] at this
  exact Nam.parseK_fuel _ _ _ _ (by omega) (by omega)
/-- Where scan stops. -/
theorem scan_where {l w r : Nam.W} {i : Nat} (hi : i ≤ l.length) (h : Nam.scan (l.drop i) [] = some (w, r)) : ∃ j, i ≤ j ∧ j ≤ l.length ∧ l.length - r.length = j ∧ r = l.drop j ∧ Nam.word w = true ∧ (j = l.length ∨ (j < l.length ∧ (l.getD j 0 = 47 ∨ l.getD j 0 = 64))) := by
  obtain ⟨h1, h2, h3⟩ := (Nam.scan_iff _ _ _).1 h
  have hl := congrArg List.length h1
  simp only [List.length_drop, List.length_append] at hl
  have e : l = (l.take i ++ Nam.escape w) ++ r := by rw [List.append_assoc, ← h1, List.take_append_drop]
  have e2 : l.length - r.length = (l.take i ++ Nam.escape w).length := by
    rw [List.length_append, List.length_take]; omega
  have hr : l.drop (l.length - r.length) = r := by
    have : ∀ m : Nam.W, l = m ++ r → l.length - r.length = m.length → l.drop (l.length - r.length) = r := fun m e3 e4 => by
      rw [e4, e3, List.drop_left]
    exact this _ e e2
  refine ⟨l.length - r.length, by omega, by omega, rfl, hr.symm, h3, ?_⟩
  rcases h2 with h2 | ⟨c, t, h2, h4⟩
  · exact .inl (by rw [h2]; simp)
  · have hlen : l.length - r.length < l.length := by rw [h2] at hl ⊢; simp at hl ⊢; omega
    refine .inr ⟨hlen, ?_⟩
    have hd := drop_cons l _ hlen
    rw [hr, h2] at hd
    injection hd with e1 _
    rw [h2, ← e1]; exact h4

/-- What a reader of names returns: the name and whether there is one. -/
def RetName (w : World) (o : Option Nam.N) (e : Ending) (w' : World) : Prop :=
  w.grownBy w' none ∧ ∃ v ss r, e = .returned (.tuple #[.agg #[.string r, v], .bool o.isSome]) ∧ OwnS w' w.heap.size v ss ∧ r.size ≤ maxLen ∧ nm r ss = o.getD Nam.none0
theorem retName_none {w w' : World} {e : Ending} (hg : w.grownBy w' none) (he : e = .returned (.tuple #[.agg #[.string ⟨#[]⟩, .slice none 0 0], .bool false])) : RetName w none e w' :=
  ⟨hg, .slice none 0 0, [], ⟨#[]⟩, he, OwnS.nil _ _, Nat.zero_le _, rfl⟩
theorem fresh_set {w w2 : World} {r : Option Nat} (h : w.grownBy w2 r) {p : Addr} (hp : w.heap.size ≤ p.block) (u : Value) : w.grownBy (w2.setCell p u) r :=
  ⟨h.os, h.tape, h.output, by simpa [World.setCell] using h.size, fun i hi hne => (Below.heap_setCell w2 p u i (by rintro rfl; omega)).trans (h.block i hi hne)⟩
theorem results_cell_row_tmp {P : Program} {fn : Func} {p u : Tmp} {ty : TypeId} (h : fn.results = #[.cell p ty, .tmp u]) (tmps : Array Value) (w : World) (g : Nat) (t : TypeId) (cs : Array Value) (fr : Nat × Nat) (d : TypeDesc)
    (hp : tmps.getD p undef = .pointer (some ⟨g, 0, none⟩)) (hg : w.heap[g]? = some (.cells cs t fr))
    (hu : P.underlying ty = some d) (hd : (match d with | .struct _ | .array _ _ => true | _ => false) = true) (hi : (P.info? ty).map (·.size) = some cs.size) :
    (results fn tmps).run P w = .ok (.tuple #[.agg cs, tmps.getD u undef]) w := by
  rw [results_cell_tmp h, hp]
  simp [asAddr, Sem.run, Result.andThen, run_loadVar_row w g t ty cs fr d hg hu hd hi]

set_option maxRecDepth 100000 in
set_option maxHeartbeats 4000000 in
theorem parse_any (s : ByteArray) (w : World) (hs : s.size ≤ maxLen) :
    Calls Try.prog 31 #[.string s] w (RetName w (Nam.parse (bl s))) := by
  have hs' := hs
  unfold maxLen at hs
  go_enter Try.func31, Try.ntmps31
  have hR : parseP ((bl s).drop 0) [] = Nam.parse (bl s) := rfl
  generalize Nam.parse (bl s) = R at hR ⊢
  have HR := Lib.hid hR; clear hR
  go_wp2_with fail
  go_step3
  go_wp2_with fail
  go_step3
  go_wp2_with fail
  go_loopw [5] (fun x wr => ∃ (i : Nat) (v : Value) (ss : List ByteArray), x = .int .i64 i ∧ i ≤ s.size ∧ ss.length ≤ 8 ∧ Hb wr w.heap.size #[.string ⟨#[]⟩, .slice none 0 0] 53 ∧ Hb wr (w.heap.size + 1) #[.string ⟨#[]⟩, v] 53 ∧ OwnS wr (w.heap.size + 2) v ss ∧ w.grownBy wr none ∧ parseP ((bl s).drop i) (ss.map bl) = R) (fun x _ => s.size - (intOf x).toNat)
  case atStart =>
    refine ⟨0, _, [], rfl, Nat.zero_le _, by simp, (Hb.new w _ _).alloc _, ?_, OwnS.nil _ _, only_alloc (only_alloc (only_refl _ _) _) _, HR.out⟩
    have := Hb.new (w.alloc (.cells #[.string ⟨#[]⟩, .slice none 0 0] 53)) #[.string ⟨#[]⟩, .slice none 0 0] 53
    simpa using this
  case round =>
    obtain ⟨i, v, ss, rfl, hi, hn, hb0, hb1, hown, hg, hR⟩ := hrel
    clear HR
    have HR := Lib.hid hR; clear hR
    have O := Lib.hid hown; clear hown
    obtain ⟨va, vc, rfl⟩ := O.out.ss.form
    go_wp2_with (go_at_call 49; refine (scan_any s i _ hs' hi).mono ?_)
    rintro e w2 ⟨rfl, h2⟩
    have g2 := only_trans hg h2
    have k0 := hb0.only h2
    have k1 := hb1.only h2
    have O2 := Lib.hid (O.out.below (below_of_only h2))
    clear O hb0 hb1 hg h2
    cases hsc : Nam.scan ((bl s).drop i) [] with
    | none =>
      have HN := Lib.hid (parseP_none (ps := ss.map bl) hsc)
      unfold scanned
      obtain ⟨c0, c1, f0, f1, d1, e1⟩ := k0.two (.string ⟨#[]⟩)
      go_wp2_with fail
      have E1 := HR.out
      rw [HN.out] at E1
      try simp only [Exit.inBlock, Exit.then, Exit.noGoto_ret]
      refine bodyPost_ret (results_cell_row_tmp rfl _ _ w.heap.size _ _ (0, 0) _ rfl ((k0.set 0 _).set 1 _) rfl rfl info_name) rfl ?_
      rw [← E1]
      exact retName_none (fresh_set (fresh_set g2 (Nat.le_refl _) _) (Nat.le_refl _) _) rfl
    | some p =>
      obtain ⟨b, r⟩ := p
      obtain ⟨j, hij, hj, hjr, hr, hw, hlast⟩ := scan_where (by rw [bl_length]; exact hi) hsc
      rw [bl_length] at hj hjr hlast
      unfold scanned
      simp only
      rw [hjr]
      clear hjr
      obtain ⟨c0, c1, f0, f1, d1, e1⟩ := k0.two (.string ⟨#[]⟩)
      obtain ⟨n0, n1, m0, m1, -, -⟩ := k1.two (.string ⟨#[]⟩)
      by_cases hend : j = s.size
      · subst hend
        have HN := Lib.hid (parseP_stop (ps := ss.map bl) hsc (.inl (by rw [hr]; exact List.drop_eq_nil_of_le (by rw [bl_length]; omega))))
        clear hsc hlast
        go_wp2_with fail
        all_goals first | omega | skip
        all_goals (
          have E1 := HR.out
          rw [HN.out] at E1
          try simp only [Exit.inBlock, Exit.then, Exit.noGoto_ret]
          refine bodyPost_ret (results_cell_row_tmp rfl _ _ w.heap.size _ _ (0, 0) _ rfl ((k0.set 0 _).set 1 _) rfl rfl info_name) rfl ?_
          rw [← E1]
          exact retName_none (fresh_set (fresh_set g2 (Nat.le_refl _) _) (Nat.le_refl _) _) rfl)
      by_cases h8 : ss.length = 8
      · have HN := Lib.hid (parseP_stop (ps := ss.map bl) hsc (.inr (by simpa using h8)))
        clear hsc hlast
        go_wp2_with fail
        all_goals first | omega | skip
        all_goals (
          have E1 := HR.out
          rw [HN.out] at E1
          try simp only [Exit.inBlock, Exit.then, Exit.noGoto_ret]
          refine bodyPost_ret (results_cell_row_tmp rfl _ _ w.heap.size _ _ (0, 0) _ rfl ((k0.set 0 _).set 1 _) rfl rfl info_name) rfl ?_
          rw [← E1]
          exact retName_none (fresh_set (fresh_set g2 (Nat.le_refl _) _) (Nat.le_refl _) _) rfl)
      have hjl : j < s.size := by omega
      have hix := fun W => ix_run s j hjl W
      have hd := drop_cons (bl s) j (by rw [bl_length]; exact hjl)
      rcases hlast with hlast | ⟨-, hlast⟩
      · exact absurd hlast hend
      have hbs : (⟨b.toArray⟩ : ByteArray).size ≤ maxLen := by
        show b.toArray.size ≤ _
        have := (Nam.word_len hw).2
        unfold maxLen; simp; omega
      have hB : w.heap.size + 2 ≤ w2.heap.size := by have := k1.lt; omega
      have hemp : ss.map bl ++ [b] = (ss ++ [(⟨b.toArray⟩ : ByteArray)]).map bl := by simp [bl]
      have hno : ¬ (((j : Int) == (s.size : Int)) = true ∨ ((ss.length : Int) == 8) = true) := by
        simp only [beq_iff_eq]; omega
      rcases hlast with hc | hc
      · rw [hc] at hix hd
        rw [hr, hd] at hsc
        have HN := Lib.hid (parseP_slash (ps := ss.map bl) hsc (by simpa using h8))
        have HD := Lib.hid hd
        clear hsc hd hr
        go_wp2_with (first | (at_builtin; go_must (refine wpList_append_one rfl _ _ rfl (w.heap.size + 2) (.slice va ss.length vc) ss rfl (O2.out.alloc _) w2.heap.size ⟨b.toArray⟩ hbs rfl (cell_new _ _ _ 0 _ rfl) (by omega) (Nat.le_trans hB (by simp)) ?_; intro a3 c3 w3 hown3 hgr3; have q0 := (k0.alloc _).keep hgr3 (O2.out.apart (by omega)); have q1 := (k1.alloc _).keep hgr3 (O2.out.apart (by omega)); have x1 := q1.cell (i := 1) rfl; have y1 := q1.frozen 1)))
        all_goals first | omega | exact absurd (by assumption) hno | skip
        go_roundw
        case rel =>
          refine ⟨j + 1, _, ss ++ [⟨b.toArray⟩], by go_num, by omega, by simp; omega, q0.far (p := ⟨w.heap.size + 1, 1, none⟩) (Nat.ne_of_lt (Nat.lt_succ_self _)) _, q1.set 1 _, hown3.setCell (p := ⟨w.heap.size + 1, 1, none⟩) (Nat.lt_succ_self _) _, ?_, ?_⟩
          · have g3 : w.grownBy w3 none := only_of_below (below_only (below_of_only (only_alloc g2 _)) (Nat.le_refl _) hgr3 (fun g hg' => Nat.le_trans (by omega) (O2.out.lt g hg').1)) none
            exact fresh_set g3 (p := ⟨w.heap.size + 1, 1, none⟩) (Nat.le_succ _) _
          · rw [← hemp, ← HN.out]; exact HR.out
        case measure => simp [intOf]; omega
      · rw [hc] at hix hd
        rw [hr, hd] at hsc
        have HN := Lib.hid (parseP_at (ps := ss.map bl) hsc (by simpa using h8))
        clear hsc hd hr
        have E1 := HR.out
        rw [HN.out] at E1
        clear HN
        have hj1 : ((j + 1 : Nat) : Int) = (j : Int) + 1 := by omega
        cases hsx : Nam.scan ((bl s).drop (j + 1)) [] with
        | none =>
          rw [hsx] at E1
          go_wp2_with (first | (go_at_call 49; refine (scan_any s (j + 1) _ hs' hjl).mono ?_; rintro e w5 ⟨rfl, h5⟩; have p0 := (q0.far (p := ⟨w.heap.size + 1, 1, none⟩) (Nat.ne_of_lt (Nat.lt_succ_self _)) (.slice a3 (ss.length + 1) c3)).only h5; have p1 := (q1.set 1 (.slice a3 (ss.length + 1) c3)).only h5; obtain ⟨c05, c15, f05, f15, d15, e15⟩ := p0.two (.string ⟨#[]⟩); obtain ⟨n05, n15, m05, m15, nd5, ne5⟩ := p1.two (.string ⟨#[]⟩); rw [hsx]; unfold scanned; simp only; skip) | (at_builtin; go_must (refine wpList_append_one rfl _ _ rfl (w.heap.size + 2) (.slice va ss.length vc) ss rfl (O2.out.alloc _) w2.heap.size ⟨b.toArray⟩ hbs rfl (cell_new _ _ _ 0 _ rfl) (by omega) (Nat.le_trans hB (by simp)) ?_; intro a3 c3 w3 hown3 hgr3; have q0 := (k0.alloc _).keep hgr3 (O2.out.apart (by omega)); have q1 := (k1.alloc _).keep hgr3 (O2.out.apart (by omega)); have x1 := q1.cell (i := 1) rfl; have y1 := q1.frozen 1)))
          all_goals first | omega | exact absurd (by assumption) hno | skip
          have g3 : w.grownBy w3 none := only_of_below (below_only (below_of_only (only_alloc g2 _)) (Nat.le_refl _) hgr3 (fun g hg' => Nat.le_trans (by omega) (O2.out.lt g hg').1)) none
          have g5 : w.grownBy w5 none := only_trans (fresh_set g3 (p := ⟨w.heap.size + 1, 1, none⟩) (Nat.le_succ _) _) h5
          try simp only [Exit.inBlock, Exit.then, Exit.noGoto_ret]
          refine bodyPost_ret (results_cell_row_tmp rfl _ _ w.heap.size _ _ (0, 0) _ rfl ((p0.set 0 _).set 1 _) rfl rfl info_name) rfl ?_
          rw [← E1]
          exact retName_none (fresh_set (fresh_set g5 (Nat.le_refl _) _) (Nat.le_refl _) _) rfl
        | some q =>
          obtain ⟨x, r2⟩ := q
          obtain ⟨j2, hij2, hj2, hjr2, hr2, hw2, hlast2⟩ := scan_where (by rw [bl_length]; omega) hsx
          rw [bl_length] at hj2 hjr2 hlast2
          have hxs : (⟨x.toArray⟩ : ByteArray).size ≤ maxLen := by
            show x.toArray.size ≤ _
            have := (Nam.word_len hw2).2
            unfold maxLen; simp; omega
          by_cases hend2 : j2 = s.size
          · have hr0 : r2 = [] := by rw [hr2]; exact List.drop_eq_nil_of_le (by rw [bl_length]; omega)
            subst hend2
            rw [hsx, hr0] at E1
            clear hlast2
            go_wp2_with (first | (go_at_call 49; refine (scan_any s (j + 1) _ hs' hjl).mono ?_; rintro e w5 ⟨rfl, h5⟩; have p0 := (q0.far (p := ⟨w.heap.size + 1, 1, none⟩) (Nat.ne_of_lt (Nat.lt_succ_self _)) (.slice a3 (ss.length + 1) c3)).only h5; have p1 := (q1.set 1 (.slice a3 (ss.length + 1) c3)).only h5; obtain ⟨c05, c15, f05, f15, d15, e15⟩ := p0.two (.string ⟨x.toArray⟩); obtain ⟨n05, n15, m05, m15, nd5, ne5⟩ := p1.two (.string ⟨x.toArray⟩); rw [hsx]; unfold scanned; simp only; rw [hjr2]) | (at_builtin; go_must (refine wpList_append_one rfl _ _ rfl (w.heap.size + 2) (.slice va ss.length vc) ss rfl (O2.out.alloc _) w2.heap.size ⟨b.toArray⟩ hbs rfl (cell_new _ _ _ 0 _ rfl) (by omega) (Nat.le_trans hB (by simp)) ?_; intro a3 c3 w3 hown3 hgr3; have q0 := (k0.alloc _).keep hgr3 (O2.out.apart (by omega)); have q1 := (k1.alloc _).keep hgr3 (O2.out.apart (by omega)); have x1 := q1.cell (i := 1) rfl; have y1 := q1.frozen 1)))
            all_goals first | omega | exact absurd (by assumption) hno | skip
            have g3 : w.grownBy w3 none := only_of_below (below_only (below_of_only (only_alloc g2 _)) (Nat.le_refl _) hgr3 (fun g hg' => Nat.le_trans (by omega) (O2.out.lt g hg').1)) none
            have g5 : w.grownBy w5 none := only_trans (fresh_set g3 (p := ⟨w.heap.size + 1, 1, none⟩) (Nat.le_succ _) _) h5
            refine bodyPost_ret (results_cell_row_tmp rfl _ _ w.heap.size _ _ (0, 0) _ rfl (((p0.far (p := ⟨w.heap.size + 1, 0, none⟩) (Nat.ne_of_lt (Nat.lt_succ_self _)) _).set 0 _).set 1 _) rfl rfl info_name) rfl ?_
            rw [← E1]
            refine ⟨fresh_set (fresh_set (fresh_set g5 (p := ⟨w.heap.size + 1, 0, none⟩) (Nat.le_succ _) _) (Nat.le_refl _) _) (Nat.le_refl _) _, .slice a3 (ss.length + 1) c3, ss ++ [⟨b.toArray⟩], ⟨x.toArray⟩, rfl, ?_, hxs, ?_⟩
            · have o5 := (hown3.setCell (p := ⟨w.heap.size + 1, 1, none⟩) (Nat.lt_succ_self _) (.slice a3 (ss.length + 1) c3)).below (below_of_only h5)
              exact (((o5.setCell (p := ⟨w.heap.size + 1, 0, none⟩) (Nat.lt_succ_self _) _).setCell (p := ⟨w.heap.size, 0, none⟩) (Nat.lt_succ_of_lt (Nat.lt_succ_self _)) _).setCell (p := ⟨w.heap.size, 1, none⟩) (Nat.lt_succ_of_lt (Nat.lt_succ_self _)) _).mono (Nat.le_add_right _ 2)
            · unfold nm; rw [← hemp]; rfl
          · have hr0 : ∃ c t, r2 = c :: t := by
              cases r2 with
              | nil => exact absurd (by simpa using hjr2.symm) hend2
              | cons c t => exact ⟨c, t, rfl⟩
            have hne : ((j2 : Int) != (s.size : Int)) = true := by rw [bne_iff_ne]; omega
            obtain ⟨c, t, hr0⟩ := hr0
            rw [hsx, hr0] at E1
            clear hlast2
            go_wp2_with (first | (go_at_call 49; refine (scan_any s (j + 1) _ hs' hjl).mono ?_; rintro e w5 ⟨rfl, h5⟩; have p0 := (q0.far (p := ⟨w.heap.size + 1, 1, none⟩) (Nat.ne_of_lt (Nat.lt_succ_self _)) (.slice a3 (ss.length + 1) c3)).only h5; have p1 := (q1.set 1 (.slice a3 (ss.length + 1) c3)).only h5; obtain ⟨c05, c15, f05, f15, d15, e15⟩ := p0.two (.string ⟨#[]⟩); obtain ⟨n05, n15, m05, m15, nd5, ne5⟩ := p1.two (.string ⟨#[]⟩); rw [hsx]; unfold scanned; simp only; rw [hjr2]) | (at_builtin; go_must (refine wpList_append_one rfl _ _ rfl (w.heap.size + 2) (.slice va ss.length vc) ss rfl (O2.out.alloc _) w2.heap.size ⟨b.toArray⟩ hbs rfl (cell_new _ _ _ 0 _ rfl) (by omega) (Nat.le_trans hB (by simp)) ?_; intro a3 c3 w3 hown3 hgr3; have q0 := (k0.alloc _).keep hgr3 (O2.out.apart (by omega)); have q1 := (k1.alloc _).keep hgr3 (O2.out.apart (by omega)); have x1 := q1.cell (i := 1) rfl; have y1 := q1.frozen 1)))
            all_goals first | omega | exact absurd (by assumption) hno | skip
            have g3 : w.grownBy w3 none := only_of_below (below_only (below_of_only (only_alloc g2 _)) (Nat.le_refl _) hgr3 (fun g hg' => Nat.le_trans (by omega) (O2.out.lt g hg').1)) none
            have g5 : w.grownBy w5 none := only_trans (fresh_set g3 (p := ⟨w.heap.size + 1, 1, none⟩) (Nat.le_succ _) _) h5
            try simp only [Exit.inBlock, Exit.then, Exit.noGoto_ret]
            refine bodyPost_ret (results_cell_row_tmp rfl _ _ w.heap.size _ _ (0, 0) _ rfl ((p0.set 0 _).set 1 _) rfl rfl info_name) rfl ?_
            rw [← E1]
            exact retName_none (fresh_set (fresh_set g5 (Nat.le_refl _) _) (Nat.le_refl _) _) rfl
end Go.Proofs.Ythfbcpbjnfdnkaa
