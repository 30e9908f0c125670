/- Joined strings are read one after the other: for every list of bytes the law returns true. No condition. -/
import Derived.Test.YthfbcpbjnfdnkaaWireKitB
import Derived.Maps.AppendAt
import Derived.Deep.RegionHeld3
namespace Wir
/-- A string behind its length in two bytes. -/
def two (l : List Nat) : List Nat := (putString 2 l).getD []
theorem two_put {l : List Nat} (h : l.length ≤ 300) : putString 2 l = some (two l) := by
  have e : putNumber 2 l.length = some (enc 2 l.length) := by
    unfold putNumber
    rw [if_neg (by omega), if_pos (by show l.length < 256 ^ 2; omega)]
    rfl
  unfold two putString
  rw [e]
  rfl
theorem two_len {l : List Nat} (h : l.length ≤ 300) : (two l).length ≤ 308 := by
  have := putString_len (two_put h); omega
theorem join_two_len (ll : List (List Nat)) (h : ∀ i, i < ll.length → (ll.getD i []).length ≤ 300) : (join (ll.map two)).length ≤ 308 * ll.length := by
  induction ll with
  | nil => simp [join]
  | cons l ll ih =>
    have h0 := h 0 (by simp)
    have ht := ih fun i hi => by have := h (i + 1) (by simp; omega); simpa using this
    simp only [List.map_cons, join, List.flatten_cons, List.length_append] at ht ⊢
    have h0 : l.length ≤ 300 := by simpa using h0
    have := two_len h0
    simp only [List.length_cons]
    omega
theorem join_drop (ll : List (List Nat)) (j : Nat) (h : j < ll.length) : join ((ll.drop j).map two) = two (ll.getD j []) ++ join ((ll.drop (j + 1)).map two) := by
  have e : ll.drop j = ll[j] :: ll.drop (j + 1) := List.drop_eq_getElem_cons h
  have e2 : ll.getD j [] = ll[j] := by simp [List.getD, h]
  rw [e, e2, List.map_cons]
  rfl
theorem read_two {ll : List (List Nat)} {j : Nat} (h : j < ll.length) (hl : (ll.getD j []).length ≤ 300) : string ⟨join ((ll.drop j).map two), false⟩ 2 = (⟨join ((ll.drop (j + 1)).map two), false⟩, ll.getD j []) := by
  rw [join_drop ll j h]
  exact string_put (two_put hl) _
end Wir
namespace Go.Proofs.Ythfbcpbjnfdnkaa
open Go.ChangeShapes Go.WideShapes Go.ChangeAt Go.RowKit Go.Deep

theorem Rs.only {w w' : World} {u : Value} {l : List Nat} {r : Option Nat} (h : Rs w u l) (k : w.grownBy w' r) (hne : u.ownBlock = none ∨ u.ownBlock ≠ r) : Rs w' u l := by
  obtain ⟨h0, h1, h | ⟨x, cap, rfl, hc⟩⟩ := h
  · exact ⟨h0, h1, .inl h⟩
  · refine ⟨h0, h1, .inr ⟨x, cap, rfl, fun i hi => k.cell (hc i hi) ?_⟩⟩
    rcases hne with h | h
    · simp [Value.ownBlock] at h
    · have e : (x.add i).block = x.block := by unfold Addr.add; split <;> rfl
      rw [e]; exact h

/-- A row of the call's own that holds byte slices. -/
def OwnSS (w : World) (base : Nat) (v : Value) (ll : List (List Nat)) : Prop :=
  ∃ vs : List Value, w.ownsRow base 23 1 v ll.length vs ∧ ∀ i u, vs[i]? = some u → Rs w u (ll.getD i []) ∧ u.oneCell' = true ∧ (u.ownBlock = none ∨ u.ownBlock ≠ v.ownBlock) ∧ ∀ b, u.ownBlock = some b → b < w.heap.size
theorem OwnSS.below {w w' : World} {base : Nat} {v : Value} {ll : List (List Nat)} (h : OwnSS w base v ll) (k : Below w.heap.size w w') : OwnSS w' base v ll := by
  obtain ⟨vs, h1, h2⟩ := h
  refine ⟨vs, h1.kept (only_of_below k none) (by cases hv : v.ownBlock <;> simp), fun i u hu => ?_⟩
  obtain ⟨a, b, c, d⟩ := h2 i u hu
  exact ⟨a.below k, b, c, fun x hx => Nat.lt_of_lt_of_le (d x hx) k.size⟩
theorem OwnSS.bss {w : World} {base : Nat} {v : Value} {ll : List (List Nat)} (h : OwnSS w base v ll) (hl : ll.length ≤ 9223372036854775807) : Bss w v ll := by
  obtain ⟨vs, h1, h2⟩ := h
  rcases h1.2 with ⟨rfl, hn⟩ | ⟨g, cap, cur, rfl, hb, hg, hn, hc, hs, ht⟩
  · exact ⟨none, 0, by rw [hn], hl, fun hne => absurd (List.eq_nil_of_length_eq_zero hn) hne⟩
  · refine ⟨_, cap, rfl, hl, fun _ => ⟨g, 0, rfl, fun i hi => ?_⟩⟩
    have hlen : vs.length = ll.length := by have := h1.1; omega
    have hi' : i < vs.length := by omega
    refine ⟨vs[i], ?_, (h2 i _ (List.getElem?_eq_getElem hi')).1⟩
    rw [Nat.zero_add, h1.cellAt i (by omega)]
    exact List.getElem?_eq_getElem hi'
theorem OwnSS.form {w : World} {base : Nat} {v : Value} {ll : List (List Nat)} (h : OwnSS w base v ll) : ∃ a c, v = .slice a ll.length c := by
  obtain ⟨vs, h1, _⟩ := h
  rcases h1.2 with ⟨e, hn⟩ | ⟨g, c, cur, e, _⟩
  · exact ⟨none, 0, by rw [e, hn]⟩
  · exact ⟨_, c, e⟩
theorem info_bs : (Try.prog.info? 23).map (fun i => (i.zero, i.size, i.bytes)) = some (some (.slice none 0 0), 1, 24) := by kernel_rfl

theorem wpList_append_ss {w : World} {ops : Array Oper} {rest : List Oper} {o : Oper} {a : Act} {Q : Exit → Act → World → Prop} (hgd : o.guard = none) (s x : Operand)
    (ho : o.op = .call { callee := .builtin .append, args := #[s, x], argTypes := #[35, 35] })
    (base : Nat) (v : Value) (ll : List (List Nat)) (hs : a.eval s = v) (hown : OwnSS w base v ll) (b : Nat) (u : Value) (l : List Nat) (hx : a.eval x = .slice (some ⟨b, 0, none⟩) 1 1) (hu : w.cell? ⟨b, 0, none⟩ = some u) (hr : Rs w u l) (h1 : u.oneCell' = true)
    (hub : u.ownBlock = none ∨ u.ownBlock ≠ v.ownBlock) (hlt : ∀ b, u.ownBlock = some b → b < w.heap.size)
    (hn : ll.length ≤ 1000000) (hbase : base ≤ w.heap.size)
    (h : ∀ v' w', OwnSS w' base v' (ll ++ [l]) → w.grownBy w' v.ownBlock → wpList Try.prog ops Q rest (a.put o.dst v') w') : wpList Try.prog ops Q (o :: rest) a w := by
  obtain ⟨i0, hi, hz0, hz1, hz2⟩ := info_parts info_bs
  obtain ⟨vs, hw, hvs⟩ := hown
  refine wpList_append_own_at w hgd s x 35 ho base 23 i0 (.slice none 0 0) 1 24 Try.underlying35 hi hz0 hz1 hz2 rfl (by decide) v ll.length vs hs hw ⟨b, 0, none⟩ 1 1 [u] hx rfl ?_ ?_ ?_ (by omega) hbase ?_
  · intro j y hj
    match j with
    | 0 =>
      simp at hj
      subst hj
      exact hu
    | _ + 1 => simp at hj
  · intro y hy
    rw [List.mem_singleton] at hy
    subst hy
    exact h1
  · unfold maxLen; omega
  · intro v' w' h3 h4 _ h5
    have hlen : vs.length = ll.length := by have := hw.1; omega
    refine h v' w' ⟨vs ++ [u], by rw [List.length_append]; exact h3, fun i y hy => ?_⟩ h4
    have old : ∀ y l', Rs w y l' → y.oneCell' = true → (y.ownBlock = none ∨ y.ownBlock ≠ v.ownBlock) → (∀ b, y.ownBlock = some b → b < w.heap.size) → Rs w' y l' ∧ y.oneCell' = true ∧ (y.ownBlock = none ∨ y.ownBlock ≠ v'.ownBlock) ∧ ∀ b, y.ownBlock = some b → b < w'.heap.size := by
      intro y l' r1 r2 r3 r4
      refine ⟨r1.only h4 r3, r2, ?_, fun b hb => Nat.lt_of_lt_of_le (r4 b hb) h4.size⟩
      rcases h5 with h5 | h5
      · rw [h5]; exact r3
      · rw [h5]
        refine .inr fun e => ?_
        have := r4 _ e; omega
    by_cases hlt' : i < vs.length
    · rw [List.getElem?_append_left hlt'] at hy
      obtain ⟨r1, r2, r3, r4⟩ := hvs i y hy
      have e : (ll ++ [l]).getD i [] = ll.getD i [] := by simp [List.getD, List.getElem?_append_left (show i < ll.length by omega)]
      rw [e]
      exact old y _ r1 r2 r3 r4
    · rw [List.getElem?_append_right (by omega)] at hy
      obtain rfl : i = vs.length := by
        rcases Nat.lt_or_ge vs.length i with h | h
        · rw [List.getElem?_eq_none (by simp; omega)] at hy; cases hy
        · omega
      simp at hy
      subst hy
      have e : (ll ++ [l]).getD vs.length [] = l := by simp [List.getD, hlen]
      rw [e]
      exact old _ _ hr h1 hub hlt

theorem getD_dropl (ll : List (List Nat)) (n i : Nat) : (ll.drop n).getD i [] = ll.getD (n + i) [] := by
  simp [List.getD, List.getElem?_drop]
theorem Rd.drew {w : World} {p : Nat} {r : Wir.R} (h : Rd w p r) : Rd w.drew p r := h

set_option maxRecDepth 100000 in
set_option maxHeartbeats 2000000 in
theorem wireLists_out (w : World) (v : Value) (ll : List (List Nat)) (h : Bss w v ll) (hl : 50 < ll.length) :
    Calls Try.prog 4 #[v] w (RetBool true w) := by
  obtain ⟨a, cap, rfl, -⟩ := h
  go_enter Try.func4, Try.ntmps4
  go_wp2_with fail
  refine (awake_any _).mono ?_
  rintro e w1 ⟨rfl, hb1⟩
  have B1 := Lib.hid hb1; clear hb1
  go_wp2_with fail
  refine (awake_any _).mono ?_
  rintro e w2 ⟨rfl, hb2⟩
  have B2 := Lib.hid (B1.out.trans (hb2.mono B1.out.size)); clear hb2 B1
  go_wp2_with fail
  go_ret
  exact ⟨rfl, B2.out⟩

set_option maxRecDepth 100000 in
set_option maxHeartbeats 4000000 in
theorem wireLists_in (w : World) (v : Value) (ll : List (List Nat)) (h : Bss w v ll) (hl : ll.length ≤ 50) :
    Calls Try.prog 4 #[v] w (RetBool true w) := by
  have H := Lib.hid h
  obtain ⟨a, cap, rfl, hlen, -⟩ := h
  obtain ⟨n, hn⟩ : ∃ n, n = ll.length := ⟨_, rfl⟩
  rw [← hn] at hl hlen ⊢
  have HN := Lib.hid hn; clear hn
  go_enter Try.func4, Try.ntmps4
  go_wp2_with fail
  refine (awake_any _).mono ?_
  rintro e w1 ⟨rfl, hb1⟩
  have S1 := hb1.size
  have B1 := Lib.hid hb1; clear hb1
  go_wp2_with fail
  go_loopw [3, 4, 5, 6] (fun v i _ _ wr => ∃ j : Nat, j ≤ n ∧ i = .int .i64 j ∧ Hid (∀ i, i < j → (ll.getD i []).length ≤ 300) ∧ OwnSS wr w.heap.size v ((ll.take j).map Wir.two) ∧ Below w.heap.size w wr) (fun _ i _ _ _ => n - (intOf i).toNat)
  case atStart => exact ⟨0, by omega, rfl, fun i hi => by omega, ⟨[], World.ownsRow_nil _ _ _ _, fun i u hu => by simp at hu⟩, B1.out⟩
  case round =>
    clear B1 S1
    obtain ⟨j, hj, rfl, hsh, hown, hbel⟩ := hrel
    have hsz := hbel.size
    have HO := Lib.hid hown
    have HB := Lib.hid hbel
    obtain ⟨va, vc, ev⟩ := hown.form
    have hlj : ((ll.take j).map Wir.two).length = j := by rw [List.length_map, List.length_take, ← HN.out]; omega
    rw [hlj] at ev
    subst ev
    clear hlj
    by_cases hlt : j < n
    · obtain ⟨b, off, u, rfl, hu, hr⟩ := (H.out.below hbel).at (k := j) (by rw [← HN.out]; exact hlt)
      obtain ⟨ua, uc, rfl⟩ := hr.form
      have HR := Lib.hid hr
      obtain ⟨m, hm⟩ : ∃ m, m = (ll.getD j []).length := ⟨_, rfl⟩
      rw [← hm] at hu HR
      have HM := Lib.hid hm
      clear hr hown hbel hm
      by_cases hlong : 300 < m
      · go_wp2_with fail
        go_ret
        exact ⟨rfl, HB.out⟩
      · go_wp2_with fail
        refine ((refPutString_any 2 _ (ll.getD j []) _ HR.out (by rw [← HM.out]; omega)).mono fun _ _ => put2).mono ?_
        rintro e w2 ⟨v2, rfl, ho2, hb2⟩
        have hp := Wir.two_put (l := ll.getD j []) (by rw [← HM.out]; omega)
        rw [hp] at ho2 ⊢
        have hs2 : (some (Wir.two (ll.getD j []))).isSome = true := rfl
        rw [hs2]
        have ho2' : Own w2 wr.heap.size v2 (Wir.two (ll.getD j [])) := ho2
        have S2 := hb2.size
        have O2 := Lib.hid ho2'
        have HO2 := Lib.hid (HO.out.below hb2)
        have HB2 := Lib.hid (HB.out.trans (hb2.mono hsz))
        have hvlt : ∀ g, (Value.slice va j vc).ownBlock = some g → g < wr.heap.size := by
          obtain ⟨vs, h1, _⟩ := HO.out
          exact fun g hg => (h1.lt g hg).2
        have HVL := Lib.hid hvlt
        obtain ⟨a2, c2, rfl⟩ := ho2'.form
        clear hp hs2 ho2 ho2' hb2 HO HB hu hvlt
        generalize (Wir.two (ll.getD j [])).length = m2 at O2 ⊢
        have HUB := Lib.hid (show (Value.slice a2 m2 c2).ownBlock = none ∨ (Value.slice a2 m2 c2).ownBlock ≠ (Value.slice va j vc).ownBlock from by
          cases hc : (Value.slice a2 m2 c2).ownBlock with
          | none => exact .inl rfl
          | some g =>
            refine .inr fun e => ?_
            have h1 := (O2.out.lt g hc).1
            have h2 := HVL.out g e.symm
            omega)
        have HLT := Lib.hid (show ∀ b, (Value.slice a2 m2 c2).ownBlock = some b → b < (w2.alloc (.cells #[.slice a2 m2 c2] 23)).heap.size from fun b hb => by
          have h1 := (O2.out.lt b hb).2
          have h2 : (w2.alloc (.cells #[.slice a2 m2 c2] 23)).heap.size = w2.heap.size + 1 := by simp
          omega)
        have HLN := Lib.hid (show ((ll.take j).map Wir.two).length ≤ 1000000 from by rw [List.length_map, List.length_take]; omega)
        go_wp2_with (at_builtin; go_must (refine wpList_append_ss rfl _ _ rfl w.heap.size _ _ rfl (HO2.out.below ((Below.refl _ _).alloc (Nat.le_refl _) _)) w2.heap.size (.slice a2 m2 c2) (Wir.two (ll.getD j [])) rfl (cell_new _ _ _ _ _ rfl) (O2.out.bs.rs.below ((Below.refl _ _).alloc (Nat.le_refl _) _)) rfl HUB.out HLT.out HLN.out (by simp; omega) ?_; intro v3 w3 hown3 hgr3))
        have hb3 : Below w.heap.size w w3 := below_only (HB2.out.alloc (by omega) (.cells #[.slice a2 m2 c2] 23)) (Nat.le_refl _) hgr3 (fun g hg => by obtain ⟨vs, h1, _⟩ := HO2.out; exact (h1.lt g hg).1)
        clear hgr3
        go_wp2_with fail
        go_roundw
        case rel =>
          refine ⟨j + 1, by omega, by go_num, ?_, ?_, hb3⟩
          · intro i hi
            by_cases hij : i < j
            · exact hsh.out i hij
            · obtain rfl : i = j := by omega
              rw [← HM.out]; omega
          · have e : (ll.take (j + 1)).map Wir.two = (ll.take j).map Wir.two ++ [Wir.two (ll.getD j [])] := by
              have hjl : j < ll.length := by rw [← HN.out]; exact hlt
              rw [List.take_succ_eq_append_getElem hjl, List.map_append]
              simp [List.getD, hjl]
            rw [e]; exact hown3
        case measure => simp [intOf]; omega
    · obtain rfl : j = n := by omega
      have htk : ll.take j = ll := List.take_of_length_le (by rw [HN.out]; exact Nat.le_refl _)
      rw [htk] at hown HO
      have SH := Lib.hid (show ∀ i, i < ll.length → (ll.getD i []).length ≤ 300 from fun i hi => hsh.out i (by rw [HN.out]; exact hi))
      have JL := Wir.join_two_len ll SH.out
      rw [← HN.out] at JL
      have PB := Lib.hid (hown.bss (by rw [List.length_map, ← HN.out]; omega))
      clear htk hown hsh HO
      go_wp2_with fail
      refine (join_any _ _ _ PB.out (by omega)).mono ?_
      rintro e w4 ⟨v4, rfl, ho4, hb4⟩
      have S4 := hb4.size
      have B4 := Lib.hid (HB.out.trans (hb4.mono hsz))
      have PB4 := Lib.hid (PB.out.below hb4)
      have O4 := Lib.hid ho4.bs.rs
      clear hb4 ho4 HB PB
      go_wp2_with fail
      refine (new_any _ _ _ O4.out (by omega)).mono ?_
      rintro e w5 ⟨p, rfl, hp, hrd, hb5⟩
      have S5 := hb5.size
      have B5 := Lib.hid (B4.out.trans (hb5.mono (by omega)))
      have PB5 := Lib.hid (PB4.out.below hb5)
      have O5 := Lib.hid (O4.out.below hb5)
      have RD5 := Lib.hid hrd
      clear hb5 hrd B4 PB4 O4
      go_wp2_with fail
      refine (refJoin_any _ _ _ PB5.out (by omega)).mono ?_
      rintro e w6 ⟨v6, rfl, ho6, hb6⟩
      have S6 := hb6.size
      have B6 := Lib.hid (B5.out.trans (hb6.mono (by omega)))
      have O6 := Lib.hid (O5.out.below hb6)
      have J6 := Lib.hid ho6.bs.rs
      have RD6 := Lib.hid (RD5.out.below hb6)
      clear hb6 ho6 B5 PB5 O5 RD5
      go_wp2_with fail
      refine (same_yes _ _ _ _ O6.out J6.out).mono ?_
      rintro e w7 ⟨rfl, hb7⟩
      have S7 := hb7.size
      have B7 := Lib.hid (B6.out.trans (hb7.mono (by omega)))
      have RD7 := Lib.hid (RD6.out.below hb7)
      clear hb7 B6 O6 J6 RD6
      go_wp2_with fail
      go_loopw [9] (fun i wr => ∃ k : Nat, k ≤ j ∧ i = .int .i64 k ∧ Rd wr p ⟨Wir.join ((ll.drop k).map Wir.two), false⟩ ∧ Below w.heap.size w wr) (fun i _ => j - (intOf i).toNat)
      case atStart => exact ⟨0, by omega, rfl, RD7.out, B7.out⟩
      case round =>
        clear B7 RD7 hlt hj
        obtain ⟨k, hk, rfl, hrd, hbel⟩ := hrel
        have RD8 := Lib.hid hrd
        have B8 := Lib.hid hbel
        have hpl := hrd.lt
        by_cases hlt : k < j
        · obtain ⟨b, off, u, rfl, hu, hr⟩ := H.out.at (k := k) (by rw [← HN.out]; omega)
          have hbw : b < w.heap.size := World.block_lt_of_cell? w _ hu
          have hur : wr.cell? ⟨b, off + k, none⟩ = some u := (hbel.cell (p := ⟨b, off + k, none⟩) hbw).trans hu
          have R0 := Lib.hid hr
          have RT := Lib.hid (Wir.read_two (ll := ll) (j := k) (by rw [← HN.out]; omega) (SH.out k (by rw [← HN.out]; omega)))
          have hjl : (Wir.join ((ll.drop k).map Wir.two)).length ≤ 140737488355328 := by
            have h1 := Wir.join_two_len (ll.drop k) (fun i hi => by
              have := SH.out (k + i) (by rw [List.length_drop] at hi; omega)
              rwa [getD_dropl])
            rw [List.length_drop, ← HN.out] at h1
            omega
          have HJ := Lib.hid hjl
          have HU := Lib.hid hu
          obtain ⟨ua, uc, rfl⟩ := hr.form
          generalize (ll.getD k []).length = m at hur R0 HU
          have hpw : w.heap.size ≤ p := by omega
          clear hr hu hrd hbel hjl
          go_wp2_with fail
          go_region_held3 (fun w' => w'.cell? ⟨b, off + k, none⟩ = some (.slice ua m uc)) (go_keep) (first | (go_at_call 21; refine (rString_any p _ 2 _ (by exact Rd.drew RD8.out) (by exact HJ.out)).mono ?_; rintro e w2 ⟨v2, rfl, ho2, hrd2, hg2⟩; rw [RT.out] at ho2 hrd2; have hb2 : Below w.heap.size wr w2 := (Below.drew (Below.refl _ _)).trans (below_reader hg2 hpw B8.out.size); have hc2 : w2.cell? ⟨b, off + k, none⟩ = some (.slice ua m uc) := (hb2.cell (p := ⟨b, off + k, none⟩) hbw).trans hur; have O2 := Lib.hid ho2.bs.rs; have RD9 := Lib.hid hrd2; have B9 := Lib.hid (B8.out.trans hb2); clear ho2 hrd2 hg2 hb2) | (go_at_call 17; refine (same_yes _ _ _ _ (by exact O2.out) (by exact R0.out.below B9.out)).mono ?_; rintro e w3 ⟨rfl, hb3⟩; have hc3 : w3.cell? ⟨b, off + k, none⟩ = some (.slice ua m uc) := (hb3.cell (p := ⟨b, off + k, none⟩) (World.block_lt_of_cell? w2 _ hc2)).trans hc2; have RD10 := Lib.hid (RD9.out.below hb3); have B10 := Lib.hid (B9.out.trans (hb3.mono B9.out.size)); clear hb3))
          go_wp2_with fail
          go_roundw
          case rel => exact ⟨k + 1, by omega, by go_num, RD10.out, B10.out⟩
          case measure => simp [intOf]; omega
        · obtain rfl : k = j := by omega
          clear hrd hbel
          go_wp2_with fail
          refine (done_any p _ _ RD8.out).mono ?_
          rintro e w' ⟨rfl, rfl⟩
          have hz : (!(Wir.R.mk (Wir.join ((ll.drop k).map Wir.two)) false).bad && (Wir.R.mk (Wir.join ((ll.drop k).map Wir.two)) false).l.length == 0) = true := by
            rw [List.drop_eq_nil_of_le (by rw [HN.out]; exact Nat.le_refl _)]; rfl
          rw [hz]
          go_wp2_with fail
          go_ret
          exact ⟨rfl, B8.out⟩

theorem wireLists_walk (w : World) (v : Value) (ll : List (List Nat)) (h : Bss w v ll) :
    Calls Try.prog 4 #[v] w fun e w' => e = .returned (.bool true) ∧ Below w.heap.size w w' := by
  by_cases hl : 50 < ll.length
  · exact wireLists_out w v ll h hl
  · exact wireLists_in w v ll h (by omega)

/-! ### THE ROW's STEP -/
namespace wireListsF
theorem own : ownKnob Try.prog.godebug = none := by kernel_rfl
theorem laidOut : laidOutB Try.prog = true := by kernel_rfl
set_option maxRecDepth 100000 in
theorem lifted (os : Os) (started : os.Started) (H : Type) (enc : TypeId × Value → H) :
    ReturnsInHanded {} Try.checked os 4 .any (Rows.wireListsSpec.pre6 enc Try.prog Try.f4 Rows.wireListsRow.domain false) (Rows.wireListsSpec.post enc Try.prog Try.f4 false true false false) := by
  refine returnsInHanded_of_change (C := Try.checked) own started (by kernel_rfl) Try.func4
    (ChangeSpec.witness6 (enc := enc) (C := Try.checked) false ⟨#[], #[.slice none 0 0], []⟩ 8 (by kernel_rfl) (by kernel_rfl) (by kernel_rfl) (by kernel_rfl)) ?_
  intro W base args ds gs before hval0 hW _ _
  have hval : ∀ (j : Nat) t v, Try.f4.params[j]? = some t → args[j]? = some v → Value.okWide Try.prog W .any base t v := hval0
  have hW' := hW
  obtain ⟨p, q, hA0, hV, rfl, _, _⟩ := hW
  have hA : DataW.TrodAll enc Try.prog W 0 (fun _ => true) true Try.f4.params.toList args.toList ds p := hA0
  rw [Try.params4] at hA hval
  obtain ⟨v0, vs0, d0, ds0, p0, q0, hargs, rfl, rfl, h0, r0⟩ := trodAll_cons hA
  obtain ⟨rfl, rfl, rfl⟩ := trodAll_nil r0
  obtain rfl : args = #[v0] := by cases args; simp_all
  obtain ⟨rfl, rfl⟩ := trodVars_none hV
  have k0 := h0
  have lt0 : ∀ x ∈ p0, x.block < W.heap.size := by obtain ⟨m, hm⟩ := k0; exact DataW.trod_lt m _ _ _ hm
  obtain ⟨a0, len0, cap0, rfl⟩ := okWide_slice Try.underlying35 (hval 0 35 v0 rfl rfl)
  obtain ⟨z0, w0⟩ := open_byteslists Try.underlying35 Try.underlying23 Try.underlying5 (by kernel_rfl) (by kernel_rfl) h0
  refine (wireLists_walk W _ z0 w0).mono fun e W' ⟨he, bel⟩ => ?_
  subst he
  exact ⟨_, rfl, _, _, _, [], _, [], hW', trodAll_mk1 (shut_bool Try.underlying4 _), (trodAll_cons_mk (Below.trod laidOut (by kernel_rfl) (of_decide_eq_true (by kernel_rfl)) k0 bel lt0) trodAll_mk0), rfl, bel.frame _, fun h => by cases h⟩
theorem over : Rows.wireListsRow.holds Try.pinned (OpenSpec.ofChange Rows.wireListsSpec) :=
  OpenClaim.holds_of_wide 4 Try.f4 rfl rfl rfl rfl rfl rfl rfl ⟨rfl, rfl, rfl, rfl, rfl⟩ rfl rfl rfl rfl rfl (by kernel_rfl) Try.func4 (by kernel_rfl)
    (of_decide_eq_true (by kernel_rfl)) (by unfold Func.isWrapper; first | (rw [if_pos (by decide +kernel)]; kernel_rfl) | (rw [if_neg (by decide +kernel)]; exact ⟨rfl, rfl⟩))
    (fun os started H enc _ => lifted os started H enc)
end wireListsF
/-- The statement. -/
theorem wireLists_holds : Rows.WireListsSaid := wireListsF.over
#print axioms wireLists_holds
end Go.Proofs.Ythfbcpbjnfdnkaa
