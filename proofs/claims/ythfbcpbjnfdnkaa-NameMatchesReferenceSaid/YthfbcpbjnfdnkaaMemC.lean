/- append on bytes of the call's own: where the new bytes lie. No function of the program. -/
import Derived.Test.YthfbcpbjnfdnkaaMemB
namespace Go.Proofs.Ythfbcpbjnfdnkaa
open Go.RowKit Go.Deep

/-- v' lies where v lay, or in a block that is new. -/
def Moved (w : World) (v v' : Value) : Prop := v'.ownBlock = v.ownBlock ∨ ∃ g, v'.ownBlock = some g ∧ w.heap.size ≤ g

theorem append_moves {w w' : World} {base : Nat} {v v' : Value} {l : List Nat} {b off m c : Nat} {l2 : List Nat} (hown : Own w base v l) (hl2 : l2.length = m) (_hall : AllB l2) (hc : ∀ i, i < l2.length → w.cell? ⟨b, off + i, none⟩ = some (bv (l2.getD i 0)))
    (hbytes : l.length + m ≤ 140737488355328) (ty : TypeId) (hrun : (Builtin.append_ #[23, 23] ty #[v, .slice (some ⟨b, off, none⟩) m c]).run Try.prog w = .ok v' w') : Moved w v v' := by
  obtain ⟨i0, hi, hz0, hz1, hz2⟩ := info_parts info_u8
  have hnews : ∀ j u, (l2.map bv)[j]? = some u → w.cell? ((⟨b, off, none⟩ : Addr).add j) = some u := by
    intro j u hj
    have hjl : j < l2.length := by
      rcases Nat.lt_or_ge j l2.length with h' | h'
      · exact h'
      · rw [List.getElem?_eq_none (by simpa using h')] at hj; cases hj
    rw [Addr.add_lit, hc j hjl]
    simp [hjl] at hj
    simp [List.getD, hjl, hj]
  have h1 : ∀ u ∈ l2.map bv, u.oneCell' = true := by
    intro u hu
    obtain ⟨_, _, rfl⟩ := List.mem_map.1 hu
    rfl
  have hnl : (l2.map bv).length = m * i0.size := by rw [List.length_map, hz1]; omega
  rcases hown.2.2 with ⟨rfl, hn⟩ | ⟨g, cap, cur, rfl, hbg, hg, hnc, hcm, hcs, htake⟩
  · obtain rfl : l = [] := List.eq_nil_of_length_eq_zero hn
    subst hl2
    obtain ⟨v2, w2, hr, h2, h3, _⟩ := run_append_own (P := Try.prog) w w.heap.size 23 ty 5 i0 (.int .u8 0) 1 1 Try.underlying23 hi hz0 hz1 hz2 rfl (by decide) (.slice none 0 0) 0 [] (World.ownsRow_nil _ _ _ _) ⟨b, off, none⟩ l2.length c (l2.map bv) (by simp) hnews h1 (by unfold maxLen; omega) (by omega) (Nat.le_refl _)
    rw [hrun] at hr
    simp only [Result.ok.injEq] at hr
    obtain ⟨rfl, rfl⟩ := hr
    cases hv : v'.ownBlock with
    | none => exact .inl hv
    | some g => exact .inr ⟨g, hv, (h2.lt g hv).1⟩
  · by_cases hroom : l.length + m ≤ cap
    · have hfit : l.length * i0.size + (l2.map bv).length ≤ cur.size := by rw [List.length_map, hz1, hcs]; omega
      have hr := run_append_room (P := Try.prog) w 23 ty 5 i0 Try.underlying23 hi g l.length cap cur hg ⟨b, off, none⟩ m c (l2.map bv) hnl hnews h1 hroom hfit
      rw [hrun] at hr
      simp only [Result.ok.injEq] at hr
      obtain ⟨rfl, -⟩ := hr
      exact .inl rfl
    · have holds : ∀ j u, (l.map bv)[j]? = some u → w.cell? ((⟨g, 0, none⟩ : Addr).add j) = some u := hown.2.cells (g := g) rfl
      have hr := run_append_grow (P := Try.prog) w 23 ty 5 i0 (.int .u8 0) Try.underlying23 hi hz0 ⟨g, 0, none⟩ l.length cap (l.map bv) (by rw [List.length_map, hz1]; omega) holds ⟨b, off, none⟩ m c (l2.map bv) hnl hnews (by omega) (by omega) (growslice_fits (by omega) (by rw [hz2]; omega))
      rw [hrun] at hr
      simp only [Result.ok.injEq] at hr
      obtain ⟨rfl, -⟩ := hr
      exact .inr ⟨w.heap.size, rfl, Nat.le_refl _⟩

theorem wpList_append_moved0 {w : World} {ops : Array Oper} {rest : List Oper} {o : Oper} {a : Act} {Q : Exit → Act → World → Prop} (hgd : o.guard = none) (s x : Operand)
    (ho : o.op = .call { callee := .builtin .append, args := #[s, x], argTypes := #[23, 23] })
    (base : Nat) (v : Value) (l : List Nat) (hs : a.eval s = v) (hown : Own w base v l) (b off c : Nat) (l2 : List Nat) (hx : a.eval x = .slice (some ⟨b, off, none⟩) l2.length c) (hall : AllB l2) (hc : ∀ i, i < l2.length → w.cell? ⟨b, off + i, none⟩ = some (bv (l2.getD i 0)))
    (hbytes : l.length + l2.length ≤ 140737488355328) (hbase : base ≤ w.heap.size)
    (h : ∀ v' w', Own w' base v' (l ++ l2) → Moved w v v' → w.grownBy w' v.ownBlock → wpList Try.prog ops Q rest (a.put o.dst v') w') : wpList Try.prog ops Q (o :: rest) a w := by
  obtain ⟨i0, hi, hz0, hz1, hz2⟩ := info_parts info_u8
  have hnews : ∀ j u, (l2.map bv)[j]? = some u → w.cell? ((⟨b, off, none⟩ : Addr).add j) = some u := by
    intro j u hj
    have hjl : j < l2.length := by
      rcases Nat.lt_or_ge j l2.length with h' | h'
      · exact h'
      · rw [List.getElem?_eq_none (by simpa using h')] at hj; cases hj
    rw [Addr.add_lit, hc j hjl]
    simp [hjl] at hj
    simp [List.getD, hjl, hj]
  obtain ⟨v', w', hr, h2, h3, _⟩ := run_append_own (P := Try.prog) w base 23 o.type 5 i0 (.int .u8 0) 1 1 Try.underlying23 hi hz0 hz1 hz2 rfl (by decide) v l.length (l.map bv) hown.2 ⟨b, off, none⟩ l2.length c (l2.map bv) (by simp) hnews
    (by intro u hu; obtain ⟨_, _, rfl⟩ := List.mem_map.1 hu; rfl) (by unfold maxLen; omega) (by omega) hbase
  have ho' : Own w' base v' (l ++ l2) := ⟨hown.1.append hall, by rw [List.length_append, List.map_append]; exact h2⟩
  have hk := append_moves hown rfl hall hc hbytes o.type hr
  refine wpList_plain hgd fun K hK => ?_
  unfold Oper.wp execOp
  simp only [ho, resolve, invoke, builtin, Sem.run_bind, Sem.run_pure, Result.andThen_ok, List.map_toArray, List.map_cons, List.map_nil, hs, hx, hr]
  exact hK _ _ (h v' w' ho' hk h3)

theorem wpList_append_moved {w : World} {ops : Array Oper} {rest : List Oper} {o : Oper} {a : Act} {Q : Exit → Act → World → Prop} (hgd : o.guard = none) (s x : Operand)
    (ho : o.op = .call { callee := .builtin .append, args := #[s, x], argTypes := #[23, 23] })
    (base : Nat) (v : Value) (l : List Nat) (hs : a.eval s = v) (hown : Own w base v l) (b off c : Nat) (l2 : List Nat) (hx : a.eval x = .slice (some ⟨b, off, none⟩) l2.length c) (hall : AllB l2) (_hpos : 0 < l2.length) (hc : ∀ i, i < l2.length → w.cell? ⟨b, off + i, none⟩ = some (bv (l2.getD i 0)))
    (hbytes : l.length + l2.length ≤ 140737488355328) (hbase : base ≤ w.heap.size)
    (h : ∀ v' w', Own w' base v' (l ++ l2) → Moved w v v' → w.grownBy w' v.ownBlock → wpList Try.prog ops Q rest (a.put o.dst v') w') : wpList Try.prog ops Q (o :: rest) a w :=
  wpList_append_moved0 hgd s x ho base v l hs hown b off c l2 hx hall hc hbytes hbase h

/-- Two slices of the call's own lie apart. -/
def Apart (u v : Value) : Prop := u.ownBlock = none ∨ u.ownBlock ≠ v.ownBlock
theorem Apart.symm {u v : Value} (h : Apart u v) : Apart v u := by
  rcases h with h | h
  · cases hv : v.ownBlock with
    | none => exact .inl hv
    | some g => exact .inr (by rw [hv, h]; simp)
  · exact .inr (Ne.symm h)
theorem Apart.moved {w : World} {u v v' : Value} (h : Apart u v) (k : Moved w v v') (hu : ∀ g, u.ownBlock = some g → g < w.heap.size) : Apart u v' := by
  rcases k with k | ⟨g, k, hg⟩
  · unfold Apart; rw [k]; exact h
  · rcases h with h | h
    · exact .inl h
    · refine .inr fun e => ?_
      rw [k] at e
      have := hu g e
      omega
end Go.Proofs.Ythfbcpbjnfdnkaa
