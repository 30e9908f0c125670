/- append on bytes of the call's own that are still read behind it. No function of the program. -/
import Derived.Test.YthfbcpbjnfdnkaaMem
namespace Go.Proofs.Ythfbcpbjnfdnkaa
open Go.RowKit Go.Deep

/-- What was owned is owned still behind an append onto it. -/
theorem append_keeps {w w' : World} {base : Nat} {v v' : Value} {l : List Nat} {b off m c : Nat} {l2 : List Nat} (hown : Own w base v l) (hl2 : l2.length = m) (hpos : 0 < m) (hc : ∀ i, i < l2.length → w.cell? ⟨b, off + i, none⟩ = some (bv (l2.getD i 0)))
    (hbytes : l.length + m ≤ 140737488355328) (ty : TypeId) (hrun : (Builtin.append_ #[23, 23] ty #[v, .slice (some ⟨b, off, none⟩) m c]).run Try.prog w = .ok v' w') (hown' : Own w' base v' (l ++ l2)) : Own w' base v l := by
  obtain ⟨i0, hi, hz0, hz1, hz2⟩ := info_parts info_u8
  rcases hown.2.2 with ⟨rfl, hn⟩ | ⟨g, cap, cur, rfl, hbg, hg, hnc, hcm, hcs, htake⟩
  · obtain rfl : l = [] := List.eq_nil_of_length_eq_zero hn
    exact Own.nil _ _
  · have hnews : ∀ j u, (l2.map bv)[j]? = some u → w.cell? ((⟨b, off, none⟩ : Addr).add j) = some u := by
      intro j u hj
      have hjl : j < l2.length := by
        rcases Nat.lt_or_ge j l2.length with h' | h'
        · exact h'
        · rw [List.getElem?_eq_none (by simpa using h')] at hj; cases hj
      rw [Addr.add_lit, hc j hjl]
      simp [hjl] at hj
      simp [List.getD, hjl, hj]
    have hnl : (l2.map bv).length = m * i0.size := by rw [List.length_map, hz1]; omega
    have h1 : ∀ u ∈ l2.map bv, u.oneCell' = true := by
      intro u hu
      obtain ⟨_, _, rfl⟩ := List.mem_map.1 hu
      rfl
    by_cases hroom : l.length + m ≤ cap
    · have hfit : l.length * i0.size + (l2.map bv).length ≤ cur.size := by rw [List.length_map, hz1, hcs]; omega
      have hr := run_append_room (P := Try.prog) w 23 ty 5 i0 Try.underlying23 hi g l.length cap cur hg ⟨b, off, none⟩ m c (l2.map bv) hnl hnews h1 hroom hfit
      rw [hrun] at hr
      simp only [Result.ok.injEq] at hr
      obtain ⟨rfl, hw⟩ := hr
      rcases hown'.2.2 with ⟨h', _⟩ | ⟨g', cap', cur', h', hbg', hg', hnc', hcm', hcs', htake'⟩
      · simp at h'
      · simp only [Value.slice.injEq, Option.some.injEq, Addr.mk.injEq, and_true] at h'
        obtain ⟨rfl, -, rfl⟩ := h'
        refine ⟨hown.1, by simp, .inr ⟨g, cap, cur', rfl, hbg', hg', hnc, hcm', hcs', ?_⟩⟩
        have e := congrArg (List.take (l.length * 1)) htake'
        rw [List.take_take, List.length_append, Nat.min_eq_left (by omega), List.map_append] at e
        rw [e]
        rw [List.take_append_of_le_length (by simp)]
        exact List.take_of_length_le (by simp)
    · have holds : ∀ j u, (l.map bv)[j]? = some u → w.cell? ((⟨g, 0, none⟩ : Addr).add j) = some u := hown.2.cells (g := g) rfl
      have hr := run_append_grow (P := Try.prog) w 23 ty 5 i0 (.int .u8 0) Try.underlying23 hi hz0 ⟨g, 0, none⟩ l.length cap (l.map bv) (by rw [List.length_map, hz1]; omega) holds ⟨b, off, none⟩ m c (l2.map bv) hnl hnews (by omega) (by omega) (growslice_fits (by omega) (by rw [hz2]; omega))
      rw [hrun] at hr
      simp only [Result.ok.injEq] at hr
      obtain ⟨-, rfl⟩ := hr
      exact (Own.drewN hown 1).alloc _

theorem wpList_append_keep {w : World} {ops : Array Oper} {rest : List Oper} {o : Oper} {a : Act} {Q : Exit → Act → World → Prop} (hgd : o.guard = none) (s x : Operand)
    (ho : o.op = .call { callee := .builtin .append, args := #[s, x], argTypes := #[23, 23] })
    (base : Nat) (v : Value) (l : List Nat) (hs : a.eval s = v) (hown : Own w base v l) (b off c : Nat) (l2 : List Nat) (hx : a.eval x = .slice (some ⟨b, off, none⟩) l2.length c) (hall : AllB l2) (hpos : 0 < l2.length) (hc : ∀ i, i < l2.length → w.cell? ⟨b, off + i, none⟩ = some (bv (l2.getD i 0)))
    (hbytes : l.length + l2.length ≤ 140737488355328) (hbase : base ≤ w.heap.size)
    (h : ∀ v' w', Own w' base v' (l ++ l2) → Own w' base v l → w.grownBy w' v.ownBlock → wpList Try.prog ops Q rest (a.put o.dst v') w') : wpList Try.prog ops Q (o :: rest) a w := by
  obtain ⟨i0, hi, hz0, hz1, hz2⟩ := info_parts info_u8
  have hnews : ∀ j u, (l2.map bv)[j]? = some u → w.cell? ((⟨b, off, none⟩ : Addr).add j) = some u := by
    intro j u hj
    have hjl : j < l2.length := by
      rcases Nat.lt_or_ge j l2.length with h' | h'
      · exact h'
      · rw [List.getElem?_eq_none (by simpa using h')] at hj; cases hj
    rw [Addr.add_lit, hc j hjl]
    simp [hjl] at hj
    simp [List.getD, hjl, hj]
  obtain ⟨v', w', hr, h2, h3, _⟩ := run_append_own (P := Try.prog) w base 23 o.type 5 i0 (.int .u8 0) 1 1 Try.underlying23 hi hz0 hz1 hz2 rfl (by decide) v l.length (l.map bv) hown.2 ⟨b, off, none⟩ l2.length c (l2.map bv) (by simp) hnews
    (by intro u hu; obtain ⟨_, _, rfl⟩ := List.mem_map.1 hu; rfl) (by unfold maxLen; omega) (by omega) hbase
  have ho' : Own w' base v' (l ++ l2) := ⟨hown.1.append hall, by rw [List.length_append, List.map_append]; exact h2⟩
  have hk := append_keeps hown rfl hpos hc hbytes o.type hr ho'
  refine wpList_plain hgd fun K hK => ?_
  unfold Oper.wp execOp
  simp only [ho, resolve, invoke, builtin, Sem.run_bind, Sem.run_pure, Result.andThen_ok, List.map_toArray, List.map_cons, List.map_nil, hs, hx, hr]
  exact hK _ _ (h v' w' ho' hk h3)
end Go.Proofs.Ythfbcpbjnfdnkaa
