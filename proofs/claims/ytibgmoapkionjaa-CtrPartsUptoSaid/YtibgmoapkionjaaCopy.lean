/- The built-in copy of bytes: onto the front of an array of the call's own; over bytes of the call's own. No function of the program. -/
import Derived.Test.YtibgmoapkionjaaMemC
import Derived.Test.YtibgmoapkionjaaArr
import Derived.Laws.CopyOwn
namespace Go.Proofs.Ytibgmoapkionjaa
open Go.RowKit Go.Deep

/-- Bytes laid over the front of an array. -/
theorem arr_lay (n : Nat) (f : Nat → Nat) (x : List Nat) (h : x.length ≤ n) :
    ((arr .u8 n f).toList.take 0 ++ (x.map bv ++ (arr .u8 n f).toList.drop (0 + x.length))).toArray = arr .u8 n (fun i => if i < x.length then x.getD i 0 else f i) := by
  have hg : ∀ i, i < n → (arr .u8 n f).toList[i]? = some (bv (f i)) := fun i hi => by rw [Array.getElem?_toList, arr_get _ _ _ _ hi]
  refine arr_of_get _ _ _ _ (by simp [arr_size]; omega) fun i hi => ?_
  rw [List.getElem?_toArray, List.take_zero, List.nil_append, Nat.zero_add]
  by_cases h2 : i < x.length
  · rw [List.getElem?_append_left (by simp; omega), if_pos h2, List.getElem?_map, List.getElem?_eq_getElem h2]
    simp [List.getD, h2]
  · rw [List.getElem?_append_right (by simp; omega), if_neg h2, List.length_map, List.getElem?_drop, show x.length + (i - x.length) = i by omega, hg i hi]
theorem setRow_grownBy (w : World) (g : Nat) (cs : Array Value) : w.grownBy (w.setRow g cs) (some g) :=
  ⟨rfl, rfl, rfl, by simp [World.setRow], fun k _ hne => setRow_other w g k cs (fun e => hne (by rw [e]))⟩
/-- The cells that a reading of bytes gives. -/
theorem rs_cells {w : World} {ad : Addr} {l : List Nat} {m : Nat} (hc : ∀ i, i < l.length → w.cell? (ad.add i) = some (bv (l.getD i 0))) (hm : m ≤ l.length) : ∀ j v, ((l.take m).map bv)[j]? = some v → w.cell? (ad.add j) = some v := by
  intro j v hj
  have hjm : j < m := by
    rcases Nat.lt_or_ge j m with h' | h'
    · exact h'
    · rw [List.getElem?_eq_none (by rw [List.length_map, List.length_take]; omega)] at hj; cases hj
  rw [hc j (by omega)]
  rw [List.getElem?_map, List.getElem?_take, if_pos hjm, List.getElem?_eq_getElem (by omega)] at hj
  simp [List.getD, show j < l.length by omega] at hj ⊢
  exact hj
theorem bv_one (l : List Nat) : ∀ v ∈ l.map bv, v.oneCell' = true := by
  intro v hv
  obtain ⟨_, _, rfl⟩ := List.mem_map.1 hv
  rfl
theorem copy_front {w : World} {ops : Array Oper} {rest : List Oper} {o : Oper} {a : Act} {Q : Exit → Act → World → Prop} (hgd : o.guard = none) (d s : Operand)
    (ho : o.op = .call { callee := .builtin .copy, args := #[d, s], argTypes := #[43, 43] }) (g n : Nat) (t : TypeId) (f : Nat → Nat) (hd : a.eval d = .slice (some ⟨g, 0, none⟩) n n) (hg : isArr w g t .u8 n f)
    (x : Value) (l : List Nat) (hs : a.eval s = x) (hx : Rs w x l)
    (h : ∀ w', isArr w' g t .u8 n (fun i => if i < l.length then l.getD i 0 else f i) → w.grownBy w' (some g) → wpList Try.prog ops Q rest (a.put o.dst (goInt (Nat.min l.length n))) w') : wpList Try.prog ops Q (o :: rest) a w := by
  obtain ⟨i0, hi, hz0, hz1, hz2⟩ := info_parts info_u8
  have hsz : (Try.prog.info? 5).map (·.size) = some 1 := by rw [hi]; simp [hz1]
  by_cases h0 : Nat.min l.length n = 0
  · obtain ⟨xa, xc, rfl⟩ := hx.form
    refine wpList_copy_nothing hgd d s 43 43 ho 5 Try.underlying43 hsz _ _ _ _ _ _ hd hs h0 ?_
    have := h w (hg.congr fun i hi => by
      rw [if_neg]
      intro hlt
      rcases Nat.le_total l.length n with h' | h'
      · have : Nat.min l.length n = l.length := Nat.min_eq_left h'
        omega
      · have : Nat.min l.length n = n := Nat.min_eq_right h'
        omega) (only_refl _ _)
    rw [h0] at this
    exact this
  · rcases hx.2.2 with ⟨rfl, rfl⟩ | ⟨ad, cap, rfl, _, hc⟩
    · simp at h0
    · obtain ⟨m, hm⟩ : ∃ m, m = Nat.min l.length n := ⟨_, rfl⟩
      have hm1 : m ≤ l.length := by rw [hm]; exact Nat.min_le_left _ _
      have hm2 : m ≤ n := by rw [hm]; exact Nat.min_le_right _ _
      have hm3 : m = l.length ∨ m = n := by rw [hm]; rcases Nat.le_total l.length n with h | h; exact .inl (Nat.min_eq_left h); exact .inr (Nat.min_eq_right h)
      have hlen : (l.take m).length = m := by rw [List.length_take]; omega
      refine wpList_copy_own hgd d s 43 43 ho 5 Try.underlying43 hsz g 0 n n ad l.length cap hd hs (arr .u8 n f) t hg ((l.take m).map bv) (by rw [List.length_map, hlen, hm]) (rs_cells hc hm1) (by rw [List.length_map, hlen, arr_size]; omega) (bv_one _) ?_
      have e := arr_lay n f (l.take m) (by rw [hlen]; omega)
      rw [List.length_map, e, hlen, hm]
      refine h _ ((show isArr _ g t .u8 n _ from setRow_heap w g _ _ _ (0, 0) hg).congr fun i hi => ?_) (setRow_grownBy w g _)
      rw [← hm]
      by_cases hil : i < l.length
      · rw [if_pos hil, if_pos (by omega), getD_take _ _ _ (by omega)]
      · rw [if_neg hil, if_neg (by omega)]
/-- Over bytes of the call's own, as many as there are. -/
theorem copy_over {w : World} {ops : Array Oper} {rest : List Oper} {o : Oper} {a : Act} {Q : Exit → Act → World → Prop} (hgd : o.guard = none) (d s : Operand)
    (ho : o.op = .call { callee := .builtin .copy, args := #[d, s], argTypes := #[43, 43] }) (base : Nat) (v : Value) (l : List Nat) (hd : a.eval d = v) (hown : Own w base v l)
    (x : Value) (l2 : List Nat) (hs : a.eval s = x) (hx : Rs w x l2) (hl : l.length = l2.length)
    (h : ∀ w', Own w' base v l2 → w.grownBy w' v.ownBlock → wpList Try.prog ops Q rest (a.put o.dst (goInt l2.length)) w') : wpList Try.prog ops Q (o :: rest) a w := by
  obtain ⟨i0, hi, hz0, hz1, hz2⟩ := info_parts info_u8
  have hsz : (Try.prog.info? 5).map (·.size) = some 1 := by rw [hi]; simp [hz1]
  by_cases h0 : l2.length = 0
  · obtain ⟨xa, xc, rfl⟩ := hx.form
    obtain ⟨va, vc, rfl⟩ := hown.form
    refine wpList_copy_nothing hgd d s 43 43 ho 5 Try.underlying43 hsz _ _ _ _ _ _ hd hs (by rw [h0]; exact Nat.zero_min _) ?_
    have e1 : l = [] := List.eq_nil_of_length_eq_zero (by omega)
    have e2 : l2 = [] := List.eq_nil_of_length_eq_zero h0
    have := h w (by rw [e2, ← e1]; exact hown) (only_refl _ _)
    rw [h0] at this
    exact this
  · rcases hx.2.2 with ⟨rfl, rfl⟩ | ⟨ad, cap, rfl, _, hc⟩
    · simp at h0
    · obtain ⟨hB, ho1⟩ := hown
      rcases ho1.2 with ⟨rfl, hn⟩ | ⟨g, vcap, cur, rfl, hbg, hg, hnc, hcm, hcs, htake⟩
      · omega
      · have hmin : Nat.min l2.length l.length = l2.length := by rw [hl]; exact Nat.min_self _
        refine wpList_copy_own hgd d s 43 43 ho 5 Try.underlying43 hsz g 0 l.length vcap ad l2.length cap hd hs cur 5 hg ((l2.take l2.length).map bv) (by rw [List.length_map, List.take_length, hmin]) (rs_cells hc (Nat.le_refl _)) (by rw [List.length_map, List.take_length, hcs]; omega) (bv_one _) ?_
        rw [List.take_length, List.length_map, List.take_zero, List.nil_append, Nat.zero_add]
        refine h _ ⟨hx.1, ?_⟩ (setRow_grownBy w g _)
        refine ⟨by simp, .inr ⟨g, vcap, _, by rw [hl], hbg, setRow_heap w g _ _ _ (0, 0) hg, by omega, hcm, by simp [hcs]; omega, ?_⟩⟩
        rw [List.toList_toArray, List.take_append_of_le_length (by simp), List.take_of_length_le (by simp)]
/-- An array of the call's own, read as bytes. -/
theorem isArr.bs {w : World} {b n : Nat} {t : TypeId} {f : Nat → Nat} (h : isArr w b t .u8 n f) (hf : ∀ i, f i < 256) (hn : n ≤ 9223372036854775807) : Bs w (.slice (some ⟨b, 0, none⟩) n n) ((List.range n).map f) := by
  refine bs_mk (fun x hx => ?_) (by simp) (Nat.le_refl _) hn h.lt fun i hi => ?_
  · obtain ⟨i, _, rfl⟩ := List.mem_map.1 hx
    exact hf i
  · have hi' : i < n := by simpa using hi
    rw [Nat.zero_add, h.cell hi']
    simp [List.getD, hi']
end Go.Proofs.Ytibgmoapkionjaa
