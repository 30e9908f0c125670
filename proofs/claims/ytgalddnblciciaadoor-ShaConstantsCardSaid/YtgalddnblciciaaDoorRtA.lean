/- Slices of 64 bit words of the call's own; the reference's Prime, digits, greater. -/
import Derived.Test.YtgalddnblciciaaDoorRtMath
import Derived.Test.YtgalddnblciciaaDoorMem
import Derived.Test.YtgalddnblciciaaDoorArrB
import Derived.WalkKit
import Derived.BigCall
namespace Go.Proofs.YtgalddnblciciaaDoor
open Go.RowKit Go.Deep

abbrev wv (n : Nat) : Value := .int .u64 (n : Int)
def All64 (l : List Nat) : Prop := ∀ x, x ∈ l → x < 18446744073709551616
def OwnW (w : World) (base : Nat) (v : Value) (l : List Nat) : Prop := All64 l ∧ w.ownsRow base 30 1 v l.length (l.map wv)
theorem OwnW.nil (w : World) (base : Nat) : OwnW w base (.slice none 0 0) [] := ⟨(fun _ h => by cases h), World.ownsRow_nil _ _ _ _⟩
theorem OwnW.lt {w : World} {base : Nat} {v : Value} {l : List Nat} (h : OwnW w base v l) : ∀ g, v.ownBlock = some g → base ≤ g ∧ g < w.heap.size := h.2.lt
theorem OwnW.only {w w' : World} {base : Nat} {v : Value} {l : List Nat} {r : Option Nat} (h : OwnW w base v l) (k : w.grownBy w' r) (hne : v.ownBlock = none ∨ v.ownBlock ≠ r) : OwnW w' base v l := ⟨h.1, h.2.kept k hne⟩
theorem OwnW.below {w w' : World} {base : Nat} {v : Value} {l : List Nat} (h : OwnW w base v l) (k : Below w.heap.size w w') : OwnW w' base v l := h.only (only_of_below k none) (by cases hv : v.ownBlock <;> simp)
theorem OwnW.mono {w : World} {base base' : Nat} {v : Value} {l : List Nat} (h : OwnW w base v l) (hb : base' ≤ base) : OwnW w base' v l := by
  refine ⟨h.1, h.2.1, ?_⟩
  rcases h.2.2 with h' | ⟨g, cap, cur, h1, h2, h3⟩
  · exact .inl h'
  · exact .inr ⟨g, cap, cur, h1, Nat.le_trans hb h2, h3⟩
theorem OwnW.alloc {w : World} {base : Nat} {v : Value} {l : List Nat} (h : OwnW w base v l) (o : Obj) : OwnW (w.alloc o) base v l := ⟨h.1, h.2.alloc o⟩
theorem OwnW.cases {w : World} {base : Nat} {v : Value} {l : List Nat} (h : OwnW w base v l) : (v = .slice none 0 0 ∧ l = []) ∨ ∃ g cap, v = .slice (some ⟨g, 0, none⟩) l.length cap ∧ base ≤ g ∧ g < w.heap.size ∧ l.length ≤ cap ∧ cap ≤ 9223372036854775807 ∧
    (∀ i, i < l.length → w.cell? ⟨g, i, none⟩ = some (wv (l.getD i 0))) ∧ ∀ i, w.frozen? ⟨g, i, none⟩ = false := by
  obtain ⟨h0, h1⟩ := h
  rcases h1.2 with ⟨rfl, hn⟩ | ⟨g, cap, cur, rfl, hb, hg, hn, hc, hs, ht⟩
  · exact .inl ⟨rfl, List.eq_nil_of_length_eq_zero hn⟩
  · refine .inr ⟨g, cap, rfl, hb, (Array.getElem?_eq_some_iff.1 hg).1, hn, hc, fun i hi => ?_, fun i => h1.frozenAt i⟩
    rw [h1.cellAt i (by omega)]
    simp [List.getD, hi]
theorem OwnW.form {w : World} {base : Nat} {v : Value} {l : List Nat} (h : OwnW w base v l) : ∃ a cap, v = .slice a l.length cap := by
  rcases h.cases with ⟨rfl, rfl⟩ | ⟨g, cap, rfl, _⟩
  · exact ⟨none, 0, rfl⟩
  · exact ⟨_, cap, rfl⟩
theorem OwnW.at {w : World} {base : Nat} {a : Option Addr} {n cap : Nat} {l : List Nat} (h : OwnW w base (.slice a n cap) l) {k : Nat} (hk : k < l.length) : ∃ g, a = some ⟨g, 0, none⟩ ∧ base ≤ g ∧ g < w.heap.size ∧ ∀ i, i < l.length → w.cell? ⟨g, i, none⟩ = some (wv (l.getD i 0)) := by
  rcases h.cases with ⟨_, rfl⟩ | ⟨g, cap', e, hb, hg, _, _, hc, _⟩
  · simp at hk
  · simp only [Value.slice.injEq] at e
    obtain ⟨rfl, -, -⟩ := e
    exact ⟨g, rfl, hb, hg, hc⟩
theorem OwnW.set {w : World} {base g cap n : Nat} {l : List Nat} (h : OwnW w base (.slice (some ⟨g, 0, none⟩) n cap) l) (i m : Nat) (hm : m < 18446744073709551616) :
    OwnW (w.setCell ⟨g, i, none⟩ (wv m)) base (.slice (some ⟨g, 0, none⟩) n cap) (l.set i m) ∧ w.grownBy (w.setCell ⟨g, i, none⟩ (wv m)) (some g) := by
  have hn : n = l.length := by
    rcases h.2.2 with ⟨h', _⟩ | ⟨g', cap', cur, h', _⟩
    · simp at h'
    · simp at h'; exact h'.2.1
  subst hn
  obtain ⟨h1, h2⟩ := h.2.stored i (wv m)
  refine ⟨⟨fun x hx => ?_, ?_⟩, h2⟩
  · rcases List.mem_or_eq_of_mem_set hx with hx | rfl
    · exact h.1 x hx
    · exact hm
  rw [List.length_set, List.map_set]
  exact h1
theorem ownW_built (w : World) (base : Nat) (l : List Nat) (hl : All64 l) (hb : base ≤ w.heap.size) (h63 : l.length ≤ 9223372036854775807) :
    OwnW (w.alloc (.cells (l.map wv).toArray 30)) base (.slice (some ⟨w.heap.size, 0, none⟩) l.length l.length) l :=
  ⟨hl, by simp, .inr ⟨w.heap.size, l.length, (l.map wv).toArray, rfl, hb, heap_alloc_new w _, Nat.le_refl _, h63, by simp, by simp [List.take_of_length_le]⟩⟩
theorem info_u64 : (Tryd.prog.info? 30).map (fun i => (i.zero, i.size, i.bytes)) = some (some (.int .u64 0), 1, 8) := by kernel_rfl
theorem wpList_append_ws {w : World} {ops : Array Oper} {rest : List Oper} {o : Oper} {a : Act} {Q : Exit → Act → World → Prop} (hgd : o.guard = none) (s x : Operand)
    (ho : o.op = .call { callee := .builtin .append, args := #[s, x], argTypes := #[65, 65] })
    (base : Nat) (v : Value) (l : List Nat) (hs : a.eval s = v) (hown : OwnW w base v l) (b2 : Nat) (x' : Value) (l2 : List Nat) (hx : a.eval x = x') (hsrc : OwnW w b2 x' l2)
    (hbytes : l.length + l2.length ≤ 1000000) (hbase : base ≤ w.heap.size)
    (h : ∀ v' w', OwnW w' base v' (l ++ l2) → w.grownBy w' v.ownBlock → wpList Tryd.prog ops Q rest (a.put o.dst v') w') : wpList Tryd.prog ops Q (o :: rest) a w := by
  obtain ⟨i0, hi, hz0, hz1, hz2⟩ := info_parts info_u64
  have hall : All64 (l ++ l2) := fun y hy => by
    rcases List.mem_append.1 hy with hy | hy
    · exact hown.1 y hy
    · exact hsrc.1 y hy
  rcases hsrc.cases with ⟨rfl, rfl⟩ | ⟨g, cap, rfl, _, hb, h1, h2, hc, _⟩
  · refine wpList_append_own_none hgd s x 65 ho base 30 i0 1 Tryd.underlying65 hi v l.length (l.map wv) hs hown.2 hx ?_
    exact h v w (by rw [List.append_nil]; exact hown) (only_refl _ _)
  · refine wpList_append_own w hgd s x 65 ho base 30 i0 (.int .u64 0) 1 8 Tryd.underlying65 hi hz0 hz1 hz2 rfl (by decide) v l.length (l.map wv) hs hown.2 ⟨g, 0, none⟩ l2.length cap (l2.map wv) hx (by simp) ?_ ?_ ?_ (by omega) hbase ?_
    · intro j u hj
      have hjl : j < l2.length := by
        rcases Nat.lt_or_ge j l2.length with h' | h'
        · exact h'
        · rw [List.getElem?_eq_none (by simpa using h')] at hj; cases hj
      rw [Addr.add_lit, Nat.zero_add, hc j hjl]
      simp [hjl] at hj
      simp [List.getD, hjl, hj]
    · intro u hu
      obtain ⟨_, _, rfl⟩ := List.mem_map.1 hu
      rfl
    · unfold maxLen; omega
    · intro v' w' h3 h4 _
      refine h v' w' ⟨hall, ?_⟩ h4
      rw [List.length_append, List.map_append]
      exact h3
theorem made_wzeros (n : Nat) : (madeCells #[Value.int .u64 0] n).toList = (List.replicate n 0).map wv := by
  apply List.ext_getElem
  · simp [madeCells]
  · intro i h1 h2
    simp [madeCells, Nat.mod_one, wv]
theorem wpList_makefull_ws {w : World} {ops : Array Oper} {rest : List Oper} {o : Oper} {a : Act} {Q : Exit → Act → World → Prop} (hgd : o.guard = none) (l c : Operand)
    (ho : o.op = Op.makeSlice 65 l c) (base : Nat) (kl kc : IntKind) (L C : Int) (n : Nat) (hl : a.eval l = .int kl L) (hc : a.eval c = .int kc C) (hL : L = (n : Int)) (hC : C = (n : Int)) (hn : n ≤ 1000000) (hbase : base ≤ w.heap.size)
    (h : ∀ w', OwnW w' base (.slice (some ⟨w.heap.size, 0, none⟩) n n) (List.replicate n 0) → w.grownBy w' none → wpList Tryd.prog ops Q rest (a.put o.dst (.slice (some ⟨w.heap.size, 0, none⟩) n n)) w') : wpList Tryd.prog ops Q (o :: rest) a w := by
  obtain ⟨i0, hi, hz0, hz1, hz2⟩ := info_parts info_u64
  refine wpList_make_full w hgd l c 65 ho base 30 i0 (.int .u64 0) 1 Tryd.underlying65 hi hz0 hz1 kl kc L C n hl hc hL hC (by rw [hz2]; omega) (by unfold maxLen; omega) hbase ?_
  intro w' h1 h2
  refine h w' ⟨fun x hx => by rw [List.eq_of_mem_replicate hx]; omega, ?_⟩ h2
  rw [List.length_replicate, ← made_wzeros]
  have e : (Value.int IntKind.u64 0).cells = #[Value.int IntKind.u64 0] := rfl
  rw [e, Nat.mul_one] at h1
  exact h1

set_option maxRecDepth 100000 in
set_option maxHeartbeats 4000000 in
theorem prime_any (i p : Nat) (h : Rt.primeF 310 2 i = some p) (hi : i < 64) (w : World) :
    Calls Tryd.prog 23 #[.int .i64 i] w fun e w' => e = .returned (.int .i64 p) ∧ w' = w := by
  have H := Lib.hid h; clear h
  go_enter Tryd.func23, Tryd.ntmps23
  go_wp2
  go_loop [0, 3] (fun x y => ∃ k n : Nat, x = .int .i64 k ∧ y = .int .i64 n ∧ k < 64 ∧ 2 ≤ n ∧ n ≤ 312 ∧ Rt.primeF (312 - n) n k = some p) (fun _ y => 312 - (intOf y).toNat)
  case atStart => exact ⟨i, 2, rfl, rfl, hi, by omega, by omega, H.out⟩
  case round =>
    obtain ⟨k, n, rfl, rfl, hk, hn2, hn, hp⟩ := hrel
    clear H hi
    by_cases hn3 : n = 312
    · subst hn3; cases hp
    have hpe : 312 - n = (311 - n) + 1 := by omega
    rw [hpe] at hp
    have hp' : (if Rt.isP n then (if k = 0 then some n else Rt.primeF (311 - n) (n + 1) (k - 1)) else Rt.primeF (311 - n) (n + 1) k) = some p := hp
    have HP := Lib.hid hp'
    have HI := Lib.hid (Rt.isP_iff n)
    clear hp hp' hpe
    go_wp2
    go_loop [4, 5] (fun x y => ∃ (b : Bool) (d : Nat), x = .bool b ∧ y = .int .i64 d ∧ 2 ≤ d ∧ d ≤ n + 1 ∧ (b = true ↔ ∀ d', 2 ≤ d' → d' < d → d' * d' ≤ n → n % d' ≠ 0)) (fun _ y => n + 1 - (intOf y).toNat)
    case atStart => exact ⟨true, 2, rfl, rfl, by omega, by omega, by simp; intro d' h1 h2; omega⟩
    case round =>
      obtain ⟨b, d, rfl, rfl, hd2, hdn, hb⟩ := hrel
      have HB := Lib.hid hb; clear hb
      have hdd : (d : Int) * (d : Int) = ((d * d : Nat) : Int) := by simp
      have hdl : d * d ≤ 313 * 313 := Nat.mul_le_mul (by omega) (by omega)
      have hdm : d ≤ d * d := Nat.le_mul_of_pos_left _ (by omega)
      have hmod : (n : Int).tmod (d : Int) = ((n % d : Nat) : Int) := by rw [Int.tmod_eq_emod_of_nonneg (by omega)]; simp
      have HDD := Lib.hid (rfl : d * d = d * d)
      generalize hq : d * d = q at *
      have HQ := Lib.hid hq; clear hq HDD
      by_cases hle : q ≤ n
      · have HM := Lib.hid (rfl : n % d = n % d)
        generalize hr : n % d = r at *
        have HR := Lib.hid hr; clear hr HM
        by_cases hr0 : r = 0
        · go_wp2
          all_goals first | omega | skip
          all_goals (
            go_round
            case rel =>
              refine ⟨false, d + 1, rfl, by go_num, by omega, by omega, ⟨(fun h => by cases h), fun h => ?_⟩⟩
              exact absurd (HR.out.trans hr0) (h d hd2 (by omega) (by rw [HQ.out]; exact hle))
            case measure => simp [intOf]; omega)
        · go_wp2
          all_goals first | omega | skip
          all_goals (
            go_round
            case rel =>
              refine ⟨b, d + 1, rfl, by go_num, by omega, by omega, HB.out.trans ⟨fun h d' h1 h2 h3 => ?_, fun h d' h1 h2 h3 => h d' h1 (by omega) h3⟩⟩
              by_cases e : d' = d
              · subst e; rw [HR.out]; exact hr0
              · exact h d' h1 (by omega) h3
            case measure => simp [intOf]; omega)
      · have hbp : b = Rt.isP n := by
          rw [Bool.eq_iff_iff, HB.out, HI.out]
          constructor
          · intro h d' h1 h3
            refine h d' h1 ?_ h3
            rcases Nat.lt_or_ge d' d with h' | h'
            · exact h'
            · have := Nat.mul_le_mul h' h'
              rw [HQ.out] at this
              omega
          · intro h d' h1 _ h3
            exact h d' h1 h3
        clear HB HI
        rw [← hbp] at HP
        clear hbp hmod
        cases b
        · have HP2 := Lib.hid (show Rt.primeF (311 - n) (n + 1) k = some p from HP.out)
          go_wp2
          all_goals first | omega | skip
          all_goals (
            go_round
            case rel => exact ⟨k, n + 1, rfl, by go_num, hk, by omega, by omega, by rw [show 312 - (n + 1) = 311 - n by omega]; exact HP2.out⟩
            case measure => simp [intOf]; omega)
        · by_cases hk0 : k = 0
          · have HP2 := Lib.hid (show some n = some p by have := HP.out; rw [if_pos rfl, if_pos hk0] at this; exact this)
            go_wp2
            all_goals first | omega | skip
            all_goals (
              go_ret
              exact ⟨by have := Option.some.inj HP2.out; subst this; rfl, rfl⟩)
          · have HP2 := Lib.hid (show Rt.primeF (311 - n) (n + 1) (k - 1) = some p by have := HP.out; rw [if_pos rfl, if_neg hk0] at this; exact this)
            go_wp2
            all_goals first | omega | skip
            all_goals (
              go_round
              case rel => exact ⟨k - 1, n + 1, by go_num, by go_num, by omega, by omega, by omega, by rw [show 312 - (n + 1) = 311 - n by omega]; exact HP2.out⟩
              case measure => simp [intOf]; omega)
end Go.Proofs.YtgalddnblciciaaDoor
