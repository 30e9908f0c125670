/- The rows' last step for tickets: what an argument of type api.Ticket is. -/
import Derived.Test.YtnhchdkchohnbaaGreatDoorTicA
import Derived.Test.YtnhchdkchohnbaaGreatDoorTN6
import Derived.Lib.SmallJoins
import Derived.SliceStrings
import Derived.ChangeMaps5
namespace Go.Proofs.YtnhchdkchohnbaaGreatDoor
open Go.RowKit Go.Deep Go.ChangeShapes Go.WideShapes

theorem list20 {α : Type} {l : List α} (h : l.length = 20) : ∃ a b c d m, l = a :: b :: c :: d :: m ∧ m.length = 16 := by
  match l, h with
  | a :: b :: c :: d :: m, h => exact ⟨a, b, c, d, m, rfl, by simpa using h⟩
section
variable {H : Type} {enc : TypeId × Value → H} {w : World}
set_option maxRecDepth 100000 in
theorem strings_of {n : Nat} {v : Value} {y : DataW H × List MemPlace} (h : DataW.trod enc Tryz.prog w 0 (fun _ => true) true n 27 [v] = some y) : ∃ ss, Ss w v ss := by
  rcases open_strings Tryz.underlying27 Tryz.underlying9 (by kernel_rfl) h with ⟨hc, _⟩ | ⟨a, len, cap, ss, hc, _, hl, hm, hsl, _, hcell, hall⟩
  · simp at hc
    subst hc
    exact ⟨[], Ss.nil w⟩
  · simp at hc
    subst hc
    have hsl : ss.length = cap := by simpa using hsl
    have hmax : maxLen = 9223372036854775807 := by decide
    have htl : (ss.take len).length = len := by simp; omega
    refine ⟨ss.take len, fun s hs => hall s (List.mem_of_mem_take hs), by omega, .inr ⟨a, cap, by rw [htl], by rw [htl]; omega, fun i hi => ?_⟩⟩
    rw [htl] at hi
    rw [hcell i (by omega)]
    simp [hi]
set_option maxRecDepth 100000 in
theorem name_of {n : Nat} {v0 v1 : Value} {y : DataW H × List MemPlace} (h : DataW.trod enc Tryz.prog w 0 (fun _ => true) true n 29 [v0, v1] = some y) : ∃ (q : ByteArray) (ss : List ByteArray), v0 = .string q ∧ q.size ≤ maxLen ∧ Ss w v1 ss := by
  obtain ⟨y0, y1, m, _, _, h0, h1⟩ := trod_struct2 Tryz.underlying29 h
  have h0 : DataW.trod enc Tryz.prog w 0 (fun _ => true) true m 9 [v0] = some y0 := h0
  have h1 : DataW.trod enc Tryz.prog w 0 (fun _ => true) true m 27 [v1] = some y1 := h1
  obtain ⟨q, hq, -, hs⟩ := DataW.trod_string Tryz.underlying9 h0
  simp at hq
  obtain ⟨ss, hss⟩ := strings_of h1
  exact ⟨q, ss, hq, hs, hss⟩
set_option maxRecDepth 100000 in
theorem ints_of {n m : Nat} {k : IntKind} {t e : TypeId} {l : List Value} {y : DataW H × List MemPlace} (hl : l.length = n) (ht : Tryz.prog.underlying t = some (.array n e)) (he : Tryz.prog.underlying e = some (.int k)) (hce : Tryz.prog.cellsOf e = 1)
    (h : DataW.trod enc Tryz.prog w 0 (fun _ => true) true m t l = some y) : ∃ f : Nat → Int, l = (List.range n).map (fun i => Value.int k (f i)) ∧ ∀ i, i < n → (Lit.int k (f i)).wf = true := by
  obtain ⟨xs, m, _, _, _, hlx, hx⟩ := DataW.trod_array ht h
  have hcell : ∀ i, i < n → ∃ z : Int, l[i]? = some (.int k z) ∧ (Lit.int k z).wf = true := by
    intro i hi
    have h1 := hx i hi
    rw [hce, Nat.mul_one] at h1
    obtain ⟨y, hy⟩ : ∃ y, xs[i]? = some y := ⟨xs[i], List.getElem?_eq_getElem (by omega)⟩
    rw [hy] at h1
    obtain ⟨z, hz, _, hw⟩ := DataW.trod_int he h1
    refine ⟨z, ?_, hw⟩
    have h3 : (l.drop i).take 1 = [Value.int k z] := hz
    have h4 := congrArg (fun l => l[0]?) h3
    simpa [List.getElem?_take, List.getElem?_drop] using h4
  refine ⟨fun i => intOf (l.getD i undef), ?_, ?_⟩
  · have := list_of_fun n l hl undef
    refine this.trans (List.map_congr_left ?_)
    intro i hi
    have hi : i < n := by simpa using hi
    obtain ⟨z, hz, _⟩ := hcell i hi
    simp only [List.getD, hz, Option.getD_some, intOf]
  · intro i hi
    obtain ⟨z, hz, hw⟩ := hcell i hi
    simpa only [List.getD, hz, Option.getD_some, intOf] using hw
set_option maxRecDepth 100000 in
theorem open_ticket {r : Reach} {b0 : Nat} {v : Value} {d : DataW H} {p : List MemPlace} (hv : Value.okWide Tryz.prog w r b0 41 v)
    (h : DataW.Trod enc Tryz.prog w 0 (fun _ => true) true 41 v d p) : ∃ (q : ByteArray) (u : Value) (ss : List ByteArray) (s e : Int) (key : Nat → Nat), v = .agg (tk q u s e key) ∧ q.size ≤ maxLen ∧ Ss w u ss ∧ (Lit.int .i64 s).wf = true ∧ (Lit.int .i64 e).wf = true ∧ Aes.B8 key := by
  obtain ⟨cs, rfl, hsz⟩ := okWide_struct Tryz.underlying41 hv
  obtain ⟨fuel, hf⟩ := h
  have hC : Tryz.prog.cellsOf 41 = 20 := by kernel_rfl
  rw [hC] at hsz
  obtain ⟨l⟩ := cs
  obtain ⟨c0, c1, c2, c3, m, rfl, hm⟩ := list20 (l := l) hsz
  obtain ⟨y0, y1, y2, y3, n, _, _, h0, h1, h2, h3⟩ := Joins.trod_struct4 Tryz.underlying41 hf
  have e2 : Tryz.prog.cellsOf 29 = 2 := by kernel_rfl
  have e1 : Tryz.prog.cellsOf 2 = 1 := by kernel_rfl
  have e16 : Tryz.prog.cellsOf 22 = 16 := by kernel_rfl
  dsimp only at h0 h1 h2 h3
  rw [e2] at h0
  rw [e1] at h1 h2
  rw [e16] at h3
  have k0 : DataW.trod enc Tryz.prog w 0 (fun _ => true) true n 29 [c0, c1] = some y0 := h0
  have k1 : DataW.trod enc Tryz.prog w 0 (fun _ => true) true n 2 [c2] = some y1 := h1
  have k2 : DataW.trod enc Tryz.prog w 0 (fun _ => true) true n 2 [c3] = some y2 := h2
  have k3 : DataW.trod enc Tryz.prog w 0 (fun _ => true) true n 22 (m.take 16) = some y3 := h3
  rw [List.take_of_length_le (by omega)] at k3
  clear h0 h1 h2 h3 hf hv
  obtain ⟨q, ss, rfl, hq, hss⟩ := name_of k0
  obtain ⟨s, hs, _, ws⟩ := DataW.trod_int Tryz.underlying2 k1
  obtain ⟨e, he, _, we⟩ := DataW.trod_int Tryz.underlying2 k2
  simp at hs he
  subst hs he
  obtain ⟨f, rfl, hfw⟩ := ints_of hm Tryz.underlying22 Tryz.underlying5 (by kernel_rfl) k3
  obtain ⟨key, hk, ek⟩ := bytes_arg f hfw
  refine ⟨q, c1, ss, s, e, key, ?_, hq, hss, ws, we, hk⟩
  have e3 : (⟨Value.string q :: c1 :: Value.int .i64 s :: Value.int .i64 e :: (List.range 16).map fun i => Value.int .u8 (f i)⟩ : Array Value) = #[.string q, c1, .int .i64 s, .int .i64 e] ++ ((List.range 16).map fun i => Value.int .u8 (f i)).toArray := by simp
  rw [e3, ek]; rfl
end
end Go.Proofs.YtnhchdkchohnbaaGreatDoor
