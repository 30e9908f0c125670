/- Layer 11: names in memory; what the laws' awake answers. -/
import Derived.Test.YthfbcpbjnfdnkaaNameO
import Derived.Test.YthfbcpbjnfdnkaaWireAwake
namespace Go.Proofs.Ythfbcpbjnfdnkaa
open Go.RowKit Go.Deep

theorem map_bl_inj : ∀ {ss tt : List ByteArray}, ss.map bl = tt.map bl → ss = tt
  | [], [], _ => rfl
  | [], _ :: _, h => by simp at h
  | _ :: _, [], h => by simp at h
  | a :: ss, b :: tt, h => by
    simp only [List.map_cons, List.cons.injEq] at h
    rw [bl_inj h.1, map_bl_inj h.2]
theorem nm_inj {r q : ByteArray} {ss tt : List ByteArray} : nm r ss = nm q tt ↔ r = q ∧ ss = tt := by
  unfold nm
  constructor
  · intro h
    injection h with h1 h2
    exact ⟨bl_inj h1, map_bl_inj h2⟩
  · rintro ⟨rfl, rfl⟩; rfl
/-- A name in a block of its own. -/
def Nb (W : World) (b : Nat) (r : ByteArray) (v : Value) (ss : List ByteArray) : Prop := Hb W b #[.string r, v] 53 ∧ Ss W v ss ∧ r.size ≤ maxLen
theorem Nb.below {W W' : World} {b : Nat} {r : ByteArray} {v : Value} {ss : List ByteArray} (h : Nb W b r v ss) (k : Below W.heap.size W W') : Nb W' b r v ss := ⟨h.1.below k h.1.lt, h.2.1.below k, h.2.2⟩
theorem Nb.only {W W' : World} {b : Nat} {r : ByteArray} {v : Value} {ss : List ByteArray} (h : Nb W b r v ss) (k : W.grownBy W' none) : Nb W' b r v ss := h.below (below_of_only k)
theorem Nb.alloc {W : World} {b : Nat} {r : ByteArray} {v : Value} {ss : List ByteArray} (h : Nb W b r v ss) (o : Obj) : Nb (W.alloc o) b r v ss := h.only (only_alloc (only_refl W none) o)
theorem Nb.fresh {W : World} {r : ByteArray} {v : Value} {ss : List ByteArray} (h : Ss W v ss) (hr : r.size ≤ maxLen) : Nb (W.alloc (.cells #[.string r, v] 53)) W.heap.size r v ss := ⟨Hb.new _ _ _, h.only (only_alloc (only_refl W none) _), hr⟩
theorem Nb.c0 {W : World} {b : Nat} {r : ByteArray} {v : Value} {ss : List ByteArray} (h : Nb W b r v ss) : W.cell? ⟨b, 0, none⟩ = some (.string r) := h.1.cell (i := 0) rfl
theorem Nb.c1 {W : World} {b : Nat} {r : ByteArray} {v : Value} {ss : List ByteArray} (h : Nb W b r v ss) : W.cell? ⟨b, 1, none⟩ = some v := h.1.cell (i := 1) rfl
theorem zero_two (W : World) (r : ByteArray) : (W.alloc (.cells #[.string ⟨#[]⟩, .slice none 0 0] 53)).cell? ⟨W.heap.size, 0, none⟩ = some (.string ⟨#[]⟩) ∧ (W.alloc (.cells #[.string ⟨#[]⟩, .slice none 0 0] 53)).cell? ⟨W.heap.size, 1, none⟩ = some (.slice none 0 0) ∧ (W.alloc (.cells #[.string ⟨#[]⟩, .slice none 0 0] 53)).frozen? ⟨W.heap.size, 0, none⟩ = false ∧ (W.alloc (.cells #[.string ⟨#[]⟩, .slice none 0 0] 53)).frozen? ⟨W.heap.size, 1, none⟩ = false ∧ ((W.alloc (.cells #[.string ⟨#[]⟩, .slice none 0 0] 53)).setCell ⟨W.heap.size, 0, none⟩ (.string r)).cell? ⟨W.heap.size, 1, none⟩ = some (.slice none 0 0) ∧ ((W.alloc (.cells #[.string ⟨#[]⟩, .slice none 0 0] 53)).setCell ⟨W.heap.size, 0, none⟩ (.string r)).frozen? ⟨W.heap.size, 1, none⟩ = false :=
  (Hb.new W #[.string ⟨#[]⟩, .slice none 0 0] 53).two (.string r)
def hostS : ByteArray := ⟨#[104, 111, 115, 116]⟩
def abS : ByteArray := ⟨#[97, 47, 98]⟩
def realmS : ByteArray := ⟨#[82]⟩
def textS : ByteArray := ⟨#[104, 111, 115, 116, 47, 97, 92, 47, 98, 64, 82]⟩
theorem ss_lit (w : World) : Ss (w.alloc (.cells #[.string ⟨#[104, 111, 115, 116]⟩, .string ⟨#[97, 47, 98]⟩] 9)) (.slice (some ⟨w.heap.size, 0, none⟩) 2 2) [hostS, abS] := by
  refine ⟨fun s hs => ?_, by simp, .inr ⟨⟨w.heap.size, 0, none⟩, 2, rfl, ⟨by simp, by simp⟩, fun i hi => ?_⟩⟩
  · simp only [List.mem_cons, List.not_mem_nil, or_false] at hs
    rcases hs with rfl | rfl <;> decide
  · rw [Addr.add_lit, Nat.zero_add]
    match i, hi with
    | 0, _ => exact cell_new w _ _ 0 _ rfl
    | 1, _ => exact cell_new w _ _ 1 _ rfl
theorem lit_parse : Nam.parse (bl textS) = some (nm realmS [hostS, abS]) := (Nam.parse_iff _ _).2 ⟨by decide +kernel, by decide +kernel⟩
theorem lit_none : Nam.parse (bl hostS) = none := by decide +kernel
theorem lit_valid : Nam.valid (nm realmS [hostS, abS]) = true := by decide +kernel
theorem lit_bytes : (Nam.bytes (nm realmS [hostS, abS])).length = 12 := by decide +kernel
theorem lit_text : (⟨(Nam.text (nm realmS [hostS, abS])).toArray⟩ : ByteArray) = textS := by decide +kernel
theorem lit_zero : Nam.valid (nm ⟨#[]⟩ []) = false := by decide +kernel
theorem lit_read : Nam.refRead ⟨Nam.bytes (nm realmS [hostS, abS]), false⟩ = (⟨[], false⟩, some (nm realmS [hostS, abS])) := by
  have := Nam.refRead_bytes (nm realmS [hostS, abS]) [] lit_valid
  rwa [List.append_nil] at this

set_option maxRecDepth 100000 in
set_option maxHeartbeats 4000000 in
theorem awake_name (w : World) : Calls Try.prog 30 #[] w (RetBool true w) := by
  have S0 := Lib.hid (ss_lit w)
  have n0 := Nb.fresh (r := ⟨#[82]⟩) (ss_lit w) (by decide)
  have g0 := only_alloc (only_alloc (only_refl w none) (.cells #[.string ⟨#[104, 111, 115, 116]⟩, .string ⟨#[97, 47, 98]⟩] 9)) (.cells #[.string ⟨#[82]⟩, .slice (some ⟨w.heap.size, 0, none⟩) 2 2] 53)
  have z := (Hb.new (w.alloc (.cells #[.string ⟨#[104, 111, 115, 116]⟩, .string ⟨#[97, 47, 98]⟩] 9)) #[.string ⟨#[]⟩, .slice none 0 0] 53).two (.string ⟨#[82]⟩)
  simp only [World.size_alloc] at n0 z
  obtain ⟨x0, x1, x2, x3, x4, x5⟩ := z
  go_enter Try.func30, Try.ntmps30
  go_wp2_with fail
  refine (parse_any textS _ (by decide)).mono ?_
  rintro e w1 ⟨h1, v1, ss1, r1, rfl, o1, hr1, hn1⟩
  rw [lit_parse] at hn1 ⊢
  obtain ⟨rfl, rfl⟩ := nm_inj.1 hn1
  obtain ⟨va1, vc1, rfl⟩ : ∃ a c, v1 = .slice a 2 c := o1.ss.form
  have g1 := only_trans g0 h1
  have n1 := (n0.only h1)
  have m1 := Nb.fresh o1.ss hr1
  have n1' := n1.alloc (.cells #[.string realmS, .slice va1 2 vc1] 53)
  have c0 := n1'.c0
  have c1 := n1'.c1
  clear x0 x1 x2 x3 x4 x5 S0 n0 g0 h1 hn1 o1 n1
  obtain ⟨x0, x1, x2, x3, x4, x5⟩ := zero_two w1 realmS
  have g1' := only_alloc g1 (.cells #[.string realmS, .slice va1 2 vc1] 53)
  have hm : w1.heap.size < (w1.alloc (.cells #[.string realmS, .slice va1 2 vc1] 53)).heap.size := by simp
  go_wp2_with fail
  refine (nbytes_any realmS hr1 _ [hostS, abS] _ n1'.2.1).mono ?_
  rintro e w2 ⟨hb2, ht⟩
  rw [if_pos lit_valid] at ht
  rcases ht with ⟨hno, _⟩ | ⟨l2, v2, hl2, rfl, o2⟩
  · cases hno
  cases hl2
  have n2 := n1'.below hb2
  have m2 := m1.below hb2
  have g2 := only_trans g1' (only_of_below hb2 none)
  clear x0 x1 x2 x3 x4 x5 c0 c1 n1' m1 g1 g1' hm hb2
  obtain ⟨va2, vc2, rfl⟩ : ∃ a c, v2 = .slice a 12 c := by
    obtain ⟨a, c, h⟩ := o2.form
    rw [lit_bytes] at h
    exact ⟨a, c, h⟩
  go_wp2_with fail
  refine (parse_any hostS _ (by decide)).mono ?_
  rintro e w3 ⟨h3, v3, ss3, r3, rfl, o3, hr3, hn3⟩
  rw [lit_none] at hn3 ⊢
  obtain ⟨rfl, rfl⟩ := (nm_inj (r := r3) (ss := ss3) (q := ⟨#[]⟩) (tt := [])).1 hn3
  obtain ⟨va3, vc3, rfl⟩ : ∃ a c, v3 = .slice a 0 c := o3.ss.form
  have g3 := only_alloc (only_trans g2 h3) (.cells #[.string ⟨#[]⟩, .slice va3 0 vc3] 53)
  have n3 := (n2.only h3).alloc (.cells #[.string ⟨#[]⟩, .slice va3 0 vc3] 53)
  have m3 := (m2.only h3).alloc (.cells #[.string ⟨#[]⟩, .slice va3 0 vc3] 53)
  have hrs := (o2.bs.rs.below (below_of_only h3)).below (below_of_only (only_alloc (only_refl w3 none) (.cells #[.string ⟨#[]⟩, .slice va3 0 vc3] 53)))
  clear n2 m2 g2 h3 o2 o3 hn3 hr3
  obtain ⟨x0, x1, x2, x3, x4, x5⟩ := zero_two w3 ⟨#[]⟩
  go_wp2_with fail
  refine (new_any _ _ _ hrs (by rw [lit_bytes]; omega)).mono ?_
  rintro e w4 ⟨p, rfl, hp, hrd, hb4⟩
  clear x0 x1 x2 x3 x4 x5
  go_wp2_with fail
  refine (nread_any p _ w4 hrd (by rw [lit_bytes]; omega)).mono ?_
  rintro e w5 ⟨g5, ⟨v5, ss5, q5, rfl, o5, hq5, hn5⟩, _⟩
  rw [lit_read] at hn5 ⊢
  obtain ⟨rfl, rfl⟩ := nm_inj.1 hn5
  obtain ⟨va5, vc5, rfl⟩ : ∃ a c, v5 = .slice a 2 c := o5.ss.form
  have B5 := hb4.trans (below_reader g5 hp hb4.size)
  have n5 := (n3.below B5).alloc (.cells #[.string realmS, .slice va5 2 vc5] 53)
  have m5 := (m3.below B5).alloc (.cells #[.string realmS, .slice va5 2 vc5] 53)
  have x5 := Nb.fresh o5.ss hq5
  have g5 := only_alloc (only_trans g3 (only_of_below B5 none)) (.cells #[.string realmS, .slice va5 2 vc5] 53)
  clear n3 m3 g3 hrs hp hrd hb4 o5 hn5 B5
  obtain ⟨y0, y1, y2, y3, y4, y5⟩ := zero_two w5 realmS
  have c0 := n5.c0
  have c1 := n5.c1
  go_wp2_with fail
  refine (text_any ⟨#[82]⟩ (by decide) _ [hostS, abS] _ n5.2.1).mono ?_
  rintro e w6 ⟨rfl, h6⟩
  rw [show (⟨(Nam.text (nm ⟨#[82]⟩ [hostS, abS])).toArray⟩ : ByteArray) = ⟨#[104, 111, 115, 116, 47, 97, 92, 47, 98, 64, 82]⟩ from lit_text]
  clear y0 y1 y2 y3 y4 y5 c0 c1
  have n6 := n5.only h6
  have m6 := m5.only h6
  have x6 := x5.only h6
  have g6 := only_trans g5 h6
  clear n5 m5 x5 g5 h6
  have c0 := n6.c0
  have c1 := n6.c1
  have d0 := m6.c0
  have d1 := m6.c1
  go_wp2_with fail
  refine (same_name realmS ⟨#[82]⟩ _ _ [hostS, abS] [hostS, abS] _ m6.2.1 n6.2.1).mono ?_
  rintro e w7 ⟨rfl, h7⟩
  rw [show decide (realmS = (⟨#[82]⟩ : ByteArray) ∧ [hostS, abS] = [hostS, abS]) = true from decide_eq_true ⟨rfl, rfl⟩]
  clear c0 c1 d0 d1
  have n7 := n6.only h7
  have x7 := x6.only h7
  have g7 := only_trans g6 h7
  clear n6 m6 x6 g6 h7
  have c0 := n7.c0
  have c1 := n7.c1
  have d0 := x7.c0
  have d1 := x7.c1
  go_wp2_with fail
  refine (same_name realmS ⟨#[82]⟩ _ _ [hostS, abS] [hostS, abS] _ x7.2.1 n7.2.1).mono ?_
  rintro e w8 ⟨rfl, h8⟩
  rw [show decide (realmS = (⟨#[82]⟩ : ByteArray) ∧ [hostS, abS] = [hostS, abS]) = true from decide_eq_true ⟨rfl, rfl⟩]
  clear c0 c1 d0 d1
  have n8 := n7.only h8
  have g8 := only_trans g7 h8
  clear n7 x7 g7 h8
  have c0 := n8.c0
  have c1 := n8.c1
  go_wp2_with fail
  refine (valid_any ⟨#[82]⟩ (by decide) _ [hostS, abS] _ n8.2.1).mono ?_
  rintro e w9 ⟨rfl, h9⟩
  rw [show Nam.valid (nm ⟨#[82]⟩ [hostS, abS]) = true from lit_valid]
  have g9 := only_trans g8 h9
  clear c0 c1 n8 g8 h9
  go_wp2_with fail
  refine (valid_any ⟨#[]⟩ (by decide) _ [] _ (Ss.nil _)).mono ?_
  rintro e w10 ⟨rfl, h10⟩
  rw [lit_zero]
  have g10 := only_trans g9 h10
  clear g9 h10
  go_wp2_with fail
  go_ret
  exact ⟨rfl, below_of_only g10⟩
end Go.Proofs.Ythfbcpbjnfdnkaa
