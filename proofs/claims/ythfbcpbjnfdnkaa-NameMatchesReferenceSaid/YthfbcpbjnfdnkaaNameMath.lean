/- Layer 11 in plain Lean: words, texts, the two parsers. No function of the program. -/
namespace Nam
abbrev W := List UInt8
structure N where
  realm : W
  parts : List W
def none0 : N := ⟨[], []⟩
def okc (c : UInt8) : Bool := decide (33 ≤ c) && decide (c ≤ 126)
def word (l : W) : Bool := decide (1 ≤ l.length) && decide (l.length ≤ 100) && l.all okc
def valid (n : N) : Bool := word n.realm && decide (1 ≤ n.parts.length) && decide (n.parts.length ≤ 8) && n.parts.all word
def esc (c : UInt8) : Bool := c == 47 || c == 64 || c == 92
def escape (l : W) : W := l.flatMap fun c => if esc c then [92, c] else [c]
/-- The parts, a slash between. -/
def slashed : List W → W
  | [] => []
  | [p] => escape p
  | p :: q :: ps => escape p ++ 47 :: slashed (q :: ps)
def text (n : N) : W := if valid n then slashed n.parts ++ 64 :: escape n.realm else []
theorem escape_nil : escape [] = [] := rfl
theorem escape_cons (c : UInt8) (l : W) : escape (c :: l) = (if esc c then [92, c] else [c]) ++ escape l := rfl
theorem escape_append (l m : W) : escape (l ++ m) = escape l ++ escape m := by simp [escape, List.flatMap_append]

/-! ### the program's parser -/
/-- What scan makes of what is left, b having been read. -/
def scan : W → W → Option (W × W)
  | [], b => if word b then some (b, []) else none
  | c :: t, b =>
    if c = 47 ∨ c = 64 then (if word b then some (b, c :: t) else none)
    else if c = 92 then (match t with
      | [] => none
      | d :: t' => if esc d = false then none else if b.length = 100 then none else scan t' (b ++ [d]))
    else if b.length = 100 then none else scan t (b ++ [c])
def stop (r : W) : Prop := r = [] ∨ ∃ c t, r = c :: t ∧ (c = 47 ∨ c = 64)
theorem word_len {l : W} (h : word l = true) : 1 ≤ l.length ∧ l.length ≤ 100 := by
  unfold word at h
  simp only [Bool.and_eq_true, decide_eq_true_eq] at h
  exact h.1
theorem esc_iff (c : UInt8) : esc c = true ↔ c = 47 ∨ c = 64 ∨ c = 92 := by
  unfold esc; simp [or_assoc]
theorem scan_some : ∀ (s b w r : W), scan s b = some (w, r) → ∃ u, w = b ++ u ∧ s = escape u ++ r ∧ stop r ∧ word w = true
  | [], b, w, r, h => by
    unfold scan at h
    split at h
    · rename_i hw
      simp only [Option.some.injEq, Prod.mk.injEq] at h
      obtain ⟨rfl, rfl⟩ := h
      exact ⟨[], by simp, by simp [escape], .inl rfl, hw⟩
    · cases h
  | c :: t, b, w, r, h => by
    unfold scan at h
    split at h
    · rename_i hc
      split at h
      · rename_i hw
        simp only [Option.some.injEq, Prod.mk.injEq] at h
        obtain ⟨rfl, rfl⟩ := h
        exact ⟨[], by simp, by simp [escape], .inr ⟨c, t, rfl, hc⟩, hw⟩
      · cases h
    · rename_i hc
      split at h
      · rename_i h92
        match t, h with
        | [], h => cases h
        | d :: t', h =>
          dsimp only at h
          split at h
          · cases h
          · rename_i hd
            split at h
            · cases h
            · obtain ⟨u, h1, h2, h3, h4⟩ := scan_some t' (b ++ [d]) w r h
              have hd' : esc d = true := by cases hh : esc d with | true => rfl | false => exact absurd hh hd
              exact ⟨d :: u, by rw [h1]; simp, by rw [h2, escape_cons, if_pos hd', h92]; simp, h3, h4⟩
      · rename_i h92
        split at h
        · cases h
        · obtain ⟨u, h1, h2, h3, h4⟩ := scan_some t (b ++ [c]) w r h
          have he : esc c = false := by
            cases hh : esc c with
            | false => rfl
            | true => rcases (esc_iff c).1 hh with h | h | h
                      · exact absurd (.inl h) hc
                      · exact absurd (.inr h) hc
                      · exact absurd h h92
          exact ⟨c :: u, by rw [h1]; simp, by rw [h2, escape_cons, he]; simp, h3, h4⟩
theorem scan_of : ∀ (u b r : W), stop r → word (b ++ u) = true → scan (escape u ++ r) b = some (b ++ u, r)
  | [], b, r, hr, hw => by
    rw [List.append_nil] at hw ⊢
    rw [escape_nil, List.nil_append]
    rcases hr with rfl | ⟨c, t, rfl, hc⟩
    · unfold scan; rw [if_pos hw]
    · unfold scan; rw [if_pos hc, if_pos hw]
  | c :: u, b, r, hr, hw => by
    have hl := (word_len hw).2
    have hb : ¬ b.length = 100 := by simp at hl; omega
    have ih := scan_of u (b ++ [c]) r hr (by simpa using hw)
    rw [escape_cons]
    cases he : esc c with
    | true =>
      simp only [if_true, List.cons_append, List.nil_append]
      unfold scan
      rw [if_neg (by decide), if_pos rfl]
      dsimp only
      rw [if_neg (by rw [he]; decide), if_neg hb, ih]; simp
    | false =>
      simp only [Bool.false_eq_true, if_false, List.cons_append, List.nil_append]
      have h1 : ¬ (c = 47 ∨ c = 64) := fun h => by
        have := (esc_iff c).2 (h.elim .inl (fun h => .inr (.inl h))); rw [he] at this; cases this
      have h2 : ¬ c = 92 := fun h => by
        have := (esc_iff c).2 (.inr (.inr h)); rw [he] at this; cases this
      unfold scan
      rw [if_neg h1, if_neg h2, if_neg hb, ih]; simp
theorem scan_iff (s w r : W) : scan s [] = some (w, r) ↔ s = escape w ++ r ∧ stop r ∧ word w = true := by
  constructor
  · intro h
    obtain ⟨u, rfl, h2, h3, h4⟩ := scan_some s [] w r h
    exact ⟨by simpa using h2, h3, h4⟩
  · rintro ⟨rfl, h2, h3⟩
    simpa using scan_of w [] r h2 (by simpa using h3)

/-- What Parse makes of what is left, the parts having been read. -/
def parseK (fuel : Nat) (s : W) (ps : List W) : Option N := match fuel with
  | 0 => none
  | fuel + 1 => match scan s [] with
    | none => none
    | some (w, r) => if r = [] ∨ ps.length = 8 then none else match r with
      | [] => none
      | c :: t => if c = 64 then (match scan t [] with
          | some (x, []) => some ⟨x, ps ++ [w]⟩
          | _ => none) else parseK fuel t (ps ++ [w])
theorem scan_rest {s b w r : W} (h : scan s b = some (w, r)) : r.length ≤ s.length := by
  obtain ⟨u, _, rfl, _⟩ := scan_some s b w r h
  simp
theorem parseK_fuel : ∀ (f g : Nat) (s : W) (ps : List W), s.length < f → s.length < g → parseK f s ps = parseK g s ps
  | 0, _, s, _, h, _ => absurd h (Nat.not_lt_zero _)
  | _ + 1, 0, s, _, _, h => absurd h (Nat.not_lt_zero _)
  | f + 1, g + 1, s, ps, hf, hg => by
    unfold parseK
    cases hs : scan s [] with
    | none => rfl
    | some x =>
      obtain ⟨w, r⟩ := x
      dsimp only
      split
      · rfl
      · match r with
        | [] => rfl
        | c :: t =>
          have := scan_rest hs
          simp only [List.length_cons] at this
          dsimp only
          split
          · rfl
          · exact parseK_fuel f g t _ (by omega) (by omega)
def parse (s : W) : Option N := parseK (s.length + 1) s []
theorem slashed_cons (p : W) (ps : List W) (h : ps ≠ []) : slashed (p :: ps) = escape p ++ 47 :: slashed ps := by
  cases ps with
  | nil => exact absurd rfl h
  | cons q qs => rfl
theorem parseK_some : ∀ (f : Nat) (s : W) (ps : List W) (n : N), ps.length ≤ 8 → parseK f s ps = some n → ∃ qs, qs ≠ [] ∧ n.parts = ps ++ qs ∧ s = slashed qs ++ 64 :: escape n.realm ∧ word n.realm = true ∧ qs.all word = true ∧ ps.length + qs.length ≤ 8
  | 0, _, _, _, _, h => by cases h
  | f + 1, s, ps, n, hps, h => by
    unfold parseK at h
    cases hs : scan s [] with
    | none => rw [hs] at h; cases h
    | some x =>
      obtain ⟨w, r⟩ := x
      rw [hs] at h
      obtain ⟨h1, h2, h3⟩ := (scan_iff s w r).1 hs
      dsimp only at h
      split at h
      · cases h
      · rename_i hr
        match r, h with
        | [], h => cases h
        | c :: t, h =>
          dsimp only at h
          split at h
          · rename_i hc
            cases hx : scan t [] with
            | none => rw [hx] at h; cases h
            | some y =>
              obtain ⟨x, r2⟩ := y
              rw [hx] at h
              match r2, h, hx with
              | [], h, hx =>
                simp only [Option.some.injEq] at h
                subst h
                obtain ⟨k1, _, k3⟩ := (scan_iff t x []).1 hx
                refine ⟨[w], by simp, rfl, ?_, k3, by simpa using h3, ?_⟩
                · rw [h1, k1, hc]; simp [slashed]
                · simp; omega
              | _ :: _, h, _ => cases h
          · rename_i hc
            obtain ⟨qs, k1, k2, k3, k4, k5, k6⟩ := parseK_some f t (ps ++ [w]) n (by simp; omega) h
            have hc47 : c = 47 := by
              rcases h2 with h2 | ⟨c', t', h2, h2'⟩
              · cases h2
              · cases h2
                rcases h2' with h | h
                · exact h
                · exact absurd h hc
            refine ⟨w :: qs, by simp, by rw [k2]; simp, ?_, k4, ?_, ?_⟩
            · rw [slashed_cons _ _ k1, h1, k3, hc47]; simp
            · simp only [List.all_cons, Bool.and_eq_true]; exact ⟨h3, k5⟩
            · simp at k6 ⊢; omega
theorem parseK_of : ∀ (qs : List W) (f : Nat) (ps : List W) (x : W), qs ≠ [] → word x = true → qs.all word = true → ps.length + qs.length ≤ 8 → (slashed qs ++ 64 :: escape x).length < f → parseK f (slashed qs ++ 64 :: escape x) ps = some ⟨x, ps ++ qs⟩
  | _, 0, _, _, _, _, _, _, h => absurd h (Nat.not_lt_zero _)
  | [], _, _, _, h, _, _, _, _ => absurd rfl h
  | [w], f + 1, ps, x, _, hx, hw, hl, hf => by
    have hw' : word w = true := by simpa using hw
    have hs : scan (escape w ++ 64 :: escape x) [] = some (w, 64 :: escape x) := (scan_iff _ _ _).2 ⟨rfl, .inr ⟨_, _, rfl, .inr rfl⟩, hw'⟩
    have ht : scan (escape x) [] = some (x, []) := (scan_iff _ _ _).2 ⟨by simp, .inl rfl, hx⟩
    unfold parseK
    show (match scan (escape w ++ 64 :: escape x) [] with | none => none | some (w, r) => _) = _
    rw [hs]
    dsimp only
    rw [if_neg (by simp at hl ⊢; omega), if_pos rfl, ht]
  | w :: q :: qs, f + 1, ps, x, _, hx, hw, hl, hf => by
    simp only [List.all_cons, Bool.and_eq_true] at hw
    have e : slashed (w :: q :: qs) ++ 64 :: escape x = escape w ++ 47 :: (slashed (q :: qs) ++ 64 :: escape x) := by rw [slashed_cons _ _ (by simp)]; simp
    have hs : scan (escape w ++ 47 :: (slashed (q :: qs) ++ 64 :: escape x)) [] = some (w, 47 :: (slashed (q :: qs) ++ 64 :: escape x)) := (scan_iff _ _ _).2 ⟨rfl, .inr ⟨_, _, rfl, .inl rfl⟩, hw.1⟩
    rw [e] at hf ⊢
    unfold parseK
    rw [hs]
    dsimp only
    rw [if_neg (by simp at hl ⊢; omega), if_neg (by decide)]
    rw [parseK_of (q :: qs) f (ps ++ [w]) x (by simp) hx (by simp only [List.all_cons, Bool.and_eq_true]; exact hw.2) (by simp at hl ⊢; omega) (by simp at hf ⊢; omega)]
    simp
theorem valid_iff (n : N) : valid n = true ↔ word n.realm = true ∧ n.parts ≠ [] ∧ n.parts.length ≤ 8 ∧ n.parts.all word = true := by
  unfold valid
  simp only [Bool.and_eq_true, decide_eq_true_eq]
  constructor
  · rintro ⟨⟨⟨a, b⟩, c⟩, d⟩
    exact ⟨a, by intro h; rw [h] at b; simp at b, c, d⟩
  · rintro ⟨a, b, c, d⟩
    refine ⟨⟨⟨a, ?_⟩, c⟩, d⟩
    cases h : n.parts with
    | nil => exact absurd h b
    | cons _ _ => simp
theorem parse_iff (s : W) (n : N) : parse s = some n ↔ valid n = true ∧ text n = s := by
  unfold parse
  constructor
  · intro h
    obtain ⟨qs, h1, h2, h3, h4, h5, h6⟩ := parseK_some _ _ _ _ (by simp) h
    have h2' : n.parts = qs := by simpa using h2
    have hv : valid n = true := (valid_iff n).2 ⟨h4, by rw [h2']; exact h1, by rw [h2']; simpa using h6, by rw [h2']; exact h5⟩
    exact ⟨hv, by unfold text; rw [if_pos hv, h2', h3]⟩
  · rintro ⟨hv, ht⟩
    obtain ⟨a, b, c, d⟩ := (valid_iff n).1 hv
    unfold text at ht
    rw [if_pos hv] at ht
    subst ht
    have := parseK_of n.parts ((slashed n.parts ++ 64 :: escape n.realm).length + 1) [] n.realm b a d (by simpa using c) (Nat.lt_succ_self _)
    rw [this]
    cases n; simp

/-! ### the reference's parser -/
/-- The parts of what is left at a sign that no backslash stands in front of; cur has been read. -/
def split (sign : UInt8) : W → W → List W
  | [], cur => [cur]
  | [c], cur => if c = 92 then [cur ++ [c]] else if c = sign then [cur, []] else [cur ++ [c]]
  | c :: d :: t, cur => if c = 92 then split sign t (cur ++ [c, d]) else if c = sign then cur :: split sign (d :: t) [] else split sign (d :: t) (cur ++ [c])
def plain : W → W
  | [] => []
  | [c] => [c]
  | c :: d :: t => if c = 92 then d :: plain t else c :: plain (d :: t)
def refParse (s : W) : Option N := match split 64 s [] with
  | [a, b] => (fun n : N => if valid n = true ∧ text n = s then some n else none) ⟨plain b, (split 47 a []).map plain⟩
  | _ => none
theorem split_step (sign : UInt8) (c : UInt8) (t cur : W) (h1 : c ≠ 92) (h2 : c ≠ sign) : split sign (c :: t) cur = split sign t (cur ++ [c]) := by
  cases t with
  | nil => unfold split; rw [if_neg h1, if_neg h2]
  | cons d t => conv => lhs; unfold split
                rw [if_neg h1, if_neg h2]
theorem split_sign (sign : UInt8) (t cur : W) (h : sign ≠ 92) : split sign (sign :: t) cur = cur :: split sign t [] := by
  cases t with
  | nil => unfold split; rw [if_neg h, if_pos rfl]
  | cons d t => conv => lhs; unfold split
                rw [if_neg h, if_pos rfl]
theorem split_back (sign d : UInt8) (t cur : W) : split sign (92 :: d :: t) cur = split sign t (cur ++ [92, d]) := by
  conv => lhs; unfold split
  rw [if_pos rfl]
theorem split_escape (sign : UInt8) (hs : sign = 47 ∨ sign = 64) : ∀ (w r cur : W), split sign (escape w ++ r) cur = split sign r (cur ++ escape w)
  | [], r, cur => by simp [escape]
  | c :: w, r, cur => by
    rw [escape_cons]
    cases he : esc c with
    | true =>
      simp only [if_true, List.cons_append, List.nil_append]
      rw [split_back, split_escape sign hs w r]; simp
    | false =>
      simp only [Bool.false_eq_true, if_false, List.cons_append, List.nil_append]
      have hn : ∀ x, x = 47 ∨ x = 64 ∨ x = 92 → c ≠ x := fun x hx hc => by
        have := (esc_iff c).2 (by rw [hc]; exact hx); rw [he] at this; cases this
      rw [split_step sign c _ _ (hn 92 (.inr (.inr rfl))) (hn sign (hs.elim .inl (fun h => .inr (.inl h)))), split_escape sign hs w r]; simp
theorem split_slashed64 : ∀ (ps : List W) (r cur : W), split 64 (slashed ps ++ r) cur = split 64 r (cur ++ slashed ps)
  | [], r, cur => by simp [slashed]
  | [p], r, cur => split_escape 64 (.inr rfl) p r cur
  | p :: q :: ps, r, cur => by
    rw [slashed_cons _ _ (by simp), List.append_assoc, split_escape 64 (.inr rfl), List.cons_append, split_step 64 47 _ _ (by decide) (by decide), split_slashed64 (q :: ps)]
    simp
theorem split_slashed47 : ∀ (ps : List W), ps ≠ [] → split 47 (slashed ps) [] = ps.map escape
  | [], h => absurd rfl h
  | [p], _ => by
    have := split_escape 47 (.inl rfl) p [] []
    simp only [List.append_nil, List.nil_append] at this
    show split 47 (escape p) [] = _
    rw [this]; rfl
  | p :: q :: ps, _ => by
    rw [slashed_cons _ _ (by simp), split_escape 47 (.inl rfl), split_sign 47 _ _ (by decide), split_slashed47 (q :: ps) (by simp)]
    simp
theorem plain_step (c : UInt8) (t : W) (h : c ≠ 92) : plain (c :: t) = c :: plain t := by
  cases t with
  | nil => rfl
  | cons d t => conv => lhs; unfold plain
                rw [if_neg h]
theorem plain_back (d : UInt8) (t : W) : plain (92 :: d :: t) = d :: plain t := by
  conv => lhs; unfold plain
  rw [if_pos rfl]
theorem plain_escape : ∀ w : W, plain (escape w) = w
  | [] => rfl
  | c :: w => by
    rw [escape_cons]
    cases he : esc c with
    | true =>
      simp only [if_true, List.cons_append, List.nil_append]
      rw [plain_back, plain_escape w]
    | false =>
      simp only [Bool.false_eq_true, if_false, List.cons_append, List.nil_append]
      rw [plain_step c _ (fun h => by have := (esc_iff c).2 (.inr (.inr h)); rw [he] at this; cases this), plain_escape w]
theorem refParse_iff (s : W) (n : N) : refParse s = some n ↔ valid n = true ∧ text n = s := by
  constructor
  · intro h
    unfold refParse at h
    split at h
    · dsimp only at h
      split at h
      · rename_i hh
        simp only [Option.some.injEq] at h
        subst h; exact hh
      · cases h
    · cases h
  · rintro ⟨hv, ht⟩
    obtain ⟨a, b, c, d⟩ := (valid_iff n).1 hv
    have ht' := ht
    unfold text at ht'
    rw [if_pos hv] at ht'
    have e : split 64 s [] = [slashed n.parts, escape n.realm] := by
      rw [← ht', split_slashed64, split_sign 64 _ _ (by decide)]
      have := split_escape 64 (.inr rfl) n.realm [] []
      simp only [List.append_nil, List.nil_append] at this
      rw [this]; simp [split]
    unfold refParse
    rw [e]
    dsimp only
    rw [split_slashed47 _ b, plain_escape, List.map_map, show (plain ∘ escape) = id from funext plain_escape, List.map_id]
    rw [if_pos ⟨hv, ht⟩]
theorem parse_ref (s : W) : parse s = refParse s := by
  cases h : parse s with
  | some n => exact ((refParse_iff s n).2 ((parse_iff s n).1 h)).symm
  | none =>
    cases h2 : refParse s with
    | none => rfl
    | some n => rw [(parse_iff s n).2 ((refParse_iff s n).1 h2)] at h; cases h
end Nam
