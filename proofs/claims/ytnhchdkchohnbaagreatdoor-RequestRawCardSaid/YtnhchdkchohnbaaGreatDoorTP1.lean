/- Merged by program out of: TicMath AutMath ReqMath. -/
import Derived.Test.YtnhchdkchohnbaaGreatDoorTM1
import Derived.Test.YtnhchdkchohnbaaGreatDoorTM2
import Derived.Test.YtnhchdkchohnbaaGreatDoorTM3
import Derived.Test.YtnhchdkchohnbaaGreatDoorTM4
import Derived.Test.YtnhchdkchohnbaaGreatDoorTM5
import Derived.Test.YtnhchdkchohnbaaGreatDoorTM6
import Derived.Test.YtnhchdkchohnbaaGreatDoorTM7
import Derived.Test.YtnhchdkchohnbaaGreatDoorTM8
import Derived.Test.YtnhchdkchohnbaaGreatDoorTM9
import Derived.Test.YtnhchdkchohnbaaGreatDoorTN1
import Derived.Test.YtnhchdkchohnbaaGreatDoorTN2
import Derived.Test.YtnhchdkchohnbaaGreatDoorTN3
import Derived.Test.YtnhchdkchohnbaaGreatDoorTN4
import Derived.Test.YtnhchdkchohnbaaGreatDoorTN5
import Derived.Test.YtnhchdkchohnbaaGreatDoorTN6
/- Layer 12 in plain Lean: what reading takes off, read backwards. No function of the program. -/
namespace Go.Proofs.YtnhchdkchohnbaaGreatDoor
namespace Wir
open _root_.Wir
theorem be_append_one (l : List Nat) (x : Nat) : be (l ++ [x]) = be l * 256 + x := by simp [be]
theorem enc_be (k : Nat) : ∀ (l : List Nat), l.length = k → (∀ x, x ∈ l → x < 256) → enc k (be l) = l := by
  induction k with
  | zero => intro l hl _; obtain rfl := List.eq_nil_of_length_eq_zero hl; rfl
  | succ k ih =>
    intro l hl h
    rcases List.eq_nil_or_concat l with rfl | ⟨m, x, rfl⟩
    · simp at hl
    · simp only [List.concat_eq_append] at hl h ⊢
      have hx : x < 256 := h x (by simp)
      have hm : m.length = k := by simpa using hl
      have e := ih m hm (fun y hy => h y (by simp [hy]))
      rw [be_append_one]
      show enc k ((be m * 256 + x) / 256) ++ [(be m * 256 + x) % 256] = _
      rw [show (be m * 256 + x) / 256 = be m by omega, show (be m * 256 + x) % 256 = x by omega, e]
theorem next_back {r : R} {n : Nat} (h : (next r n).1.bad = false) : r.bad = false ∧ ∃ l, (next r n).2 = some l ∧ r.l = l ++ (next r n).1.l ∧ l.length = n := by
  unfold next at h ⊢
  split
  · rename_i hc; rw [if_pos hc] at h; simp [failed] at h
  · rename_i hc
    exact ⟨by simpa using (not_or.1 hc).1, _, rfl, (List.take_append_drop _ _).symm, by rw [List.length_take]; have := (not_or.1 hc).2; omega⟩
theorem take_back {r : R} {n : Nat} (h : (take r n).1.bad = false) : r.bad = false ∧ r.l = (take r n).2 ++ (take r n).1.l ∧ (take r n).2.length = n := by
  unfold take at h ⊢
  rw [if_neg (by omega)] at h ⊢
  dsimp only at h ⊢
  rw [Int.toNat_natCast] at h ⊢
  obtain ⟨h1, l, e, h2, h3⟩ := next_back h
  rw [e]
  exact ⟨h1, h2, h3⟩
theorem num_back {r : R} {k : Nat} (hk : 1 ≤ k ∧ k ≤ 8) (hr : ∀ x, x ∈ r.l → x < 256) (h : (num r k).1.bad = false) : r.bad = false ∧ r.l = enc k (num r k).2 ++ (num r k).1.l := by
  unfold num number at h ⊢
  rw [if_neg (by omega)] at h ⊢
  dsimp only at h ⊢
  rw [Int.toNat_natCast] at h ⊢
  obtain ⟨h1, l, e, h2, h3⟩ := next_back h
  refine ⟨h1, ?_⟩
  rw [e]
  show r.l = enc k (be l) ++ _
  rw [enc_be k l h3 (fun x hx => hr x (by rw [h2]; simp [hx]))]; exact h2
theorem string_back {r : R} (hr : ∀ x, x ∈ r.l → x < 256) (h : (string r 1).1.bad = false) : r.bad = false ∧ r.l = (string r 1).2.length :: ((string r 1).2 ++ (string r 1).1.l) := by
  have hs : string r 1 = if (num r 1).1.bad = true then (failed, []) else ((next (num r 1).1 (num r 1).2).1, (next (num r 1).1 (num r 1).2).2.getD []) := by
    cases hn : number r 1 with
    | mk r1 o =>
      have hn2 := hn
      unfold number next at hn2
      rw [if_neg (by omega)] at hn2
      unfold string num
      rw [hn]
      by_cases hc : r.bad = true ∨ r.l.length < (1 : Int).toNat
      · rw [if_pos hc] at hn2
        simp only [Option.map_none, Prod.mk.injEq] at hn2
        obtain ⟨rfl, rfl⟩ := hn2
        simp [failed]
      · rw [if_neg hc] at hn2
        simp only [Option.map_some, Prod.mk.injEq] at hn2
        obtain ⟨rfl, rfl⟩ := hn2
        simp
  rw [hs] at h ⊢
  by_cases hb : (num r 1).1.bad = true
  · rw [if_pos hb] at h; simp [failed] at h
  · rw [if_neg hb] at h ⊢
    obtain ⟨h0, h1⟩ := num_back (k := 1) (by omega) hr (by simpa using hb)
    obtain ⟨_, l, e, h2, h3⟩ := next_back h
    refine ⟨h0, ?_⟩
    dsimp only
    rw [e]
    show r.l = l.length :: (l ++ _)
    have e1 : ((1 : Nat) : Int) = 1 := rfl
    rw [e1] at h1
    have hlt : (num r 1).2 < 256 := by
      unfold num number next
      rw [if_neg (by omega)]
      split
      · simp
      · cases hl : r.l with
        | nil => simp [be]
        | cons x t => simp [be]; exact hr x (by rw [hl]; simp)
    rw [h1, h2, h3]
    simp [enc, Nat.mod_eq_of_lt hlt]
end Wir
namespace Nam
open _root_.Nam
theorem sized_back (l : List Nat) (h : ∀ x, x ∈ l → x < 256) : sized (fromN l) = l.length :: l := by
  unfold sized
  rw [to_from l h, fromN_length]
theorem num_bad {r : Wir.R} {k : Int} (h : (Wir.num r k).1.bad = false) : r.bad = false := by
  unfold Wir.num Wir.number Wir.next at h
  dsimp only at h
  split at h
  · simp [Wir.failed] at h
  · dsimp only at h
    split at h
    · simp [Wir.failed] at h
    · rename_i hc; simpa using (not_or.1 hc).1
theorem string_bad {r : Wir.R} (h : (Wir.string r 1).1.bad = false) : r.bad = false := by
  have : (Wir.num r 1).1.bad = false := by
    unfold Wir.string at h
    unfold Wir.num
    cases hn : Wir.number r 1 with
    | mk r1 o =>
      rw [hn] at h
      cases o with
      | none => exact h
      | some x =>
        dsimp only at h
        exact (Wir.next_back h).1
  exact num_bad this
theorem loopR_bad : ∀ (k : Nat) (r : Wir.R) (ps : List W), (loopR k r ps).1.bad = false → r.bad = false
  | 0, _, _, h => h
  | k + 1, r, ps, h => string_bad (loopR_bad k (Wir.string r 1).1 (ps ++ [fromN (Wir.string r 1).2]) h)
theorem loopR_back : ∀ (k : Nat) (r : Wir.R) (ps : List W), (∀ x, x ∈ r.l → x < 256) → (loopR k r ps).1.bad = false →
    r.bad = false ∧ ∃ qs, (loopR k r ps).2 = ps ++ qs ∧ qs.length = k ∧ r.l = (qs.map sized).flatten ++ (loopR k r ps).1.l
  | 0, r, ps, _, h => ⟨h, [], by simp [loopR], rfl, by simp [loopR]⟩
  | k + 1, r, ps, hr, h => by
    have h' : (loopR k (Wir.string r 1).1 (ps ++ [fromN (Wir.string r 1).2])).1.bad = false := h
    have hsb : (Wir.string r 1).1.bad = false := loopR_bad k _ _ h'
    obtain ⟨h0, h1⟩ := Wir.string_back hr hsb
    obtain ⟨_, qs, e1, e2, e3⟩ := loopR_back k (Wir.string r 1).1 (ps ++ [fromN (Wir.string r 1).2]) (fun x hx => hr x (by rw [h1]; simp [hx])) h'
    refine ⟨h0, fromN (Wir.string r 1).2 :: qs, ?_, by simp [e2], ?_⟩
    · show (loopR k (Wir.string r 1).1 (ps ++ [fromN (Wir.string r 1).2])).2 = _
      rw [e1]; simp
    · show r.l = _ ++ (loopR k (Wir.string r 1).1 (ps ++ [fromN (Wir.string r 1).2])).1.l
      rw [List.map_cons, List.flatten_cons, sized_back _ (fun x hx => hr x (by rw [h1]; simp [hx])), List.append_assoc, ← e3]
      exact h1
theorem refRead_back {r : Wir.R} {n : N} (hr : ∀ x, x ∈ r.l → x < 256) (h : (refRead r).2 = some n) : r.bad = false ∧ valid n = true ∧ (refRead r).1.bad = false ∧ r.l = bytes n ++ (refRead r).1.l := by
  unfold refRead at h ⊢
  dsimp only at h ⊢
  split at h
  · cases h
  · rename_i hc
    obtain ⟨c1, c2⟩ := not_or.1 hc
    have c1 : (loopR (min (Wir.num (Wir.string r 1).1 1).2 9) (Wir.num (Wir.string r 1).1 1).1 []).1.bad = false := by simpa using c1
    have hn : n = ⟨fromN (Wir.string r 1).2, (loopR (min (Wir.num (Wir.string r 1).1 1).2 9) (Wir.num (Wir.string r 1).1 1).1 []).2⟩ := (Option.some.inj h).symm
    rw [← hn] at c2
    have hv : valid n = true := by simpa using c2
    have n1 := loopR_bad _ _ _ c1
    have n0 : (Wir.string r 1).1.bad = false := num_bad n1
    obtain ⟨b0, l0⟩ := Wir.string_back hr n0
    have hr1 : ∀ x, x ∈ (Wir.string r 1).1.l → x < 256 := fun x hx => hr x (by rw [l0]; simp [hx])
    obtain ⟨b1, l1⟩ := Wir.num_back (k := 1) (by omega) hr1 n1
    have e1 : ((1 : Nat) : Int) = 1 := rfl
    rw [e1] at l1
    obtain ⟨_, qs, q1, q2, q3⟩ := loopR_back _ _ _ (fun x hx => hr1 x (by rw [l1]; simp [hx])) c1
    rw [List.nil_append] at q1
    have hp : n.parts = qs := by rw [hn]; exact q1
    have h8 := ((valid_iff n).1 hv).2.2.1
    rw [hp, q2] at h8
    have hk : (Wir.num (Wir.string r 1).1 1).2 = qs.length := by omega
    refine ⟨b0, hv, c1, ?_⟩
    have hre : n.realm = fromN (Wir.string r 1).2 := by rw [hn]
    unfold bytes
    rw [hre, hp, sized_back _ (fun x hx => hr x (by rw [l0]; simp [hx])), l0]
    rw [hk] at l1
    have hq9 : qs.length % 256 = qs.length := Nat.mod_eq_of_lt (by omega)
    have l2 : (Wir.string r 1).1.l = qs.length :: (Wir.num (Wir.string r 1).1 1).1.l := by rw [l1]; simp [Wir.enc, hq9]
    simp only [List.cons_append, List.append_assoc]
    rw [← q3, ← l2]
end Nam
namespace Tic
structure T where
  client : Nam.N
  start : Int
  stop : Int
  key : List Nat
def valid (t : T) : Bool := Nam.valid t.client && decide (0 ≤ t.start) && decide (t.start ≤ t.stop) && decide (t.stop ≤ 1099511627776)
def bytes (t : T) : List Nat := 1 :: (Nam.bytes t.client ++ (Wir.enc 8 t.start.toNat ++ (Wir.enc 8 t.stop.toNat ++ t.key)))
def parse (b : List Nat) : Option T :=
  if (Wir.num ⟨b, false⟩ 1).2 ≠ 1 then none else
  match (Nam.refRead (Wir.num ⟨b, false⟩ 1).1).2 with
  | none => none
  | some n =>
    let s := Wir.num (Nam.refRead (Wir.num ⟨b, false⟩ 1).1).1 8
    let e := Wir.num s.1 8
    let k := Wir.take e.1 16
    if (k.1.bad = true ∨ k.1.l.length ≠ 0) ∨ e.2 < s.2 ∨ 1099511627776 < e.2 then none else some ⟨n, s.2, e.2, k.2⟩
theorem valid_iff (t : T) : valid t = true ↔ Nam.valid t.client = true ∧ 0 ≤ t.start ∧ t.start ≤ t.stop ∧ t.stop ≤ 1099511627776 := by
  unfold valid; simp [and_assoc]
theorem num_enc (x : Nat) (t : List Nat) (h : x < 18446744073709551616) : Wir.num ⟨Wir.enc 8 x ++ t, false⟩ 8 = (⟨t, false⟩, x) := by
  have e : Wir.putNumber 8 x = some (Wir.enc 8 x) := by
    unfold Wir.putNumber
    rw [if_neg (by omega), if_pos (by simpa using h)]; rfl
  have := Wir.number_put e t
  unfold Wir.num
  rw [this]; rfl
theorem take_app (l t : List Nat) (k : Nat) (h : l.length = k) : Wir.take ⟨l ++ t, false⟩ k = (⟨t, false⟩, l) := by
  unfold Wir.take
  rw [if_neg (by omega), Int.toNat_natCast, ← h, Wir.next_app]; rfl
theorem parse_bytes {t : T} (hv : valid t = true) (hk : t.key.length = 16) : parse (bytes t) = some t := by
  obtain ⟨v1, v2, v3, v4⟩ := (valid_iff t).1 hv
  obtain ⟨n, s, e, k⟩ := t
  dsimp only at v1 v2 v3 v4 hk
  obtain ⟨s, rfl⟩ := Int.eq_ofNat_of_zero_le v2
  obtain ⟨e, rfl⟩ := Int.eq_ofNat_of_zero_le (by omega : 0 ≤ e)
  have e1 := Nam.num_one 1 (Nam.bytes n ++ (Wir.enc 8 s ++ (Wir.enc 8 e ++ k))) (by omega)
  have e2 := Nam.refRead_bytes n (Wir.enc 8 s ++ (Wir.enc 8 e ++ k)) v1
  have e3 := num_enc s (Wir.enc 8 e ++ k) (by omega)
  have e4 := num_enc e k (by omega)
  have e5 := take_app k [] 16 hk
  rw [List.append_nil] at e5
  have e6 : ((16 : Nat) : Int) = 16 := rfl
  rw [e6] at e5
  unfold parse bytes
  dsimp only
  rw [Int.toNat_natCast, Int.toNat_natCast, e1]
  dsimp only
  rw [if_neg (by omega), e2]
  dsimp only
  rw [e3]
  dsimp only
  rw [e4]
  dsimp only
  rw [e5]
  dsimp only
  rw [if_neg (by simp; omega)]
theorem parse_some {b : List Nat} {t : T} (hb : ∀ x, x ∈ b → x < 256) (h : parse b = some t) : valid t = true ∧ t.key.length = 16 ∧ bytes t = b := by
  unfold parse at h
  split at h
  · cases h
  rename_i h1
  have h1 : (Wir.num ⟨b, false⟩ 1).2 = 1 := by omega
  split at h
  · cases h
  rename_i n hn
  dsimp only at h
  split at h
  · cases h
  rename_i hc
  obtain ⟨c1, c2⟩ := not_or.1 hc
  obtain ⟨c1, c3⟩ := not_or.1 c1
  obtain ⟨c4, c5⟩ := not_or.1 c2
  have t1 : (Wir.take (Wir.num (Wir.num (Nam.refRead (Wir.num ⟨b, false⟩ 1).1).1 8).1 8).1 16).1.bad = false := by simpa using c1
  have c3 : (Wir.take (Wir.num (Wir.num (Nam.refRead (Wir.num ⟨b, false⟩ 1).1).1 8).1 8).1 16).1.l = [] := by simpa using c3
  obtain ⟨t2, t3, t4⟩ := Wir.take_back (n := 16) t1
  have e16 : ((16 : Nat) : Int) = 16 := rfl
  rw [e16] at t3 t4
  have s1 := Nam.num_bad t2
  have r1 := Nam.num_bad s1
  have hr0 : (Wir.num ⟨b, false⟩ 1).1.bad = false := by
    cases hh : (Wir.num ⟨b, false⟩ 1).1.bad with
    | false => rfl
    | true =>
      exfalso
      unfold Wir.num Wir.number Wir.next at h1 hh
      rw [if_neg (by omega)] at h1 hh
      dsimp only at h1 hh
      split at h1
      · simp at h1
      · rename_i hd; rw [if_neg hd] at hh; simp at hh
  obtain ⟨_, b0⟩ := Wir.num_back (k := 1) (by omega) hb hr0
  have e1 : ((1 : Nat) : Int) = 1 := rfl
  rw [e1, h1] at b0
  dsimp only at b0
  have hb1 : ∀ x, x ∈ (Wir.num ⟨b, false⟩ 1).1.l → x < 256 := fun x hx => hb x (by rw [b0]; simp [hx])
  obtain ⟨_, nv, _, b1⟩ := Nam.refRead_back hb1 hn
  have hb2 : ∀ x, x ∈ (Nam.refRead (Wir.num ⟨b, false⟩ 1).1).1.l → x < 256 := fun x hx => hb1 x (by rw [b1]; simp [hx])
  obtain ⟨_, b2⟩ := Wir.num_back (k := 8) (by omega) hb2 s1
  have e8 : ((8 : Nat) : Int) = 8 := rfl
  rw [e8] at b2
  have hb3 : ∀ x, x ∈ (Wir.num (Nam.refRead (Wir.num ⟨b, false⟩ 1).1).1 8).1.l → x < 256 := fun x hx => hb2 x (by rw [b2]; simp [hx])
  obtain ⟨_, b3⟩ := Wir.num_back (k := 8) (by omega) hb3 t2
  rw [e8] at b3
  obtain rfl := Option.some.inj h
  refine ⟨(valid_iff _).2 ⟨nv, by simp, by simp; omega, by simp; omega⟩, t4, ?_⟩
  unfold bytes
  dsimp only
  rw [Int.toNat_natCast, Int.toNat_natCast]
  rw [c3, List.append_nil] at t3
  rw [← t3, ← b3, ← b2, ← b1]
  refine Eq.trans ?_ b0.symm
  simp [Wir.enc]
def refParse (b : List Nat) : Option T :=
  if b.length < 33 ∨ b.getD 0 0 ≠ 1 then none else
  match (Nam.refRead ⟨(b.take (b.length - 32)).drop 1, false⟩).2 with
  | none => none
  | some n =>
    if 0 < (Nam.refRead ⟨(b.take (b.length - 32)).drop 1, false⟩).1.l.length then none else
    let s := (Wir.num ⟨b.drop (b.length - 32), false⟩ 8).2
    let e := (Wir.num ⟨b.drop (b.length - 32 + 8), false⟩ 8).2
    if e < s ∨ 1099511627776 < e then none else some ⟨n, s, e, (b.drop (b.length - 32 + 16)).take 16⟩
theorem num8_take (l : List Nat) (h : 8 ≤ l.length) : Wir.num ⟨l, false⟩ 8 = (⟨l.drop 8, false⟩, Wir.be (l.take 8)) := by
  unfold Wir.num Wir.number Wir.next
  rw [if_neg (by omega)]
  dsimp only
  rw [if_neg (by simp; omega)]
  rfl
theorem refParse_some {b : List Nat} {t : T} (hb : ∀ x, x ∈ b → x < 256) (h : refParse b = some t) : valid t = true ∧ t.key.length = 16 ∧ bytes t = b := by
  unfold refParse at h
  split at h
  · cases h
  rename_i h0
  obtain ⟨h33, h1⟩ := not_or.1 h0
  have h1 : b.getD 0 0 = 1 := by omega
  split at h
  · cases h
  rename_i n hn
  split at h
  · cases h
  rename_i hz
  dsimp only at h
  split at h
  · cases h
  rename_i hc
  obtain ⟨c1, c2⟩ := not_or.1 hc
  obtain ⟨m, hm⟩ : ∃ m, m = b.length - 32 := ⟨_, rfl⟩
  rw [← hm] at h hn hz c1 c2
  have hD : (b.drop m).length = 32 := by rw [List.length_drop]; omega
  have d8 : b.drop (m + 8) = (b.drop m).drop 8 := by rw [List.drop_drop]
  have d16 : b.drop (m + 16) = (b.drop m).drop 16 := by rw [List.drop_drop]
  rw [d8] at h c1 c2
  rw [d16] at h
  have n1 := num8_take (b.drop m) (by omega)
  have n2 := num8_take ((b.drop m).drop 8) (by rw [List.length_drop]; omega)
  rw [n1, n2] at h c1
  rw [n2] at c2
  dsimp only at h c1 c2
  have hmid : ∀ x, x ∈ (b.take m).drop 1 → x < 256 := fun x hx => hb x (List.mem_of_mem_take (List.mem_of_mem_drop hx))
  obtain ⟨_, nv, _, b1⟩ := Nam.refRead_back (r := ⟨(b.take m).drop 1, false⟩) hmid hn
  have hz : (Nam.refRead ⟨(b.take m).drop 1, false⟩).1.l = [] := List.eq_nil_of_length_eq_zero (by omega)
  rw [hz, List.append_nil] at b1
  dsimp only at b1
  have hDall : ∀ x, x ∈ b.drop m → x < 256 := fun x hx => hb x (List.mem_of_mem_drop hx)
  have q1 := Wir.enc_be 8 ((b.drop m).take 8) (by rw [List.length_take]; omega) (fun x hx => hDall x (List.mem_of_mem_take hx))
  have q2 := Wir.enc_be 8 (((b.drop m).drop 8).take 8) (by rw [List.length_take, List.length_drop]; omega) (fun x hx => hDall x (List.mem_of_mem_drop (List.mem_of_mem_take hx)))
  obtain rfl := Option.some.inj h
  refine ⟨(valid_iff _).2 ⟨nv, Int.natCast_nonneg _, by dsimp only; omega, by dsimp only; omega⟩, by rw [List.length_take, List.length_drop]; omega, ?_⟩
  unfold bytes
  dsimp only
  rw [Int.toNat_natCast, Int.toNat_natCast, q1, q2, ← b1]
  have t16 : ((b.drop m).drop 16).take 16 = (b.drop m).drop 16 := List.take_of_length_le (by rw [List.length_drop]; omega)
  rw [t16]
  have w1 : (b.drop m).take 8 ++ (((b.drop m).drop 8).take 8 ++ (b.drop m).drop 16) = b.drop m := by
    have : (b.drop m).drop 16 = ((b.drop m).drop 8).drop 8 := by simp [List.drop_drop, Nat.add_assoc]
    rw [this, List.take_append_drop, List.take_append_drop]
  rw [w1]
  cases b with
  | nil => simp at h33
  | cons x y =>
    obtain rfl : x = 1 := by simpa using h1
    obtain ⟨k, rfl⟩ : ∃ k, m = k + 1 := ⟨m - 1, by simp at hm h33; omega⟩
    simp
theorem refParse_bytes {t : T} (hv : valid t = true) (hk : t.key.length = 16) : refParse (bytes t) = some t := by
  obtain ⟨v1, v2, v3, v4⟩ := (valid_iff t).1 hv
  obtain ⟨n, s, e, k⟩ := t
  dsimp only at v1 v2 v3 v4 hk
  obtain ⟨s, rfl⟩ := Int.eq_ofNat_of_zero_le v2
  obtain ⟨e, rfl⟩ := Int.eq_ofNat_of_zero_le (by omega : 0 ≤ e)
  have l8 := Wir.enc_length 8 s
  have l8e := Wir.enc_length 8 e
  obtain ⟨D, hD⟩ : ∃ D, D = Wir.enc 8 s ++ (Wir.enc 8 e ++ k) := ⟨_, rfl⟩
  have hDl : D.length = 32 := by rw [hD]; simp [l8, l8e, hk]
  have hb : bytes ⟨n, s, e, k⟩ = (1 :: Nam.bytes n) ++ D := by rw [hD]; simp [bytes]
  have e2 := Nam.refRead_bytes n [] v1
  rw [List.append_nil] at e2
  have hlen : (bytes ⟨n, s, e, k⟩).length - 32 = (1 :: Nam.bytes n).length := by rw [hb, List.length_append, hDl]; omega
  have ht : ((bytes ⟨n, s, e, k⟩).take (1 :: Nam.bytes n).length).drop 1 = Nam.bytes n := by rw [hb, List.take_left]; rfl
  have hd : ∀ j, (bytes ⟨n, s, e, k⟩).drop ((1 :: Nam.bytes n).length + j) = D.drop j := fun j => by rw [hb, ← List.drop_drop, List.drop_left]
  have hd0 := hd 0
  rw [Nat.add_zero, List.drop_zero] at hd0
  have e3 := num_enc s (Wir.enc 8 e ++ k) (by omega)
  have e4 := num_enc e k (by omega)
  rw [← hD] at e3
  have dd8 : D.drop 8 = Wir.enc 8 e ++ k := by rw [hD, List.drop_left' l8]
  have dd16 : D.drop 16 = k := by
    rw [show (16 : Nat) = 8 + 8 from rfl, ← List.drop_drop, dd8, List.drop_left' l8e]
  unfold refParse
  rw [hlen, ht, hd0, hd 8, hd 16, e2, dd8, dd16, e3, e4]
  rw [if_neg (by rw [hb]; simp [hDl])]
  dsimp only
  rw [if_neg (by simp), if_neg (by omega), List.take_of_length_le (by omega)]
theorem parse_ref {b : List Nat} (hb : ∀ x, x ∈ b → x < 256) : parse b = refParse b := by
  cases h : parse b with
  | some t =>
    obtain ⟨a, c, rfl⟩ := parse_some hb h
    exact (refParse_bytes a c).symm
  | none =>
    cases h2 : refParse b with
    | none => rfl
    | some t =>
      obtain ⟨a, c, rfl⟩ := refParse_some hb h2
      rw [parse_bytes a c] at h; cases h
end Tic
end Go.Proofs.YtnhchdkchohnbaaGreatDoor
/- Layer 13 in plain Lean: authenticators, their bytes, the two parsers. No function of the program. -/
namespace Go.Proofs.YtnhchdkchohnbaaGreatDoor
namespace Wir
open _root_.Wir
theorem num_encK (k x : Nat) (t : List Nat) (hk : 1 ≤ k ∧ k ≤ 8) (h : x < 256 ^ k) : num ⟨enc k x ++ t, false⟩ k = (⟨t, false⟩, x) := by
  have e : putNumber k x = some (enc k x) := by
    unfold putNumber
    rw [if_neg (by omega), if_pos (by simpa using h)]; rfl
  unfold num
  rw [number_put e t]; rfl
theorem numK_take (k : Nat) (hk : 1 ≤ k ∧ k ≤ 8) (l : List Nat) (h : k ≤ l.length) : num ⟨l, false⟩ k = (⟨l.drop k, false⟩, be (l.take k)) := by
  unfold num number next
  rw [if_neg (by omega)]
  dsimp only
  rw [if_neg (by simp; omega)]
  rfl
theorem num_lt {r : R} {k : Nat} (hk : 1 ≤ k ∧ k ≤ 8) (hr : ∀ x, x ∈ r.l → x < 256) : (num r k).2 < 256 ^ k := by
  unfold num number next
  rw [if_neg (by omega)]
  dsimp only
  split
  · exact Nat.pow_pos (by omega)
  · rename_i hc
    rw [Int.toNat_natCast] at hc ⊢
    exact be_lt r.l hr k (by have := (not_or.1 hc).2; omega)
end Wir
namespace Aut
structure A where
  client : Nam.N
  time : Int
  micro : Nat
  seq : Nat
def valid (a : A) : Bool := Nam.valid a.client && decide (0 ≤ a.time) && decide (a.time ≤ 1099511627776) && decide (a.micro ≤ 999999)
def bytes (a : A) : List Nat := 2 :: (Nam.bytes a.client ++ (Wir.enc 8 a.time.toNat ++ (Wir.enc 4 a.micro ++ Wir.enc 4 a.seq)))
def parse (b : List Nat) : Option A :=
  if (Wir.num ⟨b, false⟩ 1).2 ≠ 2 then none else
  match (Nam.refRead (Wir.num ⟨b, false⟩ 1).1).2 with
  | none => none
  | some n =>
    let x := Wir.num (Nam.refRead (Wir.num ⟨b, false⟩ 1).1).1 8
    let y := Wir.num x.1 4
    let z := Wir.num y.1 4
    if (z.1.bad = true ∨ z.1.l.length ≠ 0) ∨ 1099511627776 < x.2 ∨ 999999 < y.2 then none else some ⟨n, x.2, y.2, z.2⟩
theorem valid_iff (a : A) : valid a = true ↔ Nam.valid a.client = true ∧ 0 ≤ a.time ∧ a.time ≤ 1099511627776 ∧ a.micro ≤ 999999 := by
  unfold valid; simp [and_assoc]
theorem parse_bytes {a : A} (hv : valid a = true) (hs : a.seq < 4294967296) : parse (bytes a) = some a := by
  obtain ⟨v1, v2, v3, v4⟩ := (valid_iff a).1 hv
  obtain ⟨n, t, m, s⟩ := a
  dsimp only at v1 v2 v3 v4 hs
  obtain ⟨t, rfl⟩ := Int.eq_ofNat_of_zero_le v2
  have e1 := Nam.num_one 2 (Nam.bytes n ++ (Wir.enc 8 t ++ (Wir.enc 4 m ++ Wir.enc 4 s))) (by omega)
  have e2 := Nam.refRead_bytes n (Wir.enc 8 t ++ (Wir.enc 4 m ++ Wir.enc 4 s)) v1
  have e3 := Wir.num_encK 8 t (Wir.enc 4 m ++ Wir.enc 4 s) (by omega) (by omega)
  have e4 := Wir.num_encK 4 m (Wir.enc 4 s) (by omega) (by omega)
  have e5 := Wir.num_encK 4 s [] (by omega) (by omega)
  rw [List.append_nil] at e5
  have e6 : ((8 : Nat) : Int) = 8 := rfl
  have e7 : ((4 : Nat) : Int) = 4 := rfl
  rw [e6] at e3
  rw [e7] at e4 e5
  unfold parse bytes
  dsimp only
  rw [Int.toNat_natCast, e1]
  dsimp only
  rw [if_neg (by omega), e2]
  dsimp only
  rw [e3]
  dsimp only
  rw [e4]
  dsimp only
  rw [e5]
  dsimp only
  rw [if_neg (by simp; omega)]
theorem parse_some {b : List Nat} {a : A} (hb : ∀ x, x ∈ b → x < 256) (h : parse b = some a) : valid a = true ∧ a.seq < 4294967296 ∧ bytes a = b := by
  unfold parse at h
  split at h
  · cases h
  rename_i h1
  have h1 : (Wir.num ⟨b, false⟩ 1).2 = 2 := by omega
  split at h
  · cases h
  rename_i n hn
  dsimp only at h
  split at h
  · cases h
  rename_i hc
  obtain ⟨c1, c2⟩ := not_or.1 hc
  obtain ⟨c1, c3⟩ := not_or.1 c1
  obtain ⟨c4, c5⟩ := not_or.1 c2
  have e1 : ((1 : Nat) : Int) = 1 := rfl
  have e8 : ((8 : Nat) : Int) = 8 := rfl
  have e4 : ((4 : Nat) : Int) = 4 := rfl
  have t1 : (Wir.num (Wir.num (Wir.num (Nam.refRead (Wir.num ⟨b, false⟩ 1).1).1 8).1 4).1 4).1.bad = false := by simpa using c1
  have c3 : (Wir.num (Wir.num (Wir.num (Nam.refRead (Wir.num ⟨b, false⟩ 1).1).1 8).1 4).1 4).1.l = [] := by simpa using c3
  have t2 := Nam.num_bad t1
  have s1 := Nam.num_bad t2
  have hr0 : (Wir.num ⟨b, false⟩ 1).1.bad = false := by
    cases hh : (Wir.num ⟨b, false⟩ 1).1.bad with
    | false => rfl
    | true =>
      exfalso
      unfold Wir.num Wir.number Wir.next at h1 hh
      rw [if_neg (by omega)] at h1 hh
      dsimp only at h1 hh
      split at h1
      · simp at h1
      · rename_i hd; rw [if_neg hd] at hh; simp at hh
  obtain ⟨_, b0⟩ := Wir.num_back (k := 1) (by omega) hb hr0
  rw [e1, h1] at b0
  dsimp only at b0
  have hb1 : ∀ x, x ∈ (Wir.num ⟨b, false⟩ 1).1.l → x < 256 := fun x hx => hb x (by rw [b0]; simp [hx])
  obtain ⟨_, nv, _, b1⟩ := Nam.refRead_back hb1 hn
  have hb2 : ∀ x, x ∈ (Nam.refRead (Wir.num ⟨b, false⟩ 1).1).1.l → x < 256 := fun x hx => hb1 x (by rw [b1]; simp [hx])
  obtain ⟨_, b2⟩ := Wir.num_back (k := 8) (by omega) hb2 s1
  rw [e8] at b2
  have hb3 : ∀ x, x ∈ (Wir.num (Nam.refRead (Wir.num ⟨b, false⟩ 1).1).1 8).1.l → x < 256 := fun x hx => hb2 x (by rw [b2]; simp [hx])
  obtain ⟨_, b3⟩ := Wir.num_back (k := 4) (by omega) hb3 t2
  rw [e4] at b3
  have hb4 : ∀ x, x ∈ (Wir.num (Wir.num (Nam.refRead (Wir.num ⟨b, false⟩ 1).1).1 8).1 4).1.l → x < 256 := fun x hx => hb3 x (by rw [b3]; simp [hx])
  obtain ⟨_, b4⟩ := Wir.num_back (k := 4) (by omega) hb4 t1
  rw [e4, c3, List.append_nil] at b4
  have lt := Wir.num_lt (k := 4) (by omega) hb4
  rw [e4] at lt
  obtain rfl := Option.some.inj h
  refine ⟨(valid_iff _).2 ⟨nv, Int.natCast_nonneg _, by dsimp only; omega, by dsimp only; omega⟩, by dsimp only; omega, ?_⟩
  unfold bytes
  dsimp only
  rw [Int.toNat_natCast, ← b4, ← b3, ← b2, ← b1]
  refine Eq.trans ?_ b0.symm
  simp [Wir.enc]
def refParse (b : List Nat) : Option A :=
  if b.length < 17 ∨ b.getD 0 0 ≠ 2 then none else
  match (Nam.refRead ⟨(b.take (b.length - 16)).drop 1, false⟩).2 with
  | none => none
  | some n =>
    if 0 < (Nam.refRead ⟨(b.take (b.length - 16)).drop 1, false⟩).1.l.length then none else
    let x := (Wir.num ⟨b.drop (b.length - 16), false⟩ 8).2
    let y := (Wir.num ⟨b.drop (b.length - 16 + 8), false⟩ 4).2
    let z := (Wir.num ⟨b.drop (b.length - 16 + 12), false⟩ 4).2
    if 1099511627776 < x ∨ 999999 < y then none else some ⟨n, x, y, z⟩
theorem refParse_some {b : List Nat} {a : A} (hb : ∀ x, x ∈ b → x < 256) (h : refParse b = some a) : valid a = true ∧ a.seq < 4294967296 ∧ bytes a = b := by
  unfold refParse at h
  split at h
  · cases h
  rename_i h0
  obtain ⟨h17, h1⟩ := not_or.1 h0
  have h1 : b.getD 0 0 = 2 := by omega
  split at h
  · cases h
  rename_i n hn
  split at h
  · cases h
  rename_i hz
  dsimp only at h
  split at h
  · cases h
  rename_i hc
  obtain ⟨c1, c2⟩ := not_or.1 hc
  obtain ⟨m, hm⟩ : ∃ m, m = b.length - 16 := ⟨_, rfl⟩
  rw [← hm] at h hn hz c1 c2
  have hD : (b.drop m).length = 16 := by rw [List.length_drop]; omega
  have d8 : b.drop (m + 8) = (b.drop m).drop 8 := by rw [List.drop_drop]
  have d12 : b.drop (m + 12) = ((b.drop m).drop 8).drop 4 := by rw [List.drop_drop, List.drop_drop]
  rw [d8] at h c2
  rw [d12] at h
  have l8 : ((b.drop m).drop 8).length = 8 := by rw [List.length_drop]; omega
  have l12 : (((b.drop m).drop 8).drop 4).length = 4 := by rw [List.length_drop]; omega
  have n1 := Wir.numK_take 8 (by omega) (b.drop m) (by omega)
  have n2 := Wir.numK_take 4 (by omega) ((b.drop m).drop 8) (by omega)
  have n3 := Wir.numK_take 4 (by omega) (((b.drop m).drop 8).drop 4) (by omega)
  have e8 : ((8 : Nat) : Int) = 8 := rfl
  have e4 : ((4 : Nat) : Int) = 4 := rfl
  rw [e8] at n1
  rw [e4] at n2 n3
  rw [n1, n2, n3] at h
  rw [n1] at c1
  rw [n2] at c2
  dsimp only at h c1 c2
  have hmid : ∀ x, x ∈ (b.take m).drop 1 → x < 256 := fun x hx => hb x (List.mem_of_mem_take (List.mem_of_mem_drop hx))
  obtain ⟨_, nv, _, b1⟩ := Nam.refRead_back (r := ⟨(b.take m).drop 1, false⟩) hmid hn
  have hz : (Nam.refRead ⟨(b.take m).drop 1, false⟩).1.l = [] := List.eq_nil_of_length_eq_zero (by omega)
  rw [hz, List.append_nil] at b1
  dsimp only at b1
  have hDall : ∀ x, x ∈ b.drop m → x < 256 := fun x hx => hb x (List.mem_of_mem_drop hx)
  have h8all : ∀ x, x ∈ (b.drop m).drop 8 → x < 256 := fun x hx => hDall x (List.mem_of_mem_drop hx)
  have h12all : ∀ x, x ∈ ((b.drop m).drop 8).drop 4 → x < 256 := fun x hx => h8all x (List.mem_of_mem_drop hx)
  have q1 := Wir.enc_be 8 ((b.drop m).take 8) (by rw [List.length_take]; omega) (fun x hx => hDall x (List.mem_of_mem_take hx))
  have q2 := Wir.enc_be 4 (((b.drop m).drop 8).take 4) (by rw [List.length_take]; omega) (fun x hx => h8all x (List.mem_of_mem_take hx))
  have t4 : (((b.drop m).drop 8).drop 4).take 4 = ((b.drop m).drop 8).drop 4 := List.take_of_length_le (by omega)
  have q3 := Wir.enc_be 4 (((b.drop m).drop 8).drop 4) l12 h12all
  have qlt := Wir.be_lt (((b.drop m).drop 8).drop 4) h12all 4 (by omega)
  rw [t4] at h qlt
  obtain rfl := Option.some.inj h
  refine ⟨(valid_iff _).2 ⟨nv, Int.natCast_nonneg _, by dsimp only; omega, by dsimp only; omega⟩, by dsimp only; omega, ?_⟩
  unfold bytes
  dsimp only
  rw [Int.toNat_natCast, q1, q2, q3, ← b1]
  rw [List.take_append_drop, List.take_append_drop]
  cases b with
  | nil => simp at h17
  | cons x y =>
    obtain rfl : x = 2 := by simpa using h1
    obtain ⟨k, rfl⟩ : ∃ k, m = k + 1 := ⟨m - 1, by simp at hm h17; omega⟩
    simp
theorem refParse_bytes {a : A} (hv : valid a = true) (hs : a.seq < 4294967296) : refParse (bytes a) = some a := by
  obtain ⟨v1, v2, v3, v4⟩ := (valid_iff a).1 hv
  obtain ⟨n, t, m, s⟩ := a
  dsimp only at v1 v2 v3 v4 hs
  obtain ⟨t, rfl⟩ := Int.eq_ofNat_of_zero_le v2
  have l8 := Wir.enc_length 8 t
  have l4 := Wir.enc_length 4 m
  have l4s := Wir.enc_length 4 s
  obtain ⟨D, hD⟩ : ∃ D, D = Wir.enc 8 t ++ (Wir.enc 4 m ++ Wir.enc 4 s) := ⟨_, rfl⟩
  have hDl : D.length = 16 := by rw [hD]; simp [l8, l4, l4s]
  have hb : bytes ⟨n, t, m, s⟩ = (2 :: Nam.bytes n) ++ D := by rw [hD]; simp [bytes]
  have e2 := Nam.refRead_bytes n [] v1
  rw [List.append_nil] at e2
  have hlen : (bytes ⟨n, t, m, s⟩).length - 16 = (2 :: Nam.bytes n).length := by rw [hb, List.length_append, hDl]; omega
  have ht : ((bytes ⟨n, t, m, s⟩).take (2 :: Nam.bytes n).length).drop 1 = Nam.bytes n := by rw [hb, List.take_left]; rfl
  have hd : ∀ j, (bytes ⟨n, t, m, s⟩).drop ((2 :: Nam.bytes n).length + j) = D.drop j := fun j => by rw [hb, ← List.drop_drop, List.drop_left]
  have hd0 := hd 0
  rw [Nat.add_zero, List.drop_zero] at hd0
  have e3 := Wir.num_encK 8 t (Wir.enc 4 m ++ Wir.enc 4 s) (by omega) (by omega)
  have e4 := Wir.num_encK 4 m (Wir.enc 4 s) (by omega) (by omega)
  have e5 := Wir.num_encK 4 s [] (by omega) (by omega)
  rw [List.append_nil] at e5
  have f8 : ((8 : Nat) : Int) = 8 := rfl
  have f4 : ((4 : Nat) : Int) = 4 := rfl
  rw [f8, ← hD] at e3
  rw [f4] at e4 e5
  have dd8 : D.drop 8 = Wir.enc 4 m ++ Wir.enc 4 s := by rw [hD, List.drop_left' l8]
  have dd12 : D.drop 12 = Wir.enc 4 s := by
    rw [show (12 : Nat) = 8 + 4 from rfl, ← List.drop_drop, dd8, List.drop_left' l4]
  unfold refParse
  rw [hlen, ht, hd0, hd 8, hd 12, e2, dd8, dd12, e3, e4, e5]
  rw [if_neg (by rw [hb]; simp [hDl])]
  dsimp only
  rw [if_neg (by simp), if_neg (by omega)]
theorem parse_ref {b : List Nat} (hb : ∀ x, x ∈ b → x < 256) : parse b = refParse b := by
  cases h : parse b with
  | some t =>
    obtain ⟨a, c, rfl⟩ := parse_some hb h
    exact (refParse_bytes a c).symm
  | none =>
    cases h2 : refParse b with
    | none => rfl
    | some t =>
      obtain ⟨a, c, rfl⟩ := refParse_some hb h2
      rw [parse_bytes a c] at h; cases h
theorem bytes_len {a : A} (hv : valid a = true) : (bytes a).length ≤ 927 := by
  have := Nam.bytes_len ((valid_iff a).1 hv).1
  have l8 := Wir.enc_length 8 a.time.toNat
  have l4 := Wir.enc_length 4 a.micro
  have l4s := Wir.enc_length 4 a.seq
  unfold bytes
  simp only [List.length_cons, List.length_append]
  omega
end Aut
namespace Tic
theorem bytes_len {t : T} (hv : valid t = true) (hk : t.key.length = 16) : (bytes t).length ≤ 943 := by
  have := Nam.bytes_len ((valid_iff t).1 hv).1
  have l8 := Wir.enc_length 8 t.start.toNat
  have l4 := Wir.enc_length 8 t.stop.toNat
  unfold bytes
  simp only [List.length_cons, List.length_append]
  omega
end Tic
end Go.Proofs.YtnhchdkchohnbaaGreatDoor
/- Layer 14 in plain Lean: requests, their bytes, the two parsers. No function of the program. -/
namespace Go.Proofs.YtnhchdkchohnbaaGreatDoor
namespace Wir
open _root_.Wir
theorem stringK (r : R) (k : Nat) (hk : 1 ≤ k ∧ k ≤ 8) : string r k = if (num r k).1.bad = true then (failed, []) else ((next (num r k).1 (num r k).2).1, (next (num r k).1 (num r k).2).2.getD []) := by
  cases hn : number r k with
  | mk r1 o =>
    have hn2 := hn
    unfold number next at hn2
    rw [if_neg (by omega)] at hn2
    unfold string num
    rw [hn]
    by_cases hc : r.bad = true ∨ r.l.length < (k : Int).toNat
    · rw [if_pos hc] at hn2
      simp only [Option.map_none, Prod.mk.injEq] at hn2
      obtain ⟨rfl, rfl⟩ := hn2
      simp [failed]
    · rw [if_neg hc] at hn2
      simp only [Option.map_some, Prod.mk.injEq] at hn2
      obtain ⟨rfl, rfl⟩ := hn2
      simp
theorem stringK_back {r : R} {k : Nat} (hk : 1 ≤ k ∧ k ≤ 8) (hr : ∀ x, x ∈ r.l → x < 256) (h : (string r k).1.bad = false) : r.bad = false ∧ (string r k).2.length < 256 ^ k ∧ r.l = enc k (string r k).2.length ++ ((string r k).2 ++ (string r k).1.l) := by
  rw [stringK r k hk] at h ⊢
  by_cases hb : (num r k).1.bad = true
  · rw [if_pos hb] at h; simp [failed] at h
  · rw [if_neg hb] at h ⊢
    obtain ⟨h0, h1⟩ := num_back hk hr (by simpa using hb)
    obtain ⟨_, l, e, h2, h3⟩ := next_back h
    have hlt := num_lt hk hr
    dsimp only
    rw [e]
    refine ⟨h0, by show l.length < _; rw [h3]; exact hlt, ?_⟩
    show r.l = enc k l.length ++ (l ++ _)
    rw [h1, h2, h3]
theorem stringK_app (k : Nat) (hk : 1 ≤ k ∧ k ≤ 8) (l t : List Nat) (h : l.length < 256 ^ k) : string ⟨enc k l.length ++ (l ++ t), false⟩ k = (⟨t, false⟩, l) := by
  have e : putString k l = some (enc k l.length ++ l) := by
    unfold putString putNumber
    rw [if_neg (by omega), if_pos (by simpa using h)]; rfl
  have := _root_.Wir.string_put e t
  rw [List.append_assoc] at this
  exact this
theorem string_bad {r : R} {k : Nat} (hk : 1 ≤ k ∧ k ≤ 8) (h : (string r k).1.bad = false) : r.bad = false := by
  rw [stringK r k hk] at h
  by_cases hb : (num r k).1.bad = true
  · rw [if_pos hb] at h; simp [failed] at h
  · exact Nam.num_bad (by simpa using hb)
theorem num_one_back {r : R} {c : Nat} (hc : c ≠ 0) (hr : ∀ x, x ∈ r.l → x < 256) (h : (num r 1).2 = c) : r.bad = false ∧ (num r 1).1.bad = false ∧ r.l = c :: (num r 1).1.l := by
  have hb : (num r 1).1.bad = false := by
    cases hh : (num r 1).1.bad with
    | false => rfl
    | true =>
      exfalso
      unfold num number next at h hh
      rw [if_neg (by omega)] at h hh
      dsimp only at h hh
      split at h
      · simp at h; omega
      · rename_i hd; rw [if_neg hd] at hh; simp at hh
  obtain ⟨h0, h1⟩ := num_back (k := 1) (by omega) hr hb
  have lt := num_lt (k := 1) (r := r) (by omega) hr
  have e1 : ((1 : Nat) : Int) = 1 := rfl
  rw [e1] at h1 lt
  rw [h] at h1 lt
  refine ⟨h0, hb, ?_⟩
  have : enc 1 c = [c] := by simp [enc]; omega
  rw [this] at h1
  exact h1
theorem enc2 (n : Nat) (h : n < 65536) : enc 2 n = [n / 256, n % 256] := by
  simp [enc]; omega
end Wir
namespace Req
def bytes (x y : List Nat) : Option (List Nat) :=
  if 65536 < 7 + x.length + y.length then none else some (65 :: 80 :: 1 :: (Wir.enc 2 x.length ++ (x ++ (Wir.enc 2 y.length ++ y))))
def parse (b : List Nat) : Option (List Nat × List Nat) :=
  if 65536 < b.length then none else
  if (Wir.num ⟨b, false⟩ 1).2 ≠ 65 then none else
  if (Wir.num (Wir.num ⟨b, false⟩ 1).1 1).2 ≠ 80 then none else
  if (Wir.num (Wir.num (Wir.num ⟨b, false⟩ 1).1 1).1 1).2 ≠ 1 then none else
  let x := Wir.string (Wir.num (Wir.num (Wir.num ⟨b, false⟩ 1).1 1).1 1).1 2
  let y := Wir.string x.1 2
  if y.1.bad = true ∨ y.1.l.length ≠ 0 then none else some (x.2, y.2)
theorem bytes_some {x y b : List Nat} (h : bytes x y = some b) : 7 + x.length + y.length ≤ 65536 ∧ b = 65 :: 80 :: 1 :: (Wir.enc 2 x.length ++ (x ++ (Wir.enc 2 y.length ++ y))) ∧ b.length = 7 + x.length + y.length := by
  unfold bytes at h
  split at h
  · cases h
  · obtain rfl := Option.some.inj h
    have l1 := Wir.enc_length 2 x.length
    have l2 := Wir.enc_length 2 y.length
    refine ⟨by omega, rfl, ?_⟩
    simp only [List.length_cons, List.length_append]
    omega
theorem parse_bytes {x y b : List Nat} (h : bytes x y = some b) : parse b = some (x, y) := by
  obtain ⟨h1, hb, hl⟩ := bytes_some h
  have e1 := Nam.num_one 65 (80 :: 1 :: (Wir.enc 2 x.length ++ (x ++ (Wir.enc 2 y.length ++ y)))) (by omega)
  have e2 := Nam.num_one 80 (1 :: (Wir.enc 2 x.length ++ (x ++ (Wir.enc 2 y.length ++ y)))) (by omega)
  have e3 := Nam.num_one 1 (Wir.enc 2 x.length ++ (x ++ (Wir.enc 2 y.length ++ y))) (by omega)
  have e4 := Wir.stringK_app 2 (by omega) x (Wir.enc 2 y.length ++ y) (by omega)
  have e5 := Wir.stringK_app 2 (by omega) y [] (by omega)
  rw [List.append_nil] at e5
  have f2 : ((2 : Nat) : Int) = 2 := rfl
  rw [f2] at e4 e5
  unfold parse
  rw [if_neg (by omega), hb, e1]
  dsimp only
  rw [if_neg (by omega), e2]
  dsimp only
  rw [if_neg (by omega), e3]
  dsimp only
  rw [if_neg (by omega), e4]
  dsimp only
  rw [e5]
  dsimp only
  rw [if_neg (by simp)]
theorem parse_some {b x y : List Nat} (hb : ∀ x, x ∈ b → x < 256) (h : parse b = some (x, y)) : bytes x y = some b := by
  unfold parse at h
  split at h
  · cases h
  rename_i h0
  split at h
  · cases h
  rename_i h1
  split at h
  · cases h
  rename_i h2
  split at h
  · cases h
  rename_i h3
  dsimp only at h
  split at h
  · cases h
  rename_i hc
  obtain ⟨c1, c2⟩ := not_or.1 hc
  have h1 : (Wir.num ⟨b, false⟩ 1).2 = 65 := by omega
  have h2 : (Wir.num (Wir.num ⟨b, false⟩ 1).1 1).2 = 80 := by omega
  have h3 : (Wir.num (Wir.num (Wir.num ⟨b, false⟩ 1).1 1).1 1).2 = 1 := by omega
  have f2 : ((2 : Nat) : Int) = 2 := rfl
  obtain ⟨_, _, b1⟩ := Wir.num_one_back (r := ⟨b, false⟩) (by omega) hb h1
  dsimp only at b1
  have hb1 : ∀ x, x ∈ (Wir.num ⟨b, false⟩ 1).1.l → x < 256 := fun x hx => hb x (by rw [b1]; simp [hx])
  obtain ⟨_, _, b2⟩ := Wir.num_one_back (by omega) hb1 h2
  have hb2 : ∀ x, x ∈ (Wir.num (Wir.num ⟨b, false⟩ 1).1 1).1.l → x < 256 := fun x hx => hb1 x (by rw [b2]; simp [hx])
  obtain ⟨_, _, b3⟩ := Wir.num_one_back (by omega) hb2 h3
  have hb3 : ∀ x, x ∈ (Wir.num (Wir.num (Wir.num ⟨b, false⟩ 1).1 1).1 1).1.l → x < 256 := fun x hx => hb2 x (by rw [b3]; simp [hx])
  have t1 : (Wir.string (Wir.string (Wir.num (Wir.num (Wir.num ⟨b, false⟩ 1).1 1).1 1).1 2).1 2).1.bad = false := by simpa using c1
  have t0 := Wir.string_bad (k := 2) (by omega) t1
  obtain ⟨_, g1, s1⟩ := Wir.stringK_back (k := 2) (by omega) hb3 t0
  rw [f2] at g1 s1
  have hb4 : ∀ x, x ∈ (Wir.string (Wir.num (Wir.num (Wir.num ⟨b, false⟩ 1).1 1).1 1).1 2).1.l → x < 256 := fun x hx => hb3 x (by rw [s1]; simp [hx])
  obtain ⟨_, g2, s2⟩ := Wir.stringK_back (k := 2) (by omega) hb4 t1
  rw [f2] at g2 s2
  have c2 : (Wir.string (Wir.string (Wir.num (Wir.num (Wir.num ⟨b, false⟩ 1).1 1).1 1).1 2).1 2).1.l = [] := by simpa using c2
  rw [c2, List.append_nil] at s2
  simp only [Option.some.injEq, Prod.mk.injEq] at h
  obtain ⟨rfl, rfl⟩ := h
  generalize Wir.string (Wir.num (Wir.num (Wir.num ⟨b, false⟩ 1).1 1).1 1).1 2 = X at *
  generalize Wir.string X.1 2 = Y at *
  have hbb : b = 65 :: 80 :: 1 :: (Wir.enc 2 X.2.length ++ (X.2 ++ (Wir.enc 2 Y.2.length ++ Y.2))) := by
    rw [← s2, ← s1, ← b3, ← b2]; exact b1
  have l1 := Wir.enc_length 2 X.2.length
  have l2 := Wir.enc_length 2 Y.2.length
  have hlen : b.length = 7 + X.2.length + Y.2.length := by
    rw [hbb]; simp only [List.length_cons, List.length_append]; omega
  unfold bytes
  rw [if_neg (by omega), ← hbb]
def refParse (b : List Nat) : Option (List Nat × List Nat) :=
  if b.length < 7 ∨ 65536 < b.length ∨ b.getD 0 0 ≠ 65 ∨ b.getD 1 0 ≠ 80 ∨ b.getD 2 0 ≠ 1 then none else
  if b.length < 5 + (256 * b.getD 3 0 + b.getD 4 0) + 2 then none else
  if 7 + (256 * b.getD 3 0 + b.getD 4 0) + (256 * b.getD (5 + (256 * b.getD 3 0 + b.getD 4 0)) 0 + b.getD (6 + (256 * b.getD 3 0 + b.getD 4 0)) 0) ≠ b.length then none
  else some ((b.take (5 + (256 * b.getD 3 0 + b.getD 4 0))).drop 5, b.drop (7 + (256 * b.getD 3 0 + b.getD 4 0)))
theorem getD_mem {l : List Nat} (h : ∀ x, x ∈ l → x < 256) (i : Nat) : l.getD i 0 < 256 := by
  by_cases hi : i < l.length
  · have e : l.getD i 0 = l[i] := by simp [List.getD, hi]
    rw [e]; exact h _ (List.getElem_mem hi)
  · have e : l.getD i 0 = 0 := by simp [List.getD, List.getElem?_eq_none (Nat.le_of_not_lt hi)]
    rw [e]; decide
theorem drop_two {l : List Nat} {i : Nat} (h : i + 2 ≤ l.length) : l.drop i = l.getD i 0 :: l.getD (i + 1) 0 :: l.drop (i + 2) := by
  rw [List.drop_eq_getElem_cons (by omega), List.drop_eq_getElem_cons (i := i + 1) (by omega)]
  simp [List.getD, show i < l.length by omega, show i + 1 < l.length by omega]
theorem refParse_some {b x y : List Nat} (hb : ∀ x, x ∈ b → x < 256) (h : refParse b = some (x, y)) : bytes x y = some b := by
  unfold refParse at h
  split at h
  · cases h
  rename_i h0
  have h3 := getD_mem hb 3
  have h4 := getD_mem hb 4
  obtain ⟨n, hn⟩ : ∃ n, n = 256 * b.getD 3 0 + b.getD 4 0 := ⟨_, rfl⟩
  rw [← hn] at h
  have h5 := getD_mem hb (5 + n)
  have h6 := getD_mem hb (6 + n)
  obtain ⟨m, hm⟩ : ∃ m, m = 256 * b.getD (5 + n) 0 + b.getD (6 + n) 0 := ⟨_, rfl⟩
  rw [← hm] at h
  split at h
  · cases h
  rename_i h7
  split at h
  · cases h
  rename_i h8
  simp only [Option.some.injEq, Prod.mk.injEq] at h
  obtain ⟨rfl, rfl⟩ := h
  have lx : ((b.take (5 + n)).drop 5).length = n := by rw [List.length_drop, List.length_take]; omega
  have ly : (b.drop (7 + n)).length = m := by rw [List.length_drop]; omega
  unfold bytes
  rw [lx, ly, if_neg (by omega), Wir.enc2 n (by omega), Wir.enc2 m (by omega)]
  congr 1
  have q0 : b.getD 0 0 = 65 := by omega
  have q1 : b.getD 1 0 = 80 := by omega
  have q2 : b.getD 2 0 = 1 := by omega
  have d0 : b = b.drop 0 := rfl
  conv => rhs; rw [d0, drop_two (i := 0) (by omega), List.drop_eq_getElem_cons (i := 0 + 2) (by omega), drop_two (i := 0 + 2 + 1) (by omega)]
  have e2 : b[0 + 2] = 1 := by
    have : b.getD 2 0 = b[2] := by simp [List.getD, show 2 < b.length by omega]
    rw [← q2, this]
  rw [e2, q0, q1]
  have e3 : n / 256 = b.getD 3 0 := by omega
  have e4 : n % 256 = b.getD 4 0 := by omega
  have e5 : m / 256 = b.getD (5 + n) 0 := by omega
  have e6 : m % 256 = b.getD (6 + n) 0 := by omega
  rw [e3, e4, e5, e6]
  show 65 :: 80 :: 1 :: b.getD 3 0 :: b.getD 4 0 :: _ = 65 :: 80 :: 1 :: b.getD 3 0 :: b.getD 4 0 :: b.drop 5
  congr 5
  have hs : b.drop 5 = (b.take (5 + n)).drop 5 ++ b.drop (5 + n) := by
    conv => lhs; rw [← List.take_append_drop (5 + n) b]
    rw [List.drop_append_of_le_length (by rw [List.length_take]; omega)]
  show List.drop 5 (List.take (5 + n) b) ++ ([b.getD (5 + n) 0, b.getD (6 + n) 0] ++ List.drop (7 + n) b) = List.drop 5 b
  rw [hs, drop_two (i := 5 + n) (by omega), show 5 + n + 1 = 6 + n by omega, show 5 + n + 2 = 7 + n by omega]
  rfl
theorem refParse_bytes {x y b : List Nat} (h : bytes x y = some b) : refParse b = some (x, y) := by
  obtain ⟨h1, hb, hl⟩ := bytes_some h
  rw [Wir.enc2 x.length (by omega), Wir.enc2 y.length (by omega)] at hb
  have hb : b = 65 :: 80 :: 1 :: x.length / 256 :: x.length % 256 :: (x ++ (y.length / 256 :: y.length % 256 :: y)) := hb
  have g0 : b.getD 0 0 = 65 := by rw [hb]; rfl
  have g1 : b.getD 1 0 = 80 := by rw [hb]; rfl
  have g2 : b.getD 2 0 = 1 := by rw [hb]; rfl
  have g3 : b.getD 3 0 = x.length / 256 := by rw [hb]; rfl
  have g4 : b.getD 4 0 = x.length % 256 := by rw [hb]; rfl
  have d5 : b.drop 5 = x ++ (y.length / 256 :: y.length % 256 :: y) := by rw [hb]; rfl
  have dn : ∀ j, b.drop (5 + x.length + j) = (y.length / 256 :: y.length % 256 :: y).drop j := fun j => by
    rw [Nat.add_assoc, ← List.drop_drop, d5, ← List.drop_drop, List.drop_left]
  have hgd : ∀ j, b.getD (5 + x.length + j) 0 = (y.length / 256 :: y.length % 256 :: y).getD j 0 := fun j => by
    have : b.getD (5 + x.length + j) 0 = (b.drop (5 + x.length + j)).getD 0 0 := by simp [List.getD]
    rw [this, dn]; simp [List.getD]
  have hn : 256 * (x.length / 256) + x.length % 256 = x.length := by omega
  have hm : 256 * (y.length / 256) + y.length % 256 = y.length := by omega
  have g5 : b.getD (5 + x.length) 0 = y.length / 256 := hgd 0
  have g6 : b.getD (6 + x.length) 0 = y.length % 256 := by
    have := hgd 1
    rw [show 5 + x.length + 1 = 6 + x.length by omega] at this
    exact this
  have d7 : b.drop (7 + x.length) = y := by
    have := dn 2
    rw [show 5 + x.length + 2 = 7 + x.length by omega] at this
    exact this
  unfold refParse
  rw [g0, g1, g2, g3, g4, hn, g5, g6, hm]
  rw [if_neg (by omega), if_neg (by omega), if_neg (by omega), d7]
  congr 2
  rw [List.drop_take, d5, show 5 + x.length - 5 = x.length by omega, List.take_left]
theorem parse_ref {b : List Nat} (hb : ∀ x, x ∈ b → x < 256) : parse b = refParse b := by
  cases h : parse b with
  | some t =>
    obtain ⟨x, y⟩ := t
    exact (refParse_bytes (parse_some hb h)).symm
  | none =>
    cases h2 : refParse b with
    | none => rfl
    | some t =>
      obtain ⟨x, y⟩ := t
      rw [parse_bytes (refParse_some hb h2)] at h; cases h
end Req
end Go.Proofs.YtnhchdkchohnbaaGreatDoor
