/- The stream of layer 8 in plain Lean. No function of the program. -/
import Derived.Test.YtibgmoapkionjaaAesMathB
namespace Go.Proofs.Ytibgmoapkionjaa
namespace Ctr
open Aes
def blk (nonce : Nat → Nat) (i : Nat) : Nat → Nat := fun k => if k < 8 then nonce k else i / 256 ^ (15 - k) % 256
theorem blk_b8 {nonce : Nat → Nat} (h : B8 nonce) (i : Nat) : B8 (blk nonce i) := fun k => by
  unfold blk; split
  · exact h k
  · exact Nat.mod_lt _ (by omega)
def bk (key nonce : Nat → Nat) (i : Nat) : Nat → Nat := enc key (blk nonce i)
theorem bk_b8 {key nonce : Nat → Nat} (hk : B8 key) (hn : B8 nonce) (i : Nat) : B8 (bk key nonce i) := enc_b8 hk (blk_b8 hn i)
def byte (key nonce : Nat → Nat) (p : Nat) : Nat := bk key nonce (p / 16) (p % 16)
theorem byte_lt {key nonce : Nat → Nat} (hk : B8 key) (hn : B8 nonce) (p : Nat) : byte key nonce p < 256 := bk_b8 hk hn _ _
def str (key nonce : Nat → Nat) (a n : Nat) : List Nat := (List.range n).map fun i => byte key nonce (a + i)
theorem str_length (key nonce : Nat → Nat) (a n : Nat) : (str key nonce a n).length = n := by simp [str]
theorem str_succ (key nonce : Nat → Nat) (a n : Nat) : str key nonce a (n + 1) = str key nonce a n ++ [byte key nonce (a + n)] := by
  simp [str, List.range_succ]
theorem str_add (key nonce : Nat → Nat) (a n : Nat) : ∀ m, str key nonce a (n + m) = str key nonce a n ++ str key nonce (a + n) m
  | 0 => by simp [str]
  | m + 1 => by rw [← Nat.add_assoc, str_succ, str_succ, str_add key nonce a n m, List.append_assoc, Nat.add_assoc]
theorem str_lt {key nonce : Nat → Nat} (hk : B8 key) (hn : B8 nonce) (a n : Nat) : ∀ x, x ∈ str key nonce a n → x < 256 := fun x hx => by
  unfold str at hx
  obtain ⟨i, _, rfl⟩ := List.mem_map.1 hx
  exact byte_lt hk hn _
/-- What Stream returns. -/
def strI (key nonce : Nat → Nat) (a n : Int) : List Nat := if a < 0 ∨ 1099511627776 < a ∨ n < 0 ∨ 1048576 < n then [] else str key nonce a.toNat n.toNat
/-- The first k bytes of l combined with the stream from a on. -/
def mask (key nonce : Nat → Nat) (a : Nat) (l : List Nat) (k : Nat) : List Nat := (List.range l.length).map fun i => if i < k then l.getD i 0 ^^^ byte key nonce (a + i) else l.getD i 0
def crypt (key nonce : Nat → Nat) (a : Nat) (l : List Nat) : List Nat := (List.range l.length).map fun i => l.getD i 0 ^^^ byte key nonce (a + i)
theorem mask_length (key nonce : Nat → Nat) (a : Nat) (l : List Nat) (k : Nat) : (mask key nonce a l k).length = l.length := by simp [mask]
theorem crypt_length (key nonce : Nat → Nat) (a : Nat) (l : List Nat) : (crypt key nonce a l).length = l.length := by simp [crypt]
theorem getD_range (n : Nat) (f : Nat → Nat) (i : Nat) (h : i < n) : ((List.range n).map f).getD i 0 = f i := by
  simp [List.getD, h]
theorem list_eq {l m : List Nat} (hl : l.length = m.length) (h : ∀ i, i < l.length → l.getD i 0 = m.getD i 0) : l = m := by
  apply List.ext_getElem hl
  intro i h1 h2
  have := h i h1
  simpa [List.getD, h1, h2] using this
theorem mask_get (key nonce : Nat → Nat) (a : Nat) (l : List Nat) (k i : Nat) (h : i < l.length) : (mask key nonce a l k).getD i 0 = if i < k then l.getD i 0 ^^^ byte key nonce (a + i) else l.getD i 0 := getD_range _ _ i h
theorem crypt_get (key nonce : Nat → Nat) (a : Nat) (l : List Nat) (i : Nat) (h : i < l.length) : (crypt key nonce a l).getD i 0 = l.getD i 0 ^^^ byte key nonce (a + i) := getD_range _ _ i h
theorem mask_zero (key nonce : Nat → Nat) (a : Nat) (l : List Nat) : mask key nonce a l 0 = l :=
  list_eq (mask_length ..) fun i hi => by rw [mask_get _ _ _ _ _ _ (by simpa [mask] using hi)]; simp
theorem mask_all (key nonce : Nat → Nat) (a : Nat) (l : List Nat) (k : Nat) (h : l.length ≤ k) : mask key nonce a l k = crypt key nonce a l :=
  list_eq (by rw [mask_length, crypt_length]) fun i hi => by
    have hi' : i < l.length := by simpa [mask] using hi
    rw [mask_get _ _ _ _ _ _ hi', crypt_get _ _ _ _ _ hi', if_pos (by omega)]
theorem getD_set (l : List Nat) (k i v : Nat) (h : i < l.length) : (l.set k v).getD i 0 = if k = i then v else l.getD i 0 := by
  simp [List.getD, List.getElem?_set]
  split
  · next e => subst e; simp [h]
  · rfl
theorem mask_set (key nonce : Nat → Nat) (a : Nat) (l : List Nat) (k : Nat) (h : k < l.length) : (mask key nonce a l k).set k (l.getD k 0 ^^^ byte key nonce (a + k)) = mask key nonce a l (k + 1) :=
  list_eq (by simp [mask]) fun i hi => by
    have hi' : i < l.length := by simpa [mask] using hi
    rw [getD_set _ _ _ _ (by rw [mask_length]; exact hi'), mask_get _ _ _ _ _ _ hi', mask_get _ _ _ _ _ _ hi']
    by_cases e : k = i
    · subst e; rw [if_pos rfl, if_pos (by omega)]
    · rw [if_neg e]
      by_cases h2 : i < k
      · rw [if_pos h2, if_pos (by omega)]
      · rw [if_neg h2, if_neg (by omega)]
theorem crypt_lt {key nonce : Nat → Nat} (hk : B8 key) (hn : B8 nonce) (a : Nat) {l : List Nat} (hl : ∀ x, x ∈ l → x < 256) : ∀ x, x ∈ crypt key nonce a l → x < 256 := fun x hx => by
  unfold crypt at hx
  obtain ⟨i, hi, rfl⟩ := List.mem_map.1 hx
  have hi' : i < l.length := by simpa using hi
  have e : l.getD i 0 = l[i] := by simp [List.getD, hi']
  refine Fld.xor_lt _ _ ?_ (byte_lt hk hn _)
  rw [e]; exact hl _ (List.getElem_mem hi')
theorem crypt_crypt (key nonce : Nat → Nat) (a : Nat) (l : List Nat) : crypt key nonce a (crypt key nonce a l) = l :=
  list_eq (by simp [crypt]) fun i hi => by
    have hi' : i < l.length := by simpa [crypt] using hi
    rw [crypt_get _ _ _ _ _ (by rw [crypt_length]; exact hi'), crypt_get _ _ _ _ _ hi', Nat.xor_assoc, Nat.xor_self, Nat.xor_zero]
theorem crypt_zeros (key nonce : Nat → Nat) (a n : Nat) : crypt key nonce a (List.replicate n 0) = str key nonce a n := by
  unfold crypt str
  rw [List.length_replicate]
  apply List.map_congr_left
  intro i hi
  have hi' : i < n := by simpa using hi
  simp [List.getD, hi']
theorem crypt_append (key nonce : Nat → Nat) (a : Nat) (l m : List Nat) : crypt key nonce a (l ++ m) = crypt key nonce a l ++ crypt key nonce (a + l.length) m :=
  list_eq (by simp [crypt]) fun i hi => by
    have hi' : i < l.length + m.length := by simpa [crypt] using hi
    rw [crypt_get _ _ _ _ _ (by simpa using hi')]
    by_cases h : i < l.length
    · have e1 : (crypt key nonce a l ++ crypt key nonce (a + l.length) m).getD i 0 = (crypt key nonce a l).getD i 0 := by
        simp [List.getD, List.getElem?_append_left (show i < (crypt key nonce a l).length by rw [crypt_length]; exact h)]
      have e2 : (l ++ m).getD i 0 = l.getD i 0 := by simp [List.getD, List.getElem?_append_left h]
      rw [e1, e2, crypt_get _ _ _ _ _ h]
    · have e1 : (crypt key nonce a l ++ crypt key nonce (a + l.length) m).getD i 0 = (crypt key nonce (a + l.length) m).getD (i - l.length) 0 := by
        simp [List.getD, List.getElem?_append_right (show (crypt key nonce a l).length ≤ i by rw [crypt_length]; omega), crypt_length]
      have e2 : (l ++ m).getD i 0 = m.getD (i - l.length) 0 := by simp [List.getD, List.getElem?_append_right (show l.length ≤ i by omega)]
      rw [e1, e2, crypt_get _ _ _ _ _ (by omega)]
      have e3 : a + l.length + (i - l.length) = a + i := by omega
      rw [e3]
theorem crypt_get2 (key nonce : Nat → Nat) (l : List Nat) (k : Nat) (h : k < l.length) : (str key nonce 0 l.length).getD k 0 ^^^ l.getD k 0 = (crypt key nonce 0 l).getD k 0 := by
  rw [crypt_get _ _ _ _ _ h]
  unfold str
  rw [getD_range _ _ _ h, Nat.xor_comm]

theorem digits_eq (i j : Nat) : ∀ k, (∀ t, t < k → i / 256 ^ t % 256 = j / 256 ^ t % 256) → i % 256 ^ k = j % 256 ^ k
  | 0, _ => by simp [Nat.mod_one]
  | k + 1, h => by
    rw [Nat.mod_pow_succ, Nat.mod_pow_succ, digits_eq i j k (fun t ht => h t (by omega)), h k (by omega)]
theorem blk_number {n m : Nat → Nat} {i j : Nat} (h : Eq16 (blk n i) (blk m j)) (hi : i < 18446744073709551616) (hj : j < 18446744073709551616) : i = j := by
  have := digits_eq i j 8 fun t ht => by
    have e := h (15 - t) (by omega)
    unfold blk at e
    rw [if_neg (by omega), if_neg (by omega), show 15 - (15 - t) = t by omega] at e
    exact e
  rwa [Nat.mod_eq_of_lt (by simpa using hi), Nat.mod_eq_of_lt (by simpa using hj)] at this
theorem blk_nonce {n m : Nat → Nat} {i j : Nat} (h : Eq16 (blk n i) (blk m j)) : ∀ k, k < 8 → n k = m k := fun k hk => by
  have e := h k (by omega)
  unfold blk at e
  rwa [if_pos hk, if_pos hk] at e
theorem blk_congr {n m : Nat → Nat} (h : ∀ k, k < 8 → n k = m k) (i : Nat) : Eq16 (blk n i) (blk m i) := fun k _ => by
  unfold blk
  by_cases hk : k < 8
  · rw [if_pos hk, if_pos hk, h k hk]
  · rw [if_neg hk, if_neg hk]
theorem enc_congr {key b c : Nat → Nat} (h : Eq16 b c) : Eq16 (enc key b) (enc key c) := st_congr h 10
theorem bk_nonce {key n m : Nat → Nat} {i : Nat} (hk : B8 key) (hn : B8 n) (hm : B8 m) : Eq16 (bk key n i) (bk key m i) ↔ ∀ k, k < 8 → n k = m k :=
  ⟨fun h => blk_nonce (enc_inj hk (blk_b8 hn i) (blk_b8 hm i) h), fun h => enc_congr (blk_congr h i)⟩
theorem bk_apart {key n : Nat → Nat} {i j : Nat} (hk : B8 key) (hn : B8 n) (hi : i < 18446744073709551616) (hj : j < 18446744073709551616) (h : i ≠ j) : ¬ Eq16 (bk key n i) (bk key n j) :=
  fun e => h (blk_number (enc_inj hk (blk_b8 hn i) (blk_b8 hn j) e) hi hj)
theorem doc0 : (of (encR (fun _ => 0) (fun _ => 0)) 0 == 102 && of (encR (fun _ => 0) (fun _ => 0)) 1 == 233 && of (encR (fun _ => 0) (fun _ => 0)) 2 == 75) = true := by decide +kernel
theorem blk_zero : blk (fun _ => 0) 0 = fun _ => 0 := by
  funext k; unfold blk; simp
theorem doc : str (fun _ => 0) (fun _ => 0) 0 3 = [102, 233, 75] := by
  have e := encR_eq (fun _ => 0) (fun _ => 0)
  have h := doc0
  simp only [Bool.and_eq_true, beq_iff_eq] at h
  have e0 := e 0 (by omega); have e1 := e 1 (by omega); have e2 := e 2 (by omega)
  rw [h.1.1] at e0; rw [h.1.2] at e1; rw [h.2] at e2
  have hb : bk (fun _ => 0) (fun _ => 0) 0 = enc (fun _ => 0) (fun _ => 0) := by unfold bk; rw [blk_zero]
  have b0 : byte (fun _ => 0) (fun _ => 0) (0 + 0) = 102 := by show bk _ _ 0 0 = _; rw [hb, e0]
  have b1 : byte (fun _ => 0) (fun _ => 0) (0 + 1) = 233 := by show bk _ _ 0 1 = _; rw [hb, e1]
  have b2 : byte (fun _ => 0) (fun _ => 0) (0 + 2) = 75 := by show bk _ _ 0 2 = _; rw [hb, e2]
  show [byte _ _ (0 + 0), byte _ _ (0 + 1), byte _ _ (0 + 2)] = _
  rw [b0, b1, b2]
end Ctr
end Go.Proofs.Ytibgmoapkionjaa
