/- Layer 9: the plain law: sealed strings; no program. -/
import Derived.Test.YtpbcpdocnjnfiaaDoorSM9
namespace Go.Proofs.YtpbcpdocnjnfiaaDoor
theorem Mac.dv_all (key lab : List Nat) : ∀ j, AllB (Mac.dv key lab j)
  | 0 => AllB.nil
  | j + 1 => by
    rw [Mac.dv]
    refine (Mac.dv_all key lab j).append fun x hx => ?_
    obtain ⟨i, _, rfl⟩ := List.mem_map.1 hx
    exact Mac.hm_lt _ _ _
theorem Mac.dn_all (key lab : List Nat) (n : Nat) : AllB (Mac.dn key lab n) := fun x hx => Mac.dv_all key lab _ x (List.mem_of_mem_take hx)
namespace Sea
theorem sameB_eq {l m : List Nat} : sameB l m = true ↔ l = m := by unfold sameB; simp
/-- "encrypt", "protect". -/
def encS : ByteArray := ⟨#[101, 110, 99, 114, 121, 112, 116]⟩
def proS : ByteArray := ⟨#[112, 114, 111, 116, 101, 99, 116]⟩
def nl (n : Nat) (f : Nat → Nat) : List Nat := (List.range n).map f
theorem nl_length (n : Nat) (f : Nat → Nat) : (nl n f).length = n := by simp [nl]
theorem nl_all {n : Nat} {f : Nat → Nat} (h : ∀ i, f i < 256) : ∀ x, x ∈ nl n f → x < 256 := fun x hx => by
  obtain ⟨i, _, rfl⟩ := List.mem_map.1 hx
  exact h i
theorem nl_get (n : Nat) (f : Nat → Nat) (i : Nat) (h : i < n) : (nl n f).getD i 0 = f i := Ctr.getD_range n f i h
def ek (key : Nat → Nat) : Nat → Nat := Mac.k16 (nl 16 key) (lb encS)
def mk (key : Nat → Nat) : List Nat := Mac.dn (nl 16 key) (lb proS) 32
theorem mk_length (key : Nat → Nat) : (mk key).length = 32 := Mac.dn_length _ _ _
/-- The key M as an array. -/
def mf (key : Nat → Nat) (i : Nat) : Nat := (mk key).getD i 0
theorem nl_mf (key : Nat → Nat) : nl 32 (mf key) = mk key := by
  apply List.ext_getElem
  · rw [nl_length, mk_length]
  · intro i h1 h2
    simp [nl, mf, List.getD, h2]
theorem mk_all (key : Nat → Nat) : AllB (mk key) := Mac.dn_all _ _ _
theorem mf_b8 (key : Nat → Nat) (i : Nat) : mf key i < 256 := (mk_all key).get i
theorem ek_b8 (key : Nat → Nat) : Aes.B8 (ek key) := fun i => (Mac.dn_all _ _ _ : AllB (Mac.dn (nl 16 key) (lb encS) 16)).get i
/-- The nonce and the encrypted bytes. -/
def front (key nonce : Nat → Nat) (l : List Nat) : List Nat := nl 8 nonce ++ Ctr.crypt (ek key) nonce 0 l
theorem front_length (key nonce : Nat → Nat) (l : List Nat) : (front key nonce l).length = 8 + l.length := by unfold front; rw [List.length_append, nl_length, Ctr.crypt_length]
def code (key : Nat → Nat) (u : Nat) (f : List Nat) : List Nat := nl 16 (Mac.hm (mk key) (u :: f))
def sld (key : Nat → Nat) (u : Nat) (nonce : Nat → Nat) (l : List Nat) : List Nat := front key nonce l ++ code key u (front key nonce l)
theorem seal_length (key : Nat → Nat) (u : Nat) (nonce : Nat → Nat) (l : List Nat) : (sld key u nonce l).length = l.length + 24 := by
  unfold sld code
  rw [List.length_append, front_length, nl_length]; omega
/-- The nonce of a string. -/
def non (s : List Nat) (i : Nat) : Nat := s.getD i 0
def fr (s : List Nat) : List Nat := s.take (s.length - 16)
def op (key : Nat → Nat) (u : Nat) (s : List Nat) : Option (List Nat) :=
  if s.length < 24 then none
  else if Mac.ok (mk key) (s.drop (s.length - 16)) (u :: fr s) = true then some (Ctr.crypt (ek key) (non s) 0 ((fr s).drop 8)) else none
def refOp (key : Nat → Nat) (u : Nat) (s : List Nat) : Option (List Nat) :=
  if s.length < 24 then none
  else if sld key u (non s) (Ctr.crypt (ek key) (non s) 0 ((fr s).drop 8)) = s then some (Ctr.crypt (ek key) (non s) 0 ((fr s).drop 8)) else none
theorem crypt_nonce (key a b : Nat → Nat) (h : ∀ i, i < 8 → a i = b i) (n : Nat) (l : List Nat) : Ctr.crypt key a n l = Ctr.crypt key b n l := by
  unfold Ctr.crypt
  refine List.map_congr_left fun i _ => ?_
  have : ∀ j, Ctr.blk a j = Ctr.blk b j := fun j => by
    funext k
    unfold Ctr.blk
    split
    · rename_i hk; exact h k hk
    · rfl
  unfold Ctr.byte Ctr.bk
  rw [this]
theorem fr_split {s : List Nat} (h : 24 ≤ s.length) : fr s = nl 8 (non s) ++ (fr s).drop 8 := by
  have hl : (fr s).length = s.length - 16 := by unfold fr; rw [List.length_take]; omega
  have e : (fr s).take 8 = nl 8 (non s) := by
    apply List.ext_getElem
    · rw [List.length_take, nl_length]; omega
    · intro i h1 h2
      have hi : i < 8 := by rw [nl_length] at h2; exact h2
      simp only [nl, List.getElem_map, List.getElem_range, non, fr, List.getElem_take, List.getD]
      rw [List.getElem?_eq_getElem (by omega)]; rfl
  rw [← e, List.take_append_drop]
/-- A string is opened exactly if it is the sealed string of the result. -/
theorem ok_seal (key : Nat → Nat) (u : Nat) (s : List Nat) (h : 24 ≤ s.length) :
    Mac.ok (mk key) (s.drop (s.length - 16)) (u :: fr s) = true ↔ sld key u (non s) (Ctr.crypt (ek key) (non s) 0 ((fr s).drop 8)) = s := by
  have hf : front key (non s) (Ctr.crypt (ek key) (non s) 0 ((fr s).drop 8)) = fr s := by
    unfold front
    rw [Ctr.crypt_crypt, ← fr_split h]
  have hc : (s.drop (s.length - 16)).length = 16 := by rw [List.length_drop]; omega
  unfold sld code
  rw [hf]
  have hs : s = fr s ++ s.drop (s.length - 16) := by unfold fr; rw [List.take_append_drop]
  unfold Mac.ok
  rw [hc]
  simp only [Nat.le_refl, Bool.and_eq_true, decide_eq_true_eq]
  constructor
  · rintro ⟨_, h2⟩
    have := sameB_eq.1 h2
    conv => rhs; rw [hs, this]
    rfl
  · intro h2
    refine ⟨⟨trivial, by omega⟩, sameB_eq.2 ?_⟩
    have : fr s ++ nl 16 (Mac.hm (mk key) (u :: fr s)) = fr s ++ s.drop (s.length - 16) := h2.trans hs
    exact (List.append_cancel_left this).symm
theorem op_ref (key : Nat → Nat) (u : Nat) (s : List Nat) : op key u s = refOp key u s := by
  unfold op refOp
  by_cases h : s.length < 24
  · rw [if_pos h, if_pos h]
  · rw [if_neg h, if_neg h]
    have := ok_seal key u s (by omega)
    by_cases h2 : Mac.ok (mk key) (s.drop (s.length - 16)) (u :: fr s) = true
    · rw [if_pos h2, if_pos (this.1 h2)]
    · rw [if_neg h2, if_neg (fun e => h2 (this.2 e))]
theorem fr_seal (key : Nat → Nat) (u : Nat) (nonce : Nat → Nat) (l : List Nat) : fr (sld key u nonce l) = front key nonce l := by
  unfold fr
  rw [seal_length]
  have e : l.length + 24 - 16 = (front key nonce l).length := by rw [front_length]; omega
  rw [e]; unfold sld
  rw [List.take_append_of_le_length (Nat.le_refl _), List.take_length]
theorem non_seal (key : Nat → Nat) (u : Nat) (nonce : Nat → Nat) (l : List Nat) (i : Nat) (h : i < 8) : non (sld key u nonce l) i = nonce i := by
  unfold non sld front
  rw [List.append_assoc]
  simp only [List.getD]
  rw [List.getElem?_append_left (by rw [nl_length]; exact h)]
  have := nl_get 8 nonce i h
  simpa [List.getD] using this
theorem nl_congr {n : Nat} {f g : Nat → Nat} (h : ∀ i, i < n → f i = g i) : nl n f = nl n g := by
  unfold nl
  exact List.map_congr_left fun i hi => h i (List.mem_range.1 hi)
theorem op_seal (key : Nat → Nat) (u : Nat) (nonce : Nat → Nat) (l : List Nat) : op key u (sld key u nonce l) = some l := by
  have hn : nl 8 (non (sld key u nonce l)) = nl 8 nonce := nl_congr fun i hi => non_seal key u nonce l i hi
  have hcr : ∀ m, Ctr.crypt (ek key) (non (sld key u nonce l)) 0 m = Ctr.crypt (ek key) nonce 0 m := fun m => crypt_nonce _ _ _ (fun i hi => non_seal key u nonce l i hi) 0 m
  have hd : (fr (sld key u nonce l)).drop 8 = Ctr.crypt (ek key) nonce 0 l := by
    rw [fr_seal]
    unfold front
    rw [List.drop_append_of_le_length (by rw [nl_length]; omega), List.drop_eq_nil_of_le (by rw [nl_length]; omega)]; rfl
  rw [op_ref]
  unfold refOp
  rw [if_neg (by rw [seal_length]; omega), hd, hcr, Ctr.crypt_crypt]
  have : sld key u (non (sld key u nonce l)) l = sld key u nonce l := by
    have hf : front key (non (sld key u nonce l)) l = front key nonce l := by unfold front; rw [hn, hcr]
    show front key (non (sld key u nonce l)) l ++ code key u (front key (non (sld key u nonce l)) l) = front key nonce l ++ code key u (front key nonce l)
    rw [hf]
  rw [if_pos this]
theorem seal_of_op {key : Nat → Nat} {u : Nat} {s l : List Nat} (h : op key u s = some l) : sld key u (non s) l = s ∧ 24 ≤ s.length ∧ l.length = s.length - 24 := by
  rw [op_ref] at h
  unfold refOp at h
  split at h
  · cases h
  · rename_i h24
    split at h
    · rename_i h2
      cases h
      refine ⟨h2, by omega, ?_⟩
      rw [Ctr.crypt_length, List.length_drop]
      unfold fr
      rw [List.length_take]; omega
    · cases h
end Sea
end Go.Proofs.YtpbcpdocnjnfiaaDoor
