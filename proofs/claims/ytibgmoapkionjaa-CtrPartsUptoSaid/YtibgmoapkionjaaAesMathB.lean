/- Layer 7 in plain numbers: encryption and decryption undo each other; the last round key tells the key; a reckoning for the kernel. No function of the program. -/
import Derived.Test.YtibgmoapkionjaaAesMath
namespace Go.Proofs.Ytibgmoapkionjaa
namespace Aes
theorem Eq16.refl (f : Nat → Nat) : Eq16 f f := fun _ _ => rfl
theorem Eq16.trans {f g h : Nat → Nat} (a : Eq16 f g) (b : Eq16 g h) : Eq16 f h := fun i hi => (a i hi).trans (b i hi)
theorem Eq16.symm {f g : Nat → Nat} (a : Eq16 f g) : Eq16 g f := fun i hi => (a i hi).symm
theorem xor_xor (f k : Nat → Nat) : xor (xor f k) k = f := by
  funext i; unfold xor; rw [Nat.xor_assoc, Nat.xor_self, Nat.xor_zero]
theorem mixN_b8 : B8 mixN := n4_b8 (by omega) (by omega) (by omega) (by omega)
theorem unmN_b8 : B8 unmN := n4_b8 (by omega) (by omega) (by omega) (by omega)
theorem unmix_mix {a : Nat → Nat} (ha : B8 a) : Eq16 (mx unmN (mx mixN a)) a :=
  unmix mixN unmN mixN_b8 unmN_b8 a ha (by decide +kernel) (by decide +kernel) (by decide +kernel) (by decide +kernel)
theorem mix_unmix {a : Nat → Nat} (ha : B8 a) : Eq16 (mx mixN (mx unmN a)) a :=
  unmix unmN mixN unmN_b8 mixN_b8 a ha (by decide +kernel) (by decide +kernel) (by decide +kernel) (by decide +kernel)
theorem round_xor (b k : Nat → Nat) (last : Bool) : xor (round b k last) k = if last then sr b else mx mixN (sr b) := by
  funext i
  unfold xor round
  rw [Nat.xor_assoc, Nat.xor_self, Nat.xor_zero]
theorem unround_round {b k : Nat → Nat} (hb : B8 b) (last : Bool) : Eq16 (unround (round b k last) k last) b := by
  unfold unround
  rw [round_xor]
  cases last
  · simp only [Bool.false_eq_true, if_false]
    exact (usr_congr (unmix_mix (sr_b8 hb))).trans (usr_sr hb)
  · simp only [if_true]
    exact usr_sr hb
theorem round_unround {b k : Nat → Nat} (hb : B8 b) (hk : B8 k) (last : Bool) : Eq16 (round (unround b k last) k last) b := by
  have hx := xor_b8 hb hk
  have e : b = xor (xor b k) k := (xor_xor b k).symm
  intro i hi
  unfold round unround
  cases last
  · simp only [Bool.false_eq_true, if_false]
    rw [((mx_congr (sr_usr (mx_b8 hx))).trans (mix_unmix hx)) i hi]
    exact (congrFun e i).symm
  · simp only [if_true]
    rw [(sr_usr hx) i hi]
    exact (congrFun e i).symm
theorem un_st {key b : Nat → Nat} (hk : B8 key) (hb : B8 b) : ∀ k, k ≤ 10 → Eq16 (un key (st key b 10) k) (st key b (10 - k))
  | 0, _ => Eq16.refl _
  | k + 1, h => by
    have ih := un_st hk hb k (by omega)
    obtain ⟨m, hm⟩ : ∃ m, 10 - k = m + 1 := ⟨9 - k, by omega⟩
    have e : un key (st key b 10) (k + 1) = unround (un key (st key b 10) k) (ks key (10 - k)) (10 - k == 10) := rfl
    rw [e, hm]
    rw [hm] at ih
    rw [show 10 - (k + 1) = m by omega]
    exact (unround_congr ih (Eq16.refl _) _).trans (unround_round (st_b8 hk hb m) _)
theorem dec_enc {key b : Nat → Nat} (hk : B8 key) (hb : B8 b) : Eq16 (dec key (enc key b)) b := by
  have h := un_st hk hb 10 (by omega)
  have h2 : Eq16 (dec key (enc key b)) (xor (st key b 0) (ks key 0)) := xor_congr h (Eq16.refl _)
  refine h2.trans ?_
  show Eq16 (xor (xor b (ks key 0)) (ks key 0)) b
  rw [xor_xor]
  exact Eq16.refl _
theorem st_un {key b : Nat → Nat} (hk : B8 key) (hb : B8 b) : ∀ i, i ≤ 10 → Eq16 (st key (dec key b) i) (un key b (10 - i))
  | 0, _ => by
    show Eq16 (xor (xor (un key b 10) (ks key 0)) (ks key 0)) _
    rw [xor_xor]
    exact Eq16.refl _
  | i + 1, h => by
    have ih := st_un hk hb i (by omega)
    obtain ⟨k, hk'⟩ : ∃ k, 10 - i = k + 1 := ⟨9 - i, by omega⟩
    have e : st key (dec key b) (i + 1) = round (st key (dec key b) i) (ks key (i + 1)) (i + 1 == 10) := rfl
    have e2 : un key b (k + 1) = unround (un key b k) (ks key (10 - k)) (10 - k == 10) := rfl
    rw [hk', e2, show 10 - k = i + 1 by omega] at ih
    rw [e, show 10 - (i + 1) = k by omega]
    exact (round_congr ih (Eq16.refl _) _).trans (round_unround (un_b8 hk hb k) (ks_b8 hk _) _)
theorem enc_dec {key b : Nat → Nat} (hk : B8 key) (hb : B8 b) : Eq16 (enc key (dec key b)) b := st_un hk hb 10 (by omega)
theorem st_congr {key b c : Nat → Nat} (h : Eq16 b c) : ∀ i, Eq16 (st key b i) (st key c i)
  | 0 => xor_congr h (Eq16.refl _)
  | i + 1 => round_congr (st_congr h i) (Eq16.refl _) _
theorem un_congr {key b c : Nat → Nat} (h : Eq16 b c) : ∀ i, Eq16 (un key b i) (un key c i)
  | 0 => h
  | i + 1 => unround_congr (un_congr h i) (Eq16.refl _) _
theorem dec_congr {key b c : Nat → Nat} (h : Eq16 b c) : Eq16 (dec key b) (dec key c) := xor_congr (un_congr h 10) (Eq16.refl _)
/-- Encryption keeps different blocks apart. -/
theorem enc_inj {key b c : Nat → Nat} (hk : B8 key) (hb : B8 b) (hc : B8 c) (h : Eq16 (enc key b) (enc key c)) : Eq16 b c :=
  (dec_enc hk hb).symm.trans ((dec_congr h).trans (dec_enc hk hc))

/-! ### keys -/
theorem c0_congr {b c : Nat → Nat} (h : ∀ i, 12 ≤ i → i < 16 → b i = c i) (p r : Nat) : c0 b p r = c0 c p r := by
  unfold c0
  rw [h 12 (by omega) (by omega), h 13 (by omega) (by omega), h 14 (by omega) (by omega), h 15 (by omega) (by omega)]
theorem kc_congr {b c : Nat → Nat} (h : Eq16 b c) (p : Nat) : Eq16 (kc b p) (kc c p) := fun j hj => by
  have h0 := c0_congr (fun i _ hi => h i hi) p
  unfold kc
  by_cases a : j < 4
  · rw [if_pos a, if_pos a, h0, h _ hj]
  · rw [if_neg a, if_neg a]
    by_cases a : j < 8
    · rw [if_pos a, if_pos a, h0, h _ hj, h _ (by omega)]
    · rw [if_neg a, if_neg a]
      by_cases a : j < 12
      · rw [if_pos a, if_pos a, h0, h _ hj, h _ (by omega), h _ (by omega)]
      · rw [if_neg a, if_neg a, if_pos hj, if_pos hj, h0, h _ hj, h _ (by omega), h _ (by omega), h _ (by omega)]
theorem ks_congr {b c : Nat → Nat} (h : Eq16 b c) : ∀ i, Eq16 (ks b i) (ks c i)
  | 0 => h
  | i + 1 => kc_congr (ks_congr h i) _
theorem xor_cancel {a b c : Nat} (h : a ^^^ b = a ^^^ c) : b = c := by
  have : a ^^^ (a ^^^ b) = a ^^^ (a ^^^ c) := by rw [h]
  rwa [← Nat.xor_assoc, ← Nat.xor_assoc, Nat.xor_self, Nat.zero_xor, Nat.zero_xor] at this
theorem kc_inj {b c : Nat → Nat} {p : Nat} (h : Eq16 (kc b p) (kc c p)) : Eq16 b c := by
  have high : ∀ j, 4 ≤ j → j < 16 → b j = c j := fun j h4 hj => by
    have e := h j hj
    rw [kc_high b p j h4 hj, kc_high c p j h4 hj, h (j - 4) (by omega)] at e
    exact xor_cancel e
  intro j hj
  by_cases h4 : 4 ≤ j
  · exact high j h4 hj
  · have e := h j hj
    rw [kc_low b p j (by omega), kc_low c p j (by omega), c0_congr (fun i hi hi' => high i (by omega) hi')] at e
    exact xor_cancel e
theorem ks_inj {b c : Nat → Nat} : ∀ i, Eq16 (ks b i) (ks c i) → Eq16 b c
  | 0, h => h
  | i + 1, h => ks_inj i (kc_inj h)

/-! ### a reckoning for the kernel -/
def frc {α : Type} (n : Nat) (f : Nat → α) : α := Nat.rec (f 0) (fun m _ => f (m + 1)) n
theorem frc_eq {α : Type} (n : Nat) (f : Nat → α) : frc n f = f n := by cases n <;> rfl
def frcT {α : Type} : Nat → (Nat → Nat) → List Nat → (List Nat → α) → α
  | 0, _, acc, k => k acc
  | n + 1, f, acc, k => frc (f n) fun x => frcT n f (x :: acc) k
theorem frcT_eq {α : Type} : ∀ (n : Nat) (f : Nat → Nat) (acc : List Nat) (k : List Nat → α), frcT n f acc k = k ((List.range n).map f ++ acc)
  | 0, _, _, _ => rfl
  | n + 1, f, acc, k => by
    unfold frcT
    rw [frc_eq, frcT_eq n, List.range_succ, List.map_append, List.append_assoc]
    rfl
def of (l : List Nat) (i : Nat) : Nat := l.getD i 0
theorem of_range (f : Nat → Nat) : Eq16 (of ((List.range 16).map f ++ [])) f := fun i hi => by
  unfold of
  simp [List.getD, hi]
def goR : Nat → Nat → List Nat → List Nat → List Nat
  | 0, _, _, sl => sl
  | n + 1, i, kl, sl => frcT 16 (kc (of kl) (pwr i)) [] fun kl' => frcT 16 (round (of sl) (of kl') (i + 1 == 10)) [] fun sl' => goR n (i + 1) kl' sl'
theorem goR_eq (key b : Nat → Nat) : ∀ (n i : Nat) (kl sl : List Nat), Eq16 (of kl) (ks key i) → Eq16 (of sl) (st key b i) → Eq16 (of (goR n i kl sl)) (st key b (i + n))
  | 0, _, _, _, _, h => h
  | n + 1, i, kl, sl, hk, hs => by
    unfold goR
    rw [frcT_eq, frcT_eq, show i + (n + 1) = (i + 1) + n by omega]
    have h1 : Eq16 (of ((List.range 16).map (kc (of kl) (pwr i)) ++ [])) (ks key (i + 1)) := (of_range _).trans (kc_congr hk _)
    refine goR_eq key b n (i + 1) _ _ h1 ?_
    exact (of_range _).trans (round_congr hs h1 _)
def encR (key b : Nat → Nat) : List Nat := frcT 16 key [] fun kl => frcT 16 (xor b key) [] fun sl => goR 10 0 kl sl
theorem encR_eq (key b : Nat → Nat) : Eq16 (of (encR key b)) (enc key b) := by
  unfold encR
  rw [frcT_eq, frcT_eq]
  exact goR_eq key b 10 0 _ _ (of_range _) (of_range _)
set_option maxRecDepth 100000 in
theorem enc_doc : (of (encR (fun i => i % 256) (fun i => 17 * i % 256)) 0 == 105 && of (encR (fun i => i % 256) (fun i => 17 * i % 256)) 1 == 196 && of (encR (fun i => i % 256) (fun i => 17 * i % 256)) 2 == 224 && of (encR (fun i => i % 256) (fun i => 17 * i % 256)) 15 == 90) = true := by decide +kernel
end Aes
end Go.Proofs.Ytibgmoapkionjaa
