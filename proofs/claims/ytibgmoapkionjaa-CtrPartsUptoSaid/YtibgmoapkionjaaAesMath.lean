/- Layer 7 in plain numbers: blocks are functions of the index. No function of the program. -/
import Derived.Test.YtibgmoapkionjaaFieldX
namespace Go.Proofs.Ytibgmoapkionjaa
namespace Aes
def B8 (f : Nat → Nat) : Prop := ∀ i, f i < 256
def xor (f g : Nat → Nat) (i : Nat) : Nat := f i ^^^ g i
theorem xor_b8 {f g : Nat → Nat} (hf : B8 f) (hg : B8 g) : B8 (xor f g) := fun i => Fld.xor_lt _ _ (hf i) (hg i)
/-- The bytes are substituted and moved. -/
def sr (b : Nat → Nat) (i : Nat) : Nat := Fld.sb (b (i % 4 + 4 * ((i / 4 + i % 4) % 4)))
theorem sr_b8 {b : Nat → Nat} (hb : B8 b) : B8 (sr b) := fun _ => Fld.sb_lt _ (hb _)
/-- The columns are mixed. -/
def mx (n b : Nat → Nat) (i : Nat) : Nat := dotP n (fun k => b ((i % 4 + k) % 4 + 4 * (i / 4))) 4
theorem mx_b8 {n b : Nat → Nat} (hb : B8 b) : B8 (mx n b) := fun _ => dotP_lt _ _ (fun _ => hb _) 4
def n4 (a b c d : Nat) (i : Nat) : Nat := match i with | 0 => a | 1 => b | 2 => c | 3 => d | _ => 0
def mixN : Nat → Nat := n4 2 3 1 1
def unmN : Nat → Nat := n4 14 11 13 9
theorem n4_b8 {a b c d : Nat} (ha : a < 256) (hb : b < 256) (hc : c < 256) (hd : d < 256) : B8 (n4 a b c d) := fun i => by
  unfold n4
  split <;> first | assumption | omega
def round (b k : Nat → Nat) (last : Bool) (i : Nat) : Nat := (if last then sr b else mx mixN (sr b)) i ^^^ k i
theorem round_b8 {b k : Nat → Nat} (hb : B8 b) (hk : B8 k) (last : Bool) : B8 (round b k last) := fun i => Fld.xor_lt _ _ (by split; exact sr_b8 hb i; exact mx_b8 (sr_b8 hb) i) (hk i)
def usr (y : Nat → Nat) (i : Nat) : Nat := Fld.usb (y (i % 4 + 4 * ((i / 4 + 4 - i % 4) % 4)))
theorem usr_b8 {b : Nat → Nat} (hb : B8 b) : B8 (usr b) := fun _ => Fld.usb_lt _ (hb _)
def unround (b k : Nat → Nat) (last : Bool) : Nat → Nat := usr (if last then xor b k else mx unmN (xor b k))
theorem unround_b8 {b k : Nat → Nat} (hb : B8 b) (hk : B8 k) (last : Bool) : B8 (unround b k last) := usr_b8 (by split; exact xor_b8 hb hk; exact mx_b8 (xor_b8 hb hk))

/-! ### keys -/
def c0 (b : Nat → Nat) (p r : Nat) : Nat := match r with | 0 => Fld.sb (b 13) ^^^ p | 1 => Fld.sb (b 14) | 2 => Fld.sb (b 15) | _ => Fld.sb (b 12)
/-- The next round key, byte by byte. -/
def kc (b : Nat → Nat) (p j : Nat) : Nat :=
  if j < 4 then c0 b p j ^^^ b j else if j < 8 then c0 b p (j - 4) ^^^ b (j - 4) ^^^ b j else if j < 12 then c0 b p (j - 8) ^^^ b (j - 8) ^^^ b (j - 4) ^^^ b j else if j < 16 then c0 b p (j - 12) ^^^ b (j - 12) ^^^ b (j - 8) ^^^ b (j - 4) ^^^ b j else 0
def pwr : Nat → Nat
  | 0 => 1
  | i + 1 => Fld.gm (pwr i) 2
theorem pwr_lt (i : Nat) : pwr i < 256 := by
  induction i with
  | zero => decide
  | succ i ih => exact Fld.gm_lt _ _ ih
/-- The round keys. -/
def ks (key : Nat → Nat) : Nat → Nat → Nat
  | 0 => key
  | i + 1 => kc (ks key i) (pwr i)
theorem c0_lt {b : Nat → Nat} (hb : B8 b) {p : Nat} (hp : p < 256) (r : Nat) : c0 b p r < 256 := by
  unfold c0
  split
  · exact Fld.xor_lt _ _ (Fld.sb_lt _ (hb _)) hp
  all_goals exact Fld.sb_lt _ (hb _)
theorem kc_b8 {b : Nat → Nat} (hb : B8 b) {p : Nat} (hp : p < 256) : B8 (kc b p) := fun j => by
  have hc := c0_lt hb hp
  unfold kc
  split
  · exact Fld.xor_lt _ _ (hc _) (hb _)
  split
  · exact Fld.xor_lt _ _ (Fld.xor_lt _ _ (hc _) (hb _)) (hb _)
  split
  · exact Fld.xor_lt _ _ (Fld.xor_lt _ _ (Fld.xor_lt _ _ (hc _) (hb _)) (hb _)) (hb _)
  split
  · exact Fld.xor_lt _ _ (Fld.xor_lt _ _ (Fld.xor_lt _ _ (Fld.xor_lt _ _ (hc _) (hb _)) (hb _)) (hb _)) (hb _)
  · omega
theorem ks_b8 {key : Nat → Nat} (hk : B8 key) : ∀ i, B8 (ks key i)
  | 0 => hk
  | i + 1 => kc_b8 (ks_b8 hk i) (pwr_lt i)
theorem kc_low (b : Nat → Nat) (p j : Nat) (h : j < 4) : kc b p j = c0 b p j ^^^ b j := by unfold kc; rw [if_pos h]
theorem kc_high (b : Nat → Nat) (p j : Nat) (h : 4 ≤ j) (h' : j < 16) : kc b p j = kc b p (j - 4) ^^^ b j := by
  unfold kc
  have n4 : ¬ j < 4 := by omega
  by_cases h8 : j < 8
  · have a : j - 4 < 4 := by omega
    simp only [n4, h8, a, if_true, if_false]
  · have a : ¬ j - 4 < 4 := by omega
    by_cases h12 : j < 12
    · have b : j - 4 < 8 := by omega
      have e : j - 4 - 4 = j - 8 := by omega
      simp only [n4, h8, h12, a, b, e, if_true, if_false]
    · have b : ¬ j - 4 < 8 := by omega
      have c : j - 4 < 12 := by omega
      have e : j - 4 - 4 = j - 8 := by omega
      have f : j - 4 - 8 = j - 12 := by omega
      simp only [n4, h8, h12, h', a, b, c, e, f, if_true, if_false]
/-- The state after i rounds. -/
def st (key block : Nat → Nat) : Nat → Nat → Nat
  | 0 => xor block (ks key 0)
  | i + 1 => round (st key block i) (ks key (i + 1)) (i + 1 == 10)
def enc (key block : Nat → Nat) : Nat → Nat := st key block 10
theorem st_b8 {key block : Nat → Nat} (hk : B8 key) (hb : B8 block) : ∀ i, B8 (st key block i)
  | 0 => xor_b8 hb (ks_b8 hk 0)
  | i + 1 => round_b8 (st_b8 hk hb i) (ks_b8 hk (i + 1)) _
theorem enc_b8 {key block : Nat → Nat} (hk : B8 key) (hb : B8 block) : B8 (enc key block) := st_b8 hk hb 10
/-- The state with i rounds still to be undone. -/
def un (key block : Nat → Nat) : Nat → Nat → Nat
  | 0 => block
  | k + 1 => unround (un key block k) (ks key (10 - k)) (10 - k == 10)
def dec (key block : Nat → Nat) : Nat → Nat := xor (un key block 10) (ks key 0)
theorem un_b8 {key block : Nat → Nat} (hk : B8 key) (hb : B8 block) : ∀ i, B8 (un key block i)
  | 0 => hb
  | i + 1 => unround_b8 (un_b8 hk hb i) (ks_b8 hk _) _
theorem dec_b8 {key block : Nat → Nat} (hk : B8 key) (hb : B8 block) : B8 (dec key block) := xor_b8 (un_b8 hk hb 10) (ks_b8 hk 0)

/-! ### equal on the first sixteen -/
def Eq16 (f g : Nat → Nat) : Prop := ∀ i, i < 16 → f i = g i
theorem sr_congr {f g : Nat → Nat} (h : Eq16 f g) : Eq16 (sr f) (sr g) := fun i hi => by unfold sr; rw [h _ (by omega)]
theorem mx_congr {n f g : Nat → Nat} (h : Eq16 f g) : Eq16 (mx n f) (mx n g) := fun i hi => by
  unfold mx
  simp only [dotP]
  rw [h _ (by omega), h _ (by omega), h _ (by omega), h _ (by omega)]
theorem xor_congr {f g k k' : Nat → Nat} (h : Eq16 f g) (h' : Eq16 k k') : Eq16 (xor f k) (xor g k') := fun i hi => by unfold xor; rw [h i hi, h' i hi]
theorem round_congr {f g k k' : Nat → Nat} (h : Eq16 f g) (h' : Eq16 k k') (last : Bool) : Eq16 (round f k last) (round g k' last) := fun i hi => by
  unfold round
  rw [h' i hi]
  cases last
  · simp only [Bool.false_eq_true, if_false]; rw [mx_congr (sr_congr h) i hi]
  · simp only [if_true]; rw [sr_congr h i hi]
theorem usr_congr {f g : Nat → Nat} (h : Eq16 f g) : Eq16 (usr f) (usr g) := fun i hi => by unfold usr; rw [h _ (by omega)]
theorem unround_congr {f g k k' : Nat → Nat} (h : Eq16 f g) (h' : Eq16 k k') (last : Bool) : Eq16 (unround f k last) (unround g k' last) := by
  unfold unround
  cases last
  · simp only [Bool.false_eq_true, if_false]; exact usr_congr (mx_congr (xor_congr h h'))
  · simp only [if_true]; exact usr_congr (xor_congr h h')

/-! ### the inverse -/
theorem four (r : Nat) : r % 4 = 0 ∨ r % 4 = 1 ∨ r % 4 = 2 ∨ r % 4 = 3 := by omega
theorem usr_sr {b : Nat → Nat} (hb : B8 b) : Eq16 (usr (sr b)) b := fun i hi => by
  unfold usr sr
  rw [Fld.usb_sb _ (hb _)]
  congr 1
  omega
theorem sr_usr {b : Nat → Nat} (hb : B8 b) : Eq16 (sr (usr b)) b := fun i hi => by
  unfold usr sr
  rw [Fld.sb_usb _ (hb _)]
  congr 1
  omega
theorem gm_2 : ∀ a, a < 256 → Fld.gm a 2 = Fld.xt a := by
  have h : ((List.range 256).all fun a => Fld.gm a 2 == Fld.xt a) = true := by decide +kernel
  intro a ha
  simpa using List.all_eq_true.1 h a (by simpa using ha)
theorem gm_3 (a : Nat) (ha : a < 256) : Fld.gm a 3 = Fld.xt a ^^^ a := by
  rw [show 3 = 2 ^^^ 1 by rfl, Fld.gm_right a 2 1 ha, gm_2 a ha, Fld.gm_one a ha]
theorem lin4 (a b c d x y : Nat) (ha : a < 256) (hb : b < 256) (hc : c < 256) (hd : d < 256) (p q r s : Nat) (hp : p < 256) (hq : q < 256) (hr : r < 256) (hs : s < 256) (hx : x < 256) :
    Fld.gm (((Fld.gm a p ^^^ Fld.gm b q) ^^^ Fld.gm c r) ^^^ Fld.gm d s) x = ((Fld.gm a (Fld.gm p x) ^^^ Fld.gm b (Fld.gm q x)) ^^^ Fld.gm c (Fld.gm r x)) ^^^ Fld.gm d (Fld.gm s x) := by
  have l := fun u v (hu : u < 256) => Fld.gm_lt u v hu
  have x2 := fun u v hu hv => Fld.xor_lt u v hu hv
  rw [Fld.gm_left _ _ x (x2 _ _ (x2 _ _ (l a p ha) (l b q hb)) (l c r hc)) (l d s hd), Fld.gm_left _ _ x (x2 _ _ (l a p ha) (l b q hb)) (l c r hc), Fld.gm_left _ _ x (l a p ha) (l b q hb),
    Fld.gm_assoc a p x ha hp hx, Fld.gm_assoc b q x hb hq hx, Fld.gm_assoc c r x hc hr hx, Fld.gm_assoc d s x hd hs hx]
theorem xor_swap16 (a0 a1 a2 a3 b0 b1 b2 b3 c0 c1 c2 c3 d0 d1 d2 d3 : Nat) :
    ((((((a0 ^^^ a1) ^^^ a2) ^^^ a3) ^^^ (((b1 ^^^ b2) ^^^ b3) ^^^ b0)) ^^^ (((c2 ^^^ c3) ^^^ c0) ^^^ c1)) ^^^ (((d3 ^^^ d0) ^^^ d1) ^^^ d2)) =
      ((((a0 ^^^ b0) ^^^ c0) ^^^ d0) ^^^ (((a1 ^^^ b1) ^^^ c1) ^^^ d1)) ^^^ ((((a2 ^^^ b2) ^^^ c2) ^^^ d2) ^^^ (((a3 ^^^ b3) ^^^ c3) ^^^ d3)) := by
  ac_rfl
/-- Two mixtures behind each other whose numbers undo each other. -/
theorem unmix (n m : Nat → Nat) (hn : B8 n) (hm : B8 m) (a : Nat → Nat) (ha : B8 a)
    (e0 : ((Fld.gm (n 0) (m 0) ^^^ Fld.gm (n 3) (m 1)) ^^^ Fld.gm (n 2) (m 2)) ^^^ Fld.gm (n 1) (m 3) = 1)
    (e1 : ((Fld.gm (n 1) (m 0) ^^^ Fld.gm (n 0) (m 1)) ^^^ Fld.gm (n 3) (m 2)) ^^^ Fld.gm (n 2) (m 3) = 0)
    (e2 : ((Fld.gm (n 2) (m 0) ^^^ Fld.gm (n 1) (m 1)) ^^^ Fld.gm (n 0) (m 2)) ^^^ Fld.gm (n 3) (m 3) = 0)
    (e3 : ((Fld.gm (n 3) (m 0) ^^^ Fld.gm (n 2) (m 1)) ^^^ Fld.gm (n 1) (m 2)) ^^^ Fld.gm (n 0) (m 3) = 0) : Eq16 (mx m (mx n a)) a := fun i hi => by
  have key : ∀ x0 x1 x2 x3 : Nat, x0 < 256 → x1 < 256 → x2 < 256 → x3 < 256 →
      ((Fld.gm (((Fld.gm x0 (n 0) ^^^ Fld.gm x1 (n 1)) ^^^ Fld.gm x2 (n 2)) ^^^ Fld.gm x3 (n 3)) (m 0) ^^^ Fld.gm (((Fld.gm x1 (n 0) ^^^ Fld.gm x2 (n 1)) ^^^ Fld.gm x3 (n 2)) ^^^ Fld.gm x0 (n 3)) (m 1)) ^^^
        Fld.gm (((Fld.gm x2 (n 0) ^^^ Fld.gm x3 (n 1)) ^^^ Fld.gm x0 (n 2)) ^^^ Fld.gm x1 (n 3)) (m 2)) ^^^ Fld.gm (((Fld.gm x3 (n 0) ^^^ Fld.gm x0 (n 1)) ^^^ Fld.gm x1 (n 2)) ^^^ Fld.gm x2 (n 3)) (m 3) = x0 := by
    intro x0 x1 x2 x3 h0 h1 h2 h3
    rw [lin4 x0 x1 x2 x3 (m 0) 0 h0 h1 h2 h3 _ _ _ _ (hn 0) (hn 1) (hn 2) (hn 3) (hm 0), lin4 x1 x2 x3 x0 (m 1) 0 h1 h2 h3 h0 _ _ _ _ (hn 0) (hn 1) (hn 2) (hn 3) (hm 1),
      lin4 x2 x3 x0 x1 (m 2) 0 h2 h3 h0 h1 _ _ _ _ (hn 0) (hn 1) (hn 2) (hn 3) (hm 2), lin4 x3 x0 x1 x2 (m 3) 0 h3 h0 h1 h2 _ _ _ _ (hn 0) (hn 1) (hn 2) (hn 3) (hm 3), xor_swap16]
    rw [← Fld.gm_right x0 _ _ h0, ← Fld.gm_right x0 _ _ h0, ← Fld.gm_right x0 _ _ h0, ← Fld.gm_right x1 _ _ h1, ← Fld.gm_right x1 _ _ h1, ← Fld.gm_right x1 _ _ h1,
      ← Fld.gm_right x2 _ _ h2, ← Fld.gm_right x2 _ _ h2, ← Fld.gm_right x2 _ _ h2, ← Fld.gm_right x3 _ _ h3, ← Fld.gm_right x3 _ _ h3, ← Fld.gm_right x3 _ _ h3, e0, e1, e2, e3]
    rw [Fld.gm_one x0 h0, Fld.gm_zero, Fld.gm_zero, Fld.gm_zero]
    simp
  have hc : ∀ k, i / 4 < 4 → k < 4 → (k + 4 * (i / 4)) % 4 = k ∧ (k + 4 * (i / 4)) / 4 = i / 4 := fun k _ hk => ⟨by omega, by omega⟩
  unfold mx
  simp only [dotP, Nat.zero_xor]
  have q : i / 4 < 4 := by omega
  have i0 : i = i % 4 + 4 * (i / 4) := by omega
  rcases four i with e | e | e | e
  all_goals
    rw [e]
    rw [e] at i0
    simp only [Nat.add_zero, Nat.reduceAdd, Nat.reduceMod]
    obtain ⟨m0, d0⟩ := hc 0 q (by omega)
    obtain ⟨m1, d1⟩ := hc 1 q (by omega)
    obtain ⟨m2, d2⟩ := hc 2 q (by omega)
    obtain ⟨m3, d3⟩ := hc 3 q (by omega)
    simp only [m0, m1, m2, m3, d0, d1, d2, d3, Nat.reduceAdd, Nat.reduceMod]
    rw [key _ _ _ _ (ha _) (ha _) (ha _) (ha _)]
    rw [← i0]
end Aes
end Go.Proofs.Ytibgmoapkionjaa
