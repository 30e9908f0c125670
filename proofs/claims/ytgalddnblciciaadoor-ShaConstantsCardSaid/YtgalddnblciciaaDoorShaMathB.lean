import Derived.Test.YtgalddnblciciaaDoorShaMath
import Derived.Test.YtgalddnblciciaaDoorWireMath
/- Plain mathematics of the digest: blocks, padding, the digest; and the same for the kernel's reckoning. No program in sight. -/
namespace Sha
/-- To make a number a numeral before it is used (for the kernel's reckoning). -/
def frc {α : Type} (n : Nat) (f : Nat → α) : α := Nat.rec (f 0) (fun m _ => f (m + 1)) n
theorem frc_eq {α : Type} (n : Nat) (f : Nat → α) : frc n f = f n := by cases n <;> rfl
def tableL : List Nat := [0x428a2f98, 0x71374491, 0xb5c0fbcf, 0xe9b5dba5, 0x3956c25b, 0x59f111f1, 0x923f82a4, 0xab1c5ed5,
  0xd807aa98, 0x12835b01, 0x243185be, 0x550c7dc3, 0x72be5d74, 0x80deb1fe, 0x9bdc06a7, 0xc19bf174,
  0xe49b69c1, 0xefbe4786, 0x0fc19dc6, 0x240ca1cc, 0x2de92c6f, 0x4a7484aa, 0x5cb0a9dc, 0x76f988da,
  0x983e5152, 0xa831c66d, 0xb00327c8, 0xbf597fc7, 0xc6e00bf3, 0xd5a79147, 0x06ca6351, 0x14292967,
  0x27b70a85, 0x2e1b2138, 0x4d2c6dfc, 0x53380d13, 0x650a7354, 0x766a0abb, 0x81c2c92e, 0x92722c85,
  0xa2bfe8a1, 0xa81a664b, 0xc24b8b70, 0xc76c51a3, 0xd192e819, 0xd6990624, 0xf40e3585, 0x106aa070,
  0x19a4c116, 0x1e376c08, 0x2748774c, 0x34b0bcb5, 0x391c0cb3, 0x4ed8aa4a, 0x5b9cca4f, 0x682e6ff3,
  0x748f82ee, 0x78a5636f, 0x84c87814, 0x8cc70208, 0x90befffa, 0xa4506ceb, 0xbef9a3f7, 0xc67178f2]
def tab (i : Nat) : Nat := tableL.getD i 0
def St.at (x : St) (i : Nat) : Nat := if i = 0 then x.a else if i = 1 then x.b else if i = 2 then x.c else if i = 3 then x.d else if i = 4 then x.e else if i = 5 then x.f else if i = 6 then x.g else x.h
def start : St := ⟨0x6a09e667, 0xbb67ae85, 0x3c6ef372, 0xa54ff53a, 0x510e527f, 0x9b05688c, 0x1f83d9ab, 0x5be0cd19⟩
def wd (b : Nat → Nat) (i : Nat) : Nat := (words b).getD i 0
/-- The state of the rounds of a block. -/
def rd (K : Nat → Nat) (s : St) (b : Nat → Nat) : Nat → St
  | 0 => s
  | k + 1 => round (rd K s b k) (K k) (wd b k)
def plus (s t : St) : St := ⟨(s.a + t.a) % 4294967296, (s.b + t.b) % 4294967296, (s.c + t.c) % 4294967296, (s.d + t.d) % 4294967296, (s.e + t.e) % 4294967296, (s.f + t.f) % 4294967296, (s.g + t.g) % 4294967296, (s.h + t.h) % 4294967296⟩
/-- The state after a block. -/
def blk (K : Nat → Nat) (s : St) (b : Nat → Nat) : St := plus s (rd K s b 64)
/-- The padding of n bytes. -/
def pad (n : Nat) : List Nat := 128 :: (List.replicate ((119 - n % 64) % 64) 0 ++ Wir.enc 8 (8 * n))
/-- The block j of the bytes l. -/
def bl (l : List Nat) (j i : Nat) : Nat := l.getD (64 * j + i) 0
/-- The state after j blocks of the bytes l. -/
def run (K : Nat → Nat) (l : List Nat) : Nat → St
  | 0 => start
  | j + 1 => blk K (run K l j) (bl l j)
/-- The bytes of a state. -/
def out (s : St) (i : Nat) : Nat := s.at (i / 4) / 2 ^ (24 - 8 * (i % 4)) % 256
def digK (K : Nat → Nat) (l : List Nat) : Nat → Nat := out (run K (l ++ pad l.length) ((l ++ pad l.length).length / 64))
/-- The digest of the bytes l. -/
def dig (l : List Nat) : Nat → Nat := digK tab l

/-! ### the same, for the kernel's reckoning -/
def nextR (r : List Nat) : Nat := (r.getD 15 0 + s0 (r.getD 14 0) + r.getD 6 0 + s1 (r.getD 1 0)) % 4294967296
def extR : Nat → List Nat → List Nat
  | 0, r => r
  | k + 1, r => frc (nextR r) fun x => extR k (x :: r)
theorem nextR_eq (l : List Nat) (m : Nat) (h : l.length = m + 16) : nextR l.reverse = nextw l m := by
  unfold nextR nextw
  have e : ∀ i j, i + j = m + 15 → l.reverse.getD i 0 = l.getD j 0 := by
    intro i j hij
    rw [List.getD, List.getD, List.getElem?_reverse (by omega)]
    congr 2
    omega
  rw [e 15 m (by omega), e 14 (m + 1) (by omega), e 6 (m + 9) (by omega), e 1 (m + 14) (by omega)]
theorem extR_eq (b : Nat → Nat) (k m : Nat) : extR k (ext b m).reverse = (ext b (m + k)).reverse := by
  induction k generalizing m with
  | zero => rfl
  | succ k ih =>
    unfold extR
    rw [frc_eq, nextR_eq _ m (by rw [ext_length]; omega)]
    have : nextw (ext b m) m :: (ext b m).reverse = (ext b (m + 1)).reverse := by show _ = (ext b m ++ [_]).reverse; simp
    rw [this, ih (m + 1)]
    congr 2; omega
def frcL : List Nat → List Nat → List Nat
  | [], r => r
  | x :: l, r => frc x fun y => frcL l (y :: r)
theorem frcL_eq (l r : List Nat) : frcL l r = l.reverse ++ r := by
  induction l generalizing r with
  | nil => rfl
  | cons x l ih => unfold frcL; rw [frc_eq, ih]; simp
/-- The words of a block, the last one first. -/
def wordsR (b : Nat → Nat) : List Nat := extR 48 (frcL (first b 16) [])
theorem wordsR_eq (b : Nat → Nat) : wordsR b = (words b).reverse := by
  unfold wordsR
  rw [frcL_eq, List.append_nil]
  exact extR_eq b 48 0
def rdR : List Nat → List Nat → St → St
  | k :: ks, w :: ws, s => frc (t1 s k w) fun t => frc ((t + t2 s) % 4294967296) fun x => frc ((s.d + t) % 4294967296) fun y => rdR ks ws ⟨x, s.a, s.b, s.c, y, s.e, s.f, s.g⟩
  | _, _, s => s
theorem rdR_eq (K : Nat → Nat) (b : Nat → Nat) (s : St) (n : Nat) : ∀ k, rdR ((List.range' k n).map K) ((List.range' k n).map (wd b)) (rd K s b k) = rd K s b (k + n) := by
  induction n with
  | zero => intro k; rfl
  | succ n ih =>
    intro k
    show rdR (K k :: (List.range' (k + 1) n).map K) (wd b k :: (List.range' (k + 1) n).map (wd b)) (rd K s b k) = _
    unfold rdR
    rw [frc_eq, frc_eq, frc_eq]
    have := ih (k + 1)
    rw [show k + 1 + n = k + (n + 1) by omega] at this
    exact this
theorem words_length (b : Nat → Nat) : (words b).length = 64 := ext_length b 48
theorem map_wd (b : Nat → Nat) : (List.range' 0 64).map (wd b) = words b := by
  apply List.ext_getElem?
  intro i
  by_cases hi : i < 64
  · have h2 : i < (words b).length := by rw [words_length]; exact hi
    rw [List.getElem?_map, List.getElem?_range' (by simpa using hi)]
    simp [wd, List.getD, List.getElem?_eq_getElem h2]
  · rw [List.getElem?_eq_none (by simp; omega), List.getElem?_eq_none (by rw [words_length]; omega)]
theorem map_tab : (List.range' 0 64).map tab = tableL := by decide +kernel
def frcS {α : Type} (s : St) (f : St → α) : α := frc s.a fun a => frc s.b fun b => frc s.c fun c => frc s.d fun d => frc s.e fun e => frc s.f fun f' => frc s.g fun g => frc s.h fun h => f ⟨a, b, c, d, e, f', g, h⟩
theorem frcS_eq {α : Type} (s : St) (f : St → α) : frcS s f = f s := by unfold frcS; simp only [frc_eq]
def blkR (s : St) (b : Nat → Nat) : St := frcS (plus s (rdR tableL (wordsR b).reverse s)) id
theorem blkR_eq (s : St) (b : Nat → Nat) : blkR s b = blk tab s b := by
  unfold blkR blk
  rw [frcS_eq, wordsR_eq, List.reverse_reverse, ← map_tab, ← map_wd]
  have := rdR_eq tab b s 64 0
  rw [Nat.zero_add] at this
  rw [show s = rd tab s b 0 from rfl, this]
  rfl
/-- n blocks of the bytes l, from the state s. -/
def runR : Nat → List Nat → St → St
  | 0, _, s => s
  | n + 1, l, s => frcS (blkR s fun i => l.getD i 0) fun t => runR n (l.drop 64) t
theorem runR_eq (l : List Nat) (n : Nat) : ∀ j, runR n (l.drop (64 * j)) (run tab l j) = run tab l (j + n) := by
  induction n with
  | zero => intro j; rfl
  | succ n ih =>
    intro j
    unfold runR
    rw [frcS_eq, blkR_eq, List.drop_drop]
    have e : (fun i => (l.drop (64 * j)).getD i 0) = bl l j := by
      funext i; simp [bl, List.getD, List.getElem?_drop]
    rw [e]
    have := ih (j + 1)
    rw [show 64 * (j + 1) = 64 * j + 64 by omega, show j + 1 + n = j + (n + 1) by omega] at this
    exact this
def digR (l : List Nat) : St := runR ((l ++ pad l.length).length / 64) (frcL (l ++ pad l.length).reverse []) start
theorem dig_eq (l : List Nat) : dig l = out (digR l) := by
  unfold dig digK digR
  rw [frcL_eq, List.append_nil, List.reverse_reverse]
  have := runR_eq (l ++ pad l.length) ((l ++ pad l.length).length / 64) 0
  rw [Nat.mul_zero, List.drop_zero, Nat.zero_add] at this
  rw [← this]
  rfl

theorem enc_zeros (d j x : Nat) (h : x / 256 ^ j = 0) : Wir.enc (j + d) x = List.replicate d 0 ++ Wir.enc j x := by
  induction d with
  | zero => rfl
  | succ d ih =>
    rw [← Nat.add_assoc, Wir.enc_cons, ih, List.replicate_succ, Nat.pow_add, ← Nat.div_div_eq_div_mul, h]
    simp
theorem pad_step (z j x : Nat) (h : j < 8) : (128 :: (List.replicate (z + 8 - j) 0 ++ Wir.enc j x)).set (z + 8 - j) (x / 256 ^ j % 256) = 128 :: (List.replicate (z + 8 - (j + 1)) 0 ++ Wir.enc (j + 1) x) := by
  have := Wir.enc_step (z + 8) j x (by omega)
  rw [show z + 8 - j = (z + 8 - j - 1) + 1 by omega, List.set_cons_succ, show z + 8 - j - 1 + 1 = z + 8 - j by omega, this]
theorem pad_done (z j x : Nat) (hj : j ≤ 8) (h : x / 256 ^ j = 0) : (128 :: (List.replicate (z + 8 - j) 0 ++ Wir.enc j x)) = 128 :: (List.replicate z 0 ++ Wir.enc 8 x) := by
  have := enc_zeros (8 - j) j x h
  rw [show j + (8 - j) = 8 by omega] at this
  rw [this, ← List.append_assoc, List.replicate_append_replicate, show z + (8 - j) = z + 8 - j by omega]
theorem pad_length (n : Nat) : (pad n).length = 9 + (119 - n % 64) % 64 := by
  unfold pad
  rw [List.length_cons, List.length_append, List.length_replicate, Wir.enc_length]
  omega
theorem pad_whole (n : Nat) : (n + (pad n).length) % 64 = 0 := by rw [pad_length]; omega
end Sha
