/- Layers 12 and 13: what the laws' awake leans on, in numbers: a sealed string under another key. -/
import Derived.Test.YtnhchdkchohnbaaGreatDoorTP1
import Derived.Test.YtnhchdkchohnbaaGreatDoorTN5
namespace Go.Proofs.YtnhchdkchohnbaaGreatDoor
open Go.RowKit Go.Deep
namespace Sea
theorem op_other (k1 k2 : Nat → Nat) (u : Nat) (nonce : Nat → Nat) (l : List Nat) (h : Mac.hm (mk k1) (u :: front k1 nonce l) 0 ≠ Mac.hm (mk k2) (u :: front k1 nonce l) 0) : op k2 u (sld k1 u nonce l) = none := by
  have hl := seal_length k1 u nonce l
  have hf := fr_seal k1 u nonce l
  unfold op
  rw [if_neg (by rw [hl]; omega), hf]
  rw [if_neg]
  intro hok
  unfold Mac.ok at hok
  simp only [Bool.and_eq_true] at hok
  have h2 := sameB_eq.1 hok.2
  have hd : (sld k1 u nonce l).drop ((sld k1 u nonce l).length - 16) = code k1 u (front k1 nonce l) := by
    rw [hl]
    unfold sld
    rw [List.drop_append_of_le_length (by rw [front_length]; omega), List.drop_eq_nil_of_le (by rw [front_length]; omega)]; rfl
  rw [hd] at h2
  have hcl : (code k1 u (front k1 nonce l)).length = 16 := nl_length _ _
  rw [hcl] at h2
  have h3 : (code k1 u (front k1 nonce l)).getD 0 0 = ((List.range 16).map (Mac.hm (mk k2) (u :: front k1 nonce l))).getD 0 0 := congrArg (fun z : List Nat => z.getD 0 0) h2
  have e1 : (code k1 u (front k1 nonce l)).getD 0 0 = Mac.hm (mk k1) (u :: front k1 nonce l) 0 := by
    unfold code
    rw [nl_get _ _ _ (by omega)]
  rw [e1, Ctr.getD_range _ _ _ (by omega)] at h3
  exact h h3
def hd (x : Nat) (i : Nat) : Nat := if i = 0 then x else 0
theorem hd_b8 {x : Nat} (h : x < 256) : Aes.B8 (hd x) := fun i => by unfold hd; split <;> omega
def eA : List Nat := [75, 102, 228, 188, 106, 243, 224, 237, 217, 58, 225, 254, 183, 44, 121, 222]
def m1A : List Nat := [176, 47, 65, 155, 208, 1, 153, 117, 145, 29, 78, 205, 214, 92, 170, 186, 158, 62, 98, 144, 162, 75, 197, 232, 76, 52, 147, 175, 47, 194, 139, 249]
def m2A : List Nat := [10, 91, 195, 156, 88, 88, 117, 175, 235, 99, 219, 88, 132, 189, 194, 77, 236, 14, 108, 151, 122, 194, 255, 161, 29, 86, 57, 143, 62, 63, 198, 82]
theorem mk_dig (key : Nat → Nat) : mk key = (List.range 32).map (Sha.out (Mac.hmR (nl 16 key) (1 :: lb proS))) := by
  rw [← Mac.hm_eq]
  unfold mk Mac.dn
  show ((Mac.dv (nl 16 key) (lb proS) 0 ++ Mac.bk (nl 16 key) (lb proS) 1)).take 32 = _
  rw [show Mac.dv (nl 16 key) (lb proS) 0 = [] from rfl, List.nil_append]
  exact List.take_of_length_le (by rw [Mac.bk_length]; omega)
theorem ek_dig (key : Nat → Nat) : Mac.dn (nl 16 key) (lb encS) 16 = ((List.range 32).map (Sha.out (Mac.hmR (nl 16 key) (1 :: lb encS)))).take 16 := by
  rw [← Mac.hm_eq]
  rfl
set_option maxRecDepth 100000 in
theorem m1A_eq : mk (hd 1) = m1A := by rw [mk_dig]; decide +kernel
set_option maxRecDepth 100000 in
theorem m2A_eq : mk (hd 2) = m2A := by rw [mk_dig]; decide +kernel
set_option maxRecDepth 100000 in
theorem eA_dn : Mac.dn (nl 16 (hd 1)) (lb encS) 16 = eA := by rw [ek_dig]; decide +kernel
theorem eA_eq : ek (hd 1) = Aes.of eA := by
  funext i
  show (Mac.dn (nl 16 (hd 1)) (lb encS) 16).getD i 0 = _
  rw [eA_dn]; rfl
def stA : List Nat := [253, 190, 229, 189, 138, 120, 202, 238, 136, 10, 19, 86, 249, 140, 139, 199, 185, 67, 213, 146, 176, 87, 79, 156, 142, 187, 50, 102, 122, 125, 175, 22, 127, 28, 139, 235, 72, 101, 45, 205, 239, 212, 131, 209, 12, 82, 191, 205]
set_option maxRecDepth 100000 in
theorem stA_ok : ((List.range 16).all fun k => (Aes.of (Aes.encR (Aes.of eA) (Ctr.blk (hd 2) 0)) k == stA.getD k 0) && (Aes.of (Aes.encR (Aes.of eA) (Ctr.blk (hd 2) 1)) k == stA.getD (16 + k) 0) && (Aes.of (Aes.encR (Aes.of eA) (Ctr.blk (hd 2) 2)) k == stA.getD (32 + k) 0)) = true := by decide +kernel
theorem stA_byte (p : Nat) (hp : p < 48) : Ctr.byte (Aes.of eA) (hd 2) p = stA.getD p 0 := by
  have h := (List.all_eq_true.1 stA_ok) (p % 16) (List.mem_range.2 (Nat.mod_lt _ (by omega)))
  simp only [Bool.and_eq_true, beq_iff_eq] at h
  unfold Ctr.byte Ctr.bk
  rw [← Aes.encR_eq _ _ (p % 16) (Nat.mod_lt _ (by omega))]
  have hc : p / 16 = 0 ∨ p / 16 = 1 ∨ p / 16 = 2 := by omega
  rcases hc with hc | hc | hc
  · rw [hc, h.1.1]; congr 1; omega
  · rw [hc, h.1.2]; congr 1; omega
  · rw [hc, h.2]; congr 1; omega
theorem front_lit (l f : List Nat) (hl : l.length ≤ 48) (h : nl 8 (hd 2) ++ (List.range l.length).map (fun i => l.getD i 0 ^^^ stA.getD i 0) = f) : front (hd 1) (hd 2) l = f := by
  rw [← h]
  unfold front Ctr.crypt
  rw [eA_eq]
  congr 1
  refine List.map_congr_left fun i hi => ?_
  have := List.mem_range.1 hi
  rw [Nat.zero_add, stA_byte i (by omega)]
end Sea
def aliceS : ByteArray := ⟨#[97, 108, 105, 99, 101]⟩
def made4 : Nam.N := nm aliceS [hostS]
set_option maxRecDepth 100000 in
theorem made4_valid : Nam.valid made4 = true := by decide +kernel
def autA : Aut.A := ⟨made4, 5, 999999, 9⟩
def autL : List Nat := [2, 5, 97, 108, 105, 99, 101, 1, 4, 104, 111, 115, 116, 0, 0, 0, 0, 0, 0, 0, 5, 0, 15, 66, 63, 0, 0, 0, 9]
set_option maxRecDepth 100000 in
theorem autA_bytes : Aut.bytes autA = autL := by decide +kernel
def autF : List Nat := [2, 0, 0, 0, 0, 0, 0, 0, 255, 187, 132, 209, 227, 27, 175, 239, 140, 98, 124, 37, 141, 140, 139, 199, 185, 67, 213, 146, 181, 87, 64, 222, 177, 187, 50, 102, 115]
set_option maxRecDepth 100000 in
theorem autF_eq : Sea.front (Sea.hd 1) (Sea.hd 2) autL = autF := Sea.front_lit _ _ (by decide) (by decide +kernel)
set_option maxRecDepth 100000 in
theorem aut1 : Mac.hm Sea.m1A (11 :: autF) 0 = 90 := by rw [Mac.hm_eq]; decide +kernel
set_option maxRecDepth 100000 in
theorem aut2 : Mac.hm Sea.m2A (11 :: autF) 0 = 10 := by rw [Mac.hm_eq]; decide +kernel
theorem aut_other : Sea.op (Sea.hd 2) 11 (Sea.sld (Sea.hd 1) 11 (Sea.hd 2) (Aut.bytes autA)) = none := by
  rw [autA_bytes]
  refine Sea.op_other _ _ _ _ _ ?_
  rw [autF_eq, Sea.m1A_eq, Sea.m2A_eq, aut1, aut2]
  decide
set_option maxRecDepth 100000 in
theorem autD : Sha.dig (Aut.bytes autA) 0 = 223 := by rw [autA_bytes, Sha.dig_eq]; decide +kernel
end Go.Proofs.YtnhchdkchohnbaaGreatDoor
