/- Layer 9: what the laws' awake leans on, in numbers; a changed code. -/
import Derived.Test.YtpbcpdocnjnfiaaDoorSealF
namespace Go.Proofs.YtpbcpdocnjnfiaaDoor
open Go.RowKit Go.Deep

/-- The code, for the kernel to reckon. -/
def Mac.hmR (key msg : List Nat) : Sha.St := Sha.frcS (Sha.digR (Mac.fr (Mac.p0 key) 54 ++ msg)) fun s => Sha.digR (Mac.fr (Mac.p0 key) 92 ++ (List.range 32).map (Sha.out s))
theorem Mac.hm_eq (key msg : List Nat) : Mac.hm key msg = Sha.out (Mac.hmR key msg) := by
  unfold Mac.hmR Mac.hm
  rw [Sha.frcS_eq, Sha.dig_eq, Mac.dl, Sha.dig_eq]
namespace Sea
def key7 (i : Nat) : Nat := if i = 0 then 7 else 0
def non1 (i : Nat) : Nat := if i = 0 then 1 else 0
theorem key7_b8 : Aes.B8 key7 := fun i => by unfold key7; split <;> omega
theorem non1_b8 : Aes.B8 non1 := fun i => by unfold non1; split <;> omega
theorem key7_lit : (#[.int .u8 7, .int .u8 0, .int .u8 0, .int .u8 0, .int .u8 0, .int .u8 0, .int .u8 0, .int .u8 0, .int .u8 0, .int .u8 0, .int .u8 0, .int .u8 0, .int .u8 0, .int .u8 0, .int .u8 0, .int .u8 0] : Array Value) = arr .u8 16 key7 := arr_of_get .u8 16 _ _ rfl (fun i hi => by
  obtain rfl | rfl | rfl | rfl | rfl | rfl | rfl | rfl | rfl | rfl | rfl | rfl | rfl | rfl | rfl | rfl : i = 0 ∨ i = 1 ∨ i = 2 ∨ i = 3 ∨ i = 4 ∨ i = 5 ∨ i = 6 ∨ i = 7 ∨ i = 8 ∨ i = 9 ∨ i = 10 ∨ i = 11 ∨ i = 12 ∨ i = 13 ∨ i = 14 ∨ i = 15 := by omega
  all_goals rfl)
theorem non1_lit : (#[.int .u8 1, .int .u8 0, .int .u8 0, .int .u8 0, .int .u8 0, .int .u8 0, .int .u8 0, .int .u8 0] : Array Value) = arr .u8 8 non1 := arr_of_get .u8 8 _ _ rfl (fun i hi => by
  obtain rfl | rfl | rfl | rfl | rfl | rfl | rfl | rfl : i = 0 ∨ i = 1 ∨ i = 2 ∨ i = 3 ∨ i = 4 ∨ i = 5 ∨ i = 6 ∨ i = 7 := by omega
  all_goals rfl)
def mk7 : List Nat := [200, 143, 206, 79, 77, 212, 163, 250, 24, 116, 217, 34, 5, 106, 138, 215, 167, 255, 15, 101, 245, 114, 254, 143, 112, 169, 13, 238, 191, 51, 174, 179]
set_option maxRecDepth 100000 in
theorem mk7_eq : mk key7 = mk7 := by
  have e : mk key7 = (List.range 32).map (Mac.hm (nl 16 key7) (1 :: lb proS)) := by
    unfold mk Mac.dn
    show ((Mac.dv (nl 16 key7) (lb proS) 0 ++ Mac.bk (nl 16 key7) (lb proS) 1)).take 32 = _
    rw [show Mac.dv (nl 16 key7) (lb proS) 0 = [] from rfl, List.nil_append]
    exact List.take_of_length_le (by rw [Mac.bk_length]; omega)
  rw [e, Mac.hm_eq]
  decide +kernel
theorem front_nil (key nonce : Nat → Nat) : front key nonce [] = nl 8 nonce := by unfold front Ctr.crypt; simp
set_option maxRecDepth 100000 in
theorem hm3 : Mac.hm mk7 (3 :: nl 8 non1) 0 = 42 := by rw [Mac.hm_eq]; decide +kernel
set_option maxRecDepth 100000 in
theorem hm4 : Mac.hm mk7 (4 :: nl 8 non1) 0 = 105 := by rw [Mac.hm_eq]; decide +kernel
/-- A changed byte of the code. -/
theorem op_changed (key : Nat → Nat) (u : Nat) (nonce : Nat → Nat) (l : List Nat) (i x : Nat) (hi : i < (sld key u nonce l).length) (hc : (sld key u nonce l).length - 16 ≤ i) (hx : x ≠ (sld key u nonce l).getD i 0) :
    op key u ((sld key u nonce l).set i x) = none := by
  cases h : op key u ((sld key u nonce l).set i x) with
  | none => rfl
  | some m =>
    exfalso
    have hl := seal_length key u nonce l
    have h1 := op_ref key u ((sld key u nonce l).set i x)
    rw [h] at h1
    unfold refOp at h1
    have hfr : fr ((sld key u nonce l).set i x) = fr (sld key u nonce l) := by
      unfold fr
      rw [List.length_set, List.take_set_of_le (by omega)]
    have hnon : ∀ j, j < 8 → non ((sld key u nonce l).set i x) j = nonce j := fun j hj => by
      rw [← non_seal key u nonce l j hj]
      unfold non
      simp only [List.getD]
      rw [List.getElem?_set_ne (by omega)]
    rw [if_neg (by rw [List.length_set]; omega), hfr, fr_seal] at h1
    have hd : (front key nonce l).drop 8 = Ctr.crypt (ek key) nonce 0 l := by
      unfold front
      rw [List.drop_append_of_le_length (by rw [nl_length]; omega), List.drop_eq_nil_of_le (by rw [nl_length]; omega)]; rfl
    rw [hd, crypt_nonce _ _ nonce hnon, Ctr.crypt_crypt] at h1
    have hs : sld key u (non ((sld key u nonce l).set i x)) l = sld key u nonce l := by
      have hf : front key (non ((sld key u nonce l).set i x)) l = front key nonce l := by
        unfold front; rw [nl_congr hnon, crypt_nonce _ _ nonce hnon]
      show front key (non ((sld key u nonce l).set i x)) l ++ code key u (front key (non ((sld key u nonce l).set i x)) l) = front key nonce l ++ code key u (front key nonce l)
      rw [hf]
    rw [hs] at h1
    split at h1
    · rename_i he
      have := congrArg (fun z : List Nat => z.getD i 0) he
      simp only [List.getD] at this hx
      rw [List.getElem?_set_self hi] at this
      exact hx this.symm
    · cases h1
end Sea
theorem awake_no : Sea.op Sea.key7 4 (Sea.sld Sea.key7 3 Sea.non1 []) = none := by
  have hl := Sea.seal_length Sea.key7 3 Sea.non1 []
  have hf := Sea.fr_seal Sea.key7 3 Sea.non1 []
  unfold Sea.op
  rw [if_neg (by rw [hl]; simp), hf]
  rw [if_neg]
  intro hok
  unfold Mac.ok at hok
  simp only [Bool.and_eq_true] at hok
  have h2 := Sea.sameB_eq.1 hok.2
  have hd : (Sea.sld Sea.key7 3 Sea.non1 []).drop ((Sea.sld Sea.key7 3 Sea.non1 []).length - 16) = Sea.code Sea.key7 3 (Sea.front Sea.key7 Sea.non1 []) := by
    rw [hl]
    unfold Sea.sld
    rw [List.drop_append_of_le_length (by rw [Sea.front_length]; simp), List.drop_eq_nil_of_le (by rw [Sea.front_length]; simp)]; rfl
  rw [hd] at h2
  have hcl : (Sea.code Sea.key7 3 (Sea.front Sea.key7 Sea.non1 [])).length = 16 := Sea.nl_length _ _
  rw [hcl] at h2
  have h3 : (Sea.code Sea.key7 3 (Sea.front Sea.key7 Sea.non1 [])).getD 0 0 = ((List.range 16).map (Mac.hm (Sea.mk Sea.key7) (4 :: Sea.front Sea.key7 Sea.non1 []))).getD 0 0 := congrArg (fun z : List Nat => z.getD 0 0) h2
  have e1 : (Sea.code Sea.key7 3 (Sea.front Sea.key7 Sea.non1 [])).getD 0 0 = 42 := by
    unfold Sea.code
    rw [Sea.nl_get _ _ _ (by omega), Sea.mk7_eq, Sea.front_nil, Sea.hm3]
  have e2 : ((List.range 16).map (Mac.hm (Sea.mk Sea.key7) (4 :: Sea.front Sea.key7 Sea.non1 []))).getD 0 0 = 105 := by
    rw [Ctr.getD_range _ _ _ (by omega), Sea.mk7_eq, Sea.front_nil, Sea.hm4]
  rw [e1, e2] at h3
  exact absurd h3 (by decide)
end Go.Proofs.YtpbcpdocnjnfiaaDoor
