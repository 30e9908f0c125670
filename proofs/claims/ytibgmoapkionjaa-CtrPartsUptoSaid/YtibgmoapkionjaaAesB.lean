/- aes.mix and its closure: walked. -/
import Derived.Test.YtibgmoapkionjaaAesA
namespace Go.Proofs.Ytibgmoapkionjaa
open Go.RowKit Go.Deep

theorem info4 (f : Nat → Nat) : ((Try.prog).info? 62).map (·.size) = some (arr .u8 4 f).size := by rw [arr_size]; rfl
theorem arr4 (f : Nat → Nat) : arr .u8 4 f = #[.int .u8 ↑(f 0), .int .u8 ↑(f 1), .int .u8 ↑(f 2), .int .u8 ↑(f 3)] := by
  refine (arr_of_get .u8 4 f #[.int .u8 ↑(f 0), .int .u8 ↑(f 1), .int .u8 ↑(f 2), .int .u8 ↑(f 3)] rfl fun i hi => ?_).symm
  obtain rfl | rfl | rfl | rfl : i = 0 ∨ i = 1 ∨ i = 2 ∨ i = 3 := by omega
  all_goals rfl
theorem dot_arr (a b : Nat → Nat) (w : World) (ha : ∀ i, a i < 256) (hb : ∀ i, b i < 256) : Calls Try.prog 49 #[.agg (arr .u8 4 a), .agg (arr .u8 4 b)] w fun e w' => e = .returned (.int .u8 ↑(dotP a b 4)) ∧ Below w.heap.size w w' := by
  rw [arr4, arr4]; exact dot_any a b w ha hb
theorem dotP_congr {a b b' : Nat → Nat} (h : ∀ i, i < 4 → b i = b' i) : dotP a b 4 = dotP a b' 4 := by
  simp only [dotP]
  rw [h 0 (by omega), h 1 (by omega), h 2 (by omega), h 3 (by omega)]

/-- The first r bytes of column c have been mixed. -/
def colP (m x : Nat → Nat) (c r t : Nat) : Nat := if 4 * c ≤ t ∧ t < 4 * c + r then x t else m t
theorem colP_zero (m x : Nat → Nat) (c t : Nat) : colP m x c 0 t = m t := by unfold colP; rw [if_neg (by omega)]
theorem colP_next (m x : Nat → Nat) (c r t v : Nat) (hv : v = x (r + 4 * c)) : (if t = r + 4 * c then v else colP m x c r t) = colP m x c (r + 1) t := by
  unfold colP
  by_cases e : t = r + 4 * c
  · subst e; rw [if_pos rfl, if_pos (by omega), hv]
  · rw [if_neg e]
    by_cases e2 : 4 * c ≤ t ∧ t < 4 * c + r
    · rw [if_pos e2, if_pos (by omega)]
    · rw [if_neg e2, if_neg (by omega)]

set_option maxRecDepth 100000 in
set_option maxHeartbeats 2000000 in
theorem mixcol_any (n b m : Nat → Nat) (bp np mp c : Nat) (w : World) (hc : c < 4) (hn : Aes.B8 n) (hb : Aes.B8 b) (h1 : isArr w bp 22 .u8 16 b) (h2 : isArr w np 62 .u8 4 n) (h3 : isArr w mp 22 .u8 16 m) (d1 : bp ≠ mp) (d2 : np ≠ mp) :
    Calls Try.prog 48 #[.int .i64 c, .pointer (some ⟨bp, 0, none⟩), .pointer (some ⟨np, 0, none⟩), .pointer (some ⟨mp, 0, none⟩)] w fun e w' => e = .returned (.tuple #[]) ∧ isArr w' mp 22 .u8 16 (colP m (Aes.mx n b) c 4) ∧ w.grownBy w' (some mp) := by
  have HN := Lib.hid hn; clear hn
  have HB := Lib.hid hb; clear hb
  have H1 := Lib.hid h1
  have H2 := Lib.hid h2
  have H3 := Lib.hid h3
  have HD := Lib.hid (And.intro d1 d2)
  clear h1 h2 h3 d1 d2
  have lc : (c : Int) < 4 := by omega
  have nc : 0 ≤ (c : Int) := by omega
  go_enter Try.func48, Try.ntmps48
  go_wp2_with fail
  go_loopw [5, 6, 7, 8] (fun _ _ _ i wr => ∃ r : Nat, r ≤ 4 ∧ i = .int .i64 r ∧ isArr wr mp 22 .u8 16 (colP m (Aes.mx n b) c r) ∧ w.grownBy wr (some mp)) (fun _ _ _ i _ => 4 - (intOf i).toNat)
  case atStart => exact ⟨0, by omega, rfl, H3.out.congr fun t _ => (colP_zero _ _ _ _).symm, only_refl _ _⟩
  case round =>
    obtain ⟨r, hr, rfl, hm, hg⟩ := hrel
    by_cases hlt : r < 4
    · have hd : decide ((r : Int) < 4) = true := by simp; omega
      have HM := Lib.hid (And.intro hm hg)
      clear hm hg
      have lr : (r : Int) < 4 := by omega
      have nr : 0 ≤ (r : Int) := by omega
      obtain ⟨wo, rfl⟩ : ∃ wo : World, wo = wr := ⟨_, rfl⟩
      go_wp2_with fail
      go_loopw [7, 11] (fun _ i wr => ∃ k : Nat, k ≤ 4 ∧ i = .int .i64 k ∧ isArr wr wo.heap.size 62 .u8 4 (fun t => if t < k then b ((r + t) % 4 + 4 * c) else 0) ∧ Below wo.heap.size wo wr) (fun _ i _ => 4 - (intOf i).toNat)
      case atStart => exact ⟨0, by omega, rfl, isArr_lit _ _ _ _ _ _ (by first | rfl | simp) (fun i hi => by (obtain rfl | rfl | rfl | rfl : i = 0 ∨ i = 1 ∨ i = 2 ∨ i = 3 := by omega) <;> rfl), (Below.refl _ _).alloc (Nat.le_refl _) _⟩
      case round =>
        obtain ⟨k, hk, rfl, ha, hbl⟩ := hrel
        have hb0 : isArr wr bp 22 .u8 16 b := (H1.out.of_block (HM.out.2.block bp H1.out.lt (by rintro e; injection e with e; exact HD.out.1 e))).below hbl (Nat.lt_of_lt_of_le H1.out.lt HM.out.2.size)
        by_cases hlk : k < 4
        · have hdk : decide ((k : Int) < 4) = true := by simp; omega
          have cb := hb0.cell (i := (r + k) % 4 + 4 * c) (by omega)
          have ca := ha.cell (i := k) hlk
          have fa := ha.frozen k
          rw [if_neg (Nat.lt_irrefl _)] at ca
          have J := Lib.hid (show isArr (wr.setCell ⟨wo.heap.size, k, none⟩ (.int .u8 ((b ((r + k) % 4 + 4 * c) : Nat) : Int))) wo.heap.size 62 .u8 4 (fun t => if t < k + 1 then b ((r + t) % 4 + 4 * c) else 0) ∧ Below wo.heap.size wo (wr.setCell ⟨wo.heap.size, k, none⟩ (.int .u8 ((b ((r + k) % 4 + 4 * c) : Nat) : Int))) from ⟨(ha.set k _).congr fun t _ => by
            by_cases e : t = k
            · subst e; rw [if_pos rfl, if_pos (by omega)]
            · rw [if_neg e]
              by_cases e2 : t < k
              · rw [if_pos e2, if_pos (by omega)]
              · rw [if_neg e2, if_neg (by omega)], below_set hbl (Nat.le_refl _) _ _⟩)
          clear ha hbl hb0
          generalize b ((r + k) % 4 + 4 * c) = y at cb J
          have nk : 0 ≤ (k : Int) := by omega
          have lk : (k : Int) < 4 := by omega
          go_wp2_with fail
          go_roundw
          case rel => exact ⟨k + 1, by omega, by go_num, J.out.1, J.out.2⟩
          case measure => simp [intOf]; omega
        · obtain rfl : k = 4 := by omega
          have hd4 : decide (((4 : Nat) : Int) < 4) = false := by decide
          have hzo : wo.heap.size < wr.heap.size := ha.lt
          have hk2 : isArr wr np 62 .u8 4 n := (H2.out.of_block (HM.out.2.block np H2.out.lt (by rintro e; injection e with e; exact HD.out.2 e))).below hbl (Nat.lt_of_lt_of_le H2.out.lt HM.out.2.size)
          have hk3 : isArr wr wo.heap.size 62 .u8 4 (fun t => b ((r + t) % 4 + 4 * c)) := ha.congr fun t ht => if_pos ht
          have hk4 : isArr wr mp 22 .u8 16 (colP m (Aes.mx n b) c r) := HM.out.1.below hbl HM.out.1.lt
          have hgr : w.grownBy wr (some mp) := only_below HM.out.2 hbl
          have hv : dotP n (fun t => b ((r + t) % 4 + 4 * c)) 4 = Aes.mx n b (r + 4 * c) := by
            unfold Aes.mx
            rw [show (r + 4 * c) % 4 = r by omega, show (r + 4 * c) / 4 = c by omega]
          have HV := Lib.hid hv
          have HG := Lib.hid hgr
          have K4 := Lib.hid hk4
          clear ha hbl hb0 hv hgr hk4
          have iv : ((r : Int) + 4 * (c : Int)).toNat = r + 4 * c := by omega
          go_wp2_with (first | refine wpList_load_row rfl _ _ rfl np rfl _ _ (0, 0) _ hk2 rfl rfl (info4 _) ?_ | refine wpList_load_row rfl _ _ rfl wo.heap.size rfl _ _ (0, 0) _ hk3 rfl rfl (info4 _) ?_ | (go_at_call 49; refine (dot_arr _ _ _ HN.out (fun _ => HB.out _)).mono ?_; rintro e w3 ⟨rfl, hb3⟩; have c3 := (K4.out.below hb3 K4.out.lt).cell (i := r + 4 * c) (by omega); have f3 := (K4.out.below hb3 K4.out.lt).frozen (r + 4 * c); have B3 := Lib.hid hb3; clear hb3))
          go_roundw
          case rel =>
            refine ⟨r + 1, by omega, by go_num, ?_, ?_⟩
            · refine ((K4.out.below B3.out K4.out.lt).set (r + 4 * c) _).congr fun t _ => colP_next _ _ _ _ _ _ HV.out
            · exact only_set (only_below HG.out B3.out) _ _
          case measure => simp [intOf]; omega
    · obtain rfl : r = 4 := by omega
      have hd : decide (((4 : Nat) : Int) < 4) = false := by decide
      have HM := Lib.hid (And.intro hm hg)
      clear hm hg hlt
      go_wp2_with fail
      go_end0
      exact ⟨rfl, HM.out.1, HM.out.2⟩
end Go.Proofs.Ytibgmoapkionjaa
