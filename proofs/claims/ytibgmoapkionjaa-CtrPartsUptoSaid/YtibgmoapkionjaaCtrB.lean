/- ctr.blocks and its iterator: walked. -/
import Derived.Test.YtibgmoapkionjaaCtrA
import Derived.Test.YtibgmoapkionjaaRange
namespace Go.Proofs.Ytibgmoapkionjaa
open Go.RowKit Go.Deep
attribute [local go_sem] Oper.semAt_some

/-- The world behind ctr.blocks: three boxes more. -/
def boxes3 (key nonce : Nat → Nat) (i : Nat) (w : World) : World := ((w.alloc (.cells (arr .u8 16 key) 22)).alloc (.cells (arr .u8 8 nonce) 40)).alloc (.cells #[.int .u64 (i : Int)] 23)
theorem boxes3_size (key nonce : Nat → Nat) (i : Nat) (w : World) : (boxes3 key nonce i w).heap.size = w.heap.size + 3 := by simp [boxes3]
theorem boxes3_below (key nonce : Nat → Nat) (i : Nat) (w : World) : Below w.heap.size w (boxes3 key nonce i w) :=
  (((Below.refl _ _).alloc (Nat.le_refl _) _).alloc (by simp) _).alloc (by simp; omega) _
theorem boxes3_at (key nonce : Nat → Nat) (i : Nat) (w : World) : isArr (boxes3 key nonce i w) w.heap.size 22 .u8 16 key ∧ isArr (boxes3 key nonce i w) (w.heap.size + 1) 40 .u8 8 nonce ∧ (boxes3 key nonce i w).heap[w.heap.size + 2]? = some (.cells #[.int .u64 (i : Int)] 23 (0, 0)) := by
  have z1 : w.heap.size + 1 = (w.alloc (Obj.cells (arr IntKind.u8 16 key) 22)).heap.size := by simp
  have z2 : w.heap.size + 2 = ((w.alloc (Obj.cells (arr IntKind.u8 16 key) 22)).alloc (Obj.cells (arr IntKind.u8 8 nonce) 40)).heap.size := by simp
  refine ⟨((isArr_new w _ _ _ _).alloc _).alloc _, ?_, ?_⟩
  · rw [z1]; exact (isArr_new _ _ _ _ _).alloc _
  · rw [z2]; exact heap_alloc_new _ _

set_option maxRecDepth 100000 in
set_option maxHeartbeats 400000 in
theorem blocks_any (key nonce : Nat → Nat) (i : Nat) (w : World) :
    Calls Try.prog 50 #[.agg (arr .u8 16 key), .agg (arr .u8 8 nonce), .int .u64 (i : Int)] w fun e w' =>
      e = .returned (.func (.func 53) #[] #[.pointer (some ⟨w.heap.size, 0, none⟩), .pointer (some ⟨w.heap.size + 1, 0, none⟩), .pointer (some ⟨w.heap.size + 2, 0, none⟩)]) ∧ boxes3 key nonce i w = w' := by
  have hsz := arr_size .u8 16 key
  have hsz2 := arr_size .u8 8 nonce
  go_enter Try.func50, Try.ntmps50
  go_wp2_with fail
  go_ret
  exact ⟨rfl, rfl⟩

/-- What is read off a counter's box. -/
def boxNat (w : World) (b : Nat) : Nat := match w.heap[b]? with
  | some (Obj.cells cs _ _) => (match cs[0]? with | some (Value.int _ x) => x.toNat | _ => 0)
  | _ => 0
theorem boxNat_at {w : World} {b x : Nat} {t : TypeId} (h : w.heap[b]? = some (.cells #[.int .u64 (x : Int)] t (0, 0))) : boxNat w b = x := by
  unfold boxNat
  rw [h]
  simp

set_option maxRecDepth 100000 in
set_option maxHeartbeats 2000000 in
theorem blocks_iter (key nonce : Nat → Nat) (hk : Aes.B8 key) (hn : Aes.B8 nonce) (i0 N : Nat) (hN : i0 + N < 18446744073709551616) (bk bn bi : Nat) (d1 : bk ≠ bi) (d2 : bn ≠ bi) (n l : Nat) (J : Nat → World → Prop) (Jx : World → Prop) (W0 : World)
    (hT : ∀ j A B, J j A → A.grownBy B (some bi) → J j B) (hJ : ∀ j A, J j A → j < N)
    (hY : ∀ j W1, J j W1 → YieldAt Fence.wide (n - 1) Try.prog l #[.agg (arr .u8 16 (Ctr.bk key nonce (i0 + j)))] W1 fun e W' => (e = .returned (.bool true) ∧ J (j + 1) W' ∧ SameAt (fun k => k = bk ∨ k = bn ∨ k = bi) W1 W') ∨ (e = .returned (.bool false) ∧ Jx W'))
    (h0 : J 0 W0) (hbk : isArr W0 bk 22 .u8 16 key) (hbn : isArr W0 bn 40 .u8 8 nonce) (hbi : W0.heap[bi]? = some (.cells #[.int .u64 (i0 : Int)] 23 (0, 0))) :
    CallsIn Fence.wide n Try.prog 53 (#[.func (.yield l) #[] #[]] ++ #[.pointer (some ⟨bk, 0, none⟩), .pointer (some ⟨bn, 0, none⟩), .pointer (some ⟨bi, 0, none⟩)]) W0 fun e W' => (∃ v, e = .returned v) ∧ Jx W' := by
  have HT := Lib.hid hT; have HJ := Lib.hid hJ; have HY := Lib.hid hY; have HK := Lib.hid hk; have HN := Lib.hid hn
  have H0 := Lib.hid (And.intro h0 (And.intro hbk (And.intro hbn hbi)))
  clear hT hJ hY hk hn h0 hbk hbn hbi
  refine callsIn_of_wp Try.func53 rfl trivial ?_ rfl
  simp only [Try.ntmps53, List.size_toArray, List.length_cons, List.length_nil, Nat.reduceAdd, Nat.reduceSub, Array.replicate_succ, Array.replicate_zero, List.push_toArray, List.append_toArray, List.nil_append, List.cons_append]
  gi_wp2_with fail
  gi_loopw [5] (fun _ wr => ∃ j : Nat, J j wr ∧ isArr wr bk 22 .u8 16 key ∧ isArr wr bn 40 .u8 8 nonce ∧ wr.heap[bi]? = some (.cells #[.int .u64 ((i0 + j : Nat) : Int)] 23 (0, 0))) (fun _ wr => i0 + N - boxNat wr bi)
  case atStart => exact ⟨0, H0.out⟩
  case round =>
    clear H0
    obtain ⟨j, hj, hk1, hn1, hi1⟩ := hrel
    have hjN := HJ.out _ _ hj
    have J0 := Lib.hid hj
    have K1 := Lib.hid hk1
    have N1 := Lib.hid hn1
    have I1 := Lib.hid hi1
    have c1 := cell_of_one hi1
    obtain ⟨q, hq⟩ : ∃ q, q = i0 + j := ⟨_, rfl⟩
    rw [← hq] at c1 hi1
    have hq64 : q < 18446744073709551616 := by omega
    have HQ := Lib.hid hq
    have MI := Lib.hid (boxNat_at hi1)
    clear hj hi1 hq hk1 hn1
    gi_wp2_with (first | refine wpListIn_load_row rfl _ _ rfl bk rfl _ _ (0, 0) _ K1.out rfl rfl (info16 _) ?_ | refine wpListIn_load_row rfl _ _ rfl bn rfl _ _ (0, 0) _ N1.out rfl rfl (info8 _) ?_)
    refine ⟨trivial, fun hh => by simp [Fence.wide] at hh, ?_⟩
    refine (callsIn_wide.2 (ctrblock_any _ _ q _ HK.out HN.out hq64)).mono ?_
    rintro e w1 ⟨rfl, hb1⟩
    have hy0 := HY.out j w1 (HT.out j _ _ J0.out (only_of_below hb1 _))
    rw [← HQ.out] at hy0
    obtain ⟨fn, tmps, assign, body, hy, hR⟩ := hy0
    have K2 := Lib.hid (K1.out.below hb1 K1.out.lt)
    have N2 := Lib.hid (N1.out.below hb1 N1.out.lt)
    have I2 := Lib.hid ((hb1.block bi (Array.getElem?_eq_some_iff.1 I1.out).1).trans I1.out)
    have RR := Lib.hid hR
    clear hb1 c1 K1 N1 I1 J0 hR
    gi_wp2_with fail
    refine ⟨fun hh => by simp [Fence.wide] at hh, RR.out.mono ?_⟩
    rintro e w2 (⟨rfl, hj2, hs2⟩ | ⟨rfl, hx2⟩)
    · have i2 := (hs2 bi (.inr (.inr rfl))).trans I2.out
      have K3 := Lib.hid (K2.out.of_block (hs2 bk (.inl rfl)))
      have N3 := Lib.hid (N2.out.of_block (hs2 bn (.inr (.inl rfl))))
      rw [← HQ.out] at i2
      have c2 := cell_of_one i2
      have f2 := free_of_one i2
      have ho := one_setCell (u := .int .u64 ((q + 1 : Nat) : Int)) i2
      have HO := Lib.hid ho
      have hwr : IntKind.u64.wrap ((q : Int) + 1) = ((q + 1 : Nat) : Int) := by simp only [IntKind.wrap_u64]; have := HQ.out; omega
      have J3 := Lib.hid (HT.out _ _ (w2.setCell ⟨bi, 0, none⟩ (.int .u64 ((q + 1 : Nat) : Int))) hj2 (only_set (only_refl w2 (some bi)) 0 _))
      have HW := Lib.hid hwr
      have hq1 : q + 1 < 18446744073709551616 := by have := HQ.out; omega
      clear hj2 hs2 i2 ho hy RR hwr
      gi_wp2_with fail
      go_roundw
      case rel => exact ⟨j + 1, J3.out, K3.out.setOther d1 _ _, N3.out.setOther d2 _ _, by rw [show i0 + (j + 1) = q + 1 by have := HQ.out; omega]; exact HO.out⟩
      case measure =>
        have e1 := boxNat_at HO.out
        have e2 := MI.out
        have e3 := HQ.out
        first | (show i0 + N - boxNat (w2.setCell ⟨bi, 0, none⟩ (.int .u64 ((q + 1 : Nat) : Int))) bi < i0 + N - boxNat wr bi; omega) | (rw [e2]; erw [e1]; omega)
    · clear hy RR
      gi_wp2_with fail
      go_end0
      exact ⟨⟨_, rfl⟩, hx2⟩
end Go.Proofs.Ytibgmoapkionjaa
