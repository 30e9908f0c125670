/- The reference of layer 8: Stream, Crypt: walked. -/
import Derived.Test.YtibgmoapkionjaaCtrE
namespace Go.Proofs.Ytibgmoapkionjaa
open Go.RowKit Go.Deep

/-- The state of the reference's Stream. -/
def RSI (key nonce b : Nat → Nat) (g10 g11 : Nat) (w wr : World) : Prop :=
  Below w.heap.size w wr ∧ isArr wr w.heap.size 22 .u8 16 key ∧ isArr wr (w.heap.size + 1) 40 .u8 8 nonce ∧ isArr wr g10 28 .u8 256 Fld.sb ∧ isArr wr g11 22 .u8 16 b ∧ w.heap.size + 2 ≤ g10 ∧ g10 < g11
theorem RSI.below {key nonce b : Nat → Nat} {g10 g11 : Nat} {w wr w' : World} (h : RSI key nonce b g10 g11 w wr) (e : Below wr.heap.size wr w') : RSI key nonce b g10 g11 w w' :=
  ⟨h.1.trans (e.mono h.1.size), h.2.1.below e h.2.1.lt, h.2.2.1.below e h.2.2.1.lt, h.2.2.2.1.below e h.2.2.2.1.lt, h.2.2.2.2.1.below e h.2.2.2.2.1.lt, h.2.2.2.2.2⟩
theorem RSI.only {key nonce b : Nat → Nat} {g10 g11 : Nat} {w wr w' : World} {r : Option Nat} (h : RSI key nonce b g10 g11 w wr) (k : wr.grownBy w' r) (hr : ∀ g, r = some g → g11 < g) : RSI key nonce b g10 g11 w w' := by
  obtain ⟨h1, h2, h3, h4, h5, h6, h7⟩ := h
  exact ⟨below_only h1 (Nat.le_refl _) k (fun g e => by have := hr g e; omega), h2.of_block (k.block _ h2.lt (fun e => by have := hr _ e.symm; omega)), h3.of_block (k.block _ h3.lt (fun e => by have := hr _ e.symm; omega)), h4.of_block (k.block _ h4.lt (fun e => by have := hr _ e.symm; omega)), h5.of_block (k.block _ h5.lt (fun e => by have := hr _ e.symm; omega)), h6, h7⟩
theorem RSI.row {key nonce b c : Nat → Nat} {g10 g11 : Nat} {w wr : World} (h : RSI key nonce b g10 g11 w wr) : RSI key nonce c g10 g11 w (wr.setRow g11 (arr .u8 16 c)) := by
  obtain ⟨h1, h2, h3, h4, h5, h6, h7⟩ := h
  exact ⟨below_setRow h1 (by omega) _, setRow_other h2 (by omega) _, setRow_other h3 (by omega) _, setRow_other h4 (by omega) _, setRow_heap _ _ _ _ _ (0, 0) h5, h6, h7⟩

set_option maxRecDepth 100000 in
set_option maxHeartbeats 4000000 in
theorem refstream_bad (key nonce : Nat → Nat) (a n : Int) (w : World) (h : a < 0 ∨ 1099511627776 < a ∨ n < 0 ∨ 1048576 < n) :
    Calls Try.prog 27 #[.agg (arr .u8 16 key), .agg (arr .u8 8 nonce), .int .i64 a, .int .i64 n] w (RetOwn [] w) := by
  have hsz := arr_size .u8 16 key
  have hsz2 := arr_size .u8 8 nonce
  have hz28 : ∀ w, (zeroValue 28).run Try.prog w = .ok (.agg (Array.replicate 256 (.int .u8 0))) w := fun _ => by kernel_rfl
  have key1 : decide (a < 0) = true ∨ (decide (a < 0) = false ∧ decide (1099511627776 < a) = true) ∨ (decide (a < 0) = false ∧ decide (1099511627776 < a) = false ∧ decide (n < 0) = true) ∨ (decide (a < 0) = false ∧ decide (1099511627776 < a) = false ∧ decide (n < 0) = false ∧ decide (1048576 < n) = true) := by
    by_cases h1 : a < 0
    · exact .inl (by simpa using h1)
    · by_cases h2 : 1099511627776 < a
      · exact .inr (.inl ⟨by simpa using h1, by simpa using h2⟩)
      · by_cases h3 : n < 0
        · exact .inr (.inr (.inl ⟨by simpa using h1, by simpa using h2, by simpa using h3⟩))
        · exact .inr (.inr (.inr ⟨by simpa using h1, by simpa using h2, by simpa using h3, by simp; omega⟩))
  clear h
  rcases key1 with d1 | ⟨d1, d2⟩ | ⟨d1, d2, d3⟩ | ⟨d1, d2, d3, d4⟩
  all_goals
    go_enter Try.func27, Try.ntmps27
    go_wp2_with (first | (go_at_call 17; refine (box7_any _).mono ?_; rintro e w1 ⟨rfl, hb1⟩; have B1 := Lib.hid hb1; clear hb1) | (refine wpList_store_rowTo rfl _ _ _ rfl rfl w1.heap.size _ rfl rfl _ _ (heap_alloc_new _ _) (info256 _) (by rw [arr_size]; first | rfl | simp) (arr_one _ _ _) ?_))
    go_ret
    exact ⟨_, rfl, Own.nil _ _, below_setRow ((((Below.refl _ _).alloc (Nat.le_refl _) _).alloc (by simp) _).trans (B1.out.mono (by simp; omega)) |>.alloc (by have := B1.out.size; simp at this; omega) _) (by have := B1.out.size; simp at this; omega) _⟩

set_option maxRecDepth 100000 in
set_option maxHeartbeats 8000000 in
theorem refstream_ok (key nonce : Nat → Nat) (a n : Nat) (w : World) (hk : Aes.B8 key) (hn : Aes.B8 nonce) (ha : a ≤ 1099511627776) (hn2 : n ≤ 1048576) :
    Calls Try.prog 27 #[.agg (arr .u8 16 key), .agg (arr .u8 8 nonce), .int .i64 (a : Int), .int .i64 (n : Int)] w (RetOwn (Ctr.str key nonce a n) w) := by
  have hsz := arr_size .u8 16 key
  have hsz2 := arr_size .u8 8 nonce
  have HK := Lib.hid hk; have HN := Lib.hid hn
  clear hk hn
  have hz28 : ∀ w, (zeroValue 28).run Try.prog w = .ok (.agg (Array.replicate 256 (.int .u8 0))) w := fun _ => by kernel_rfl
  have d1 : decide ((a : Int) < 0) = false := by simp
  have d2 : decide (1099511627776 < (a : Int)) = false := by simp; omega
  have d3 : decide ((n : Int) < 0) = false := by simp
  have d4 : decide (1048576 < (n : Int)) = false := by simp; omega
  go_enter Try.func27, Try.ntmps27
  go_upto_region 2 with fail
  generalize hW : (World.alloc _ _ : World) = V
  have INV : isArr V w.heap.size 22 .u8 16 key ∧ isArr V (w.heap.size + 1) 40 .u8 8 nonce ∧ Below w.heap.size w V ∧ V.heap.size = w.heap.size + 2 := by
    rw [← hW]
    have z1 : w.heap.size + 1 = (w.alloc (Obj.cells (arr IntKind.u8 16 key) 22)).heap.size := by simp
    refine ⟨(isArr_new w _ _ _ _).alloc _, ?_, ((Below.refl _ _).alloc (Nat.le_refl _) _).alloc (by simp) _, by simp⟩
    rw [z1]; exact isArr_new _ _ _ _ _
  have I0 := Lib.hid INV
  clear hW INV hsz hsz2
  go_upto_region 5 with (first | (go_at_call 17; refine (box7_any _).mono ?_; rintro e w1 ⟨rfl, hb1⟩; have B1 := Lib.hid hb1; clear hb1) | (refine wpList_store_rowTo rfl _ _ _ rfl rfl w1.heap.size _ rfl rfl _ _ (heap_alloc_new _ _) (info256 _) (by rw [arr_size]; first | rfl | simp) (arr_one _ _ _) ?_; generalize hV : World.setRow _ w1.heap.size _ = V2))
  have hs1 := B1.out.size
  have hsV := I0.out.2.2.2
  have E2 : Below w.heap.size w V2 ∧ isArr V2 w.heap.size 22 .u8 16 key ∧ isArr V2 (w.heap.size + 1) 40 .u8 8 nonce ∧ isArr V2 w1.heap.size 28 .u8 256 Fld.sb := by
    have h2 : Below V.heap.size V V2 := by rw [← hV]; exact below_setRow (B1.out.alloc hs1 _) hs1 _
    refine ⟨I0.out.2.2.1.trans (h2.mono I0.out.2.2.1.size), I0.out.1.below h2 I0.out.1.lt, I0.out.2.1.below h2 I0.out.2.1.lt, ?_⟩
    rw [← hV]
    exact setRow_heap _ _ _ _ _ _ (heap_alloc_new _ _)
  have hg10 : w.heap.size + 2 ≤ w1.heap.size := by omega
  have k1 := E2.2.1
  have k2 := E2.2.2.1
  have k3 := E2.2.2.2
  have EE := Lib.hid E2
  clear hV E2 B1 hs1 hsV I0
  generalize w1.heap.size = g10 at EE hg10 k3 ⊢
  obtain ⟨q, hq⟩ : ∃ q, q = a / 16 := ⟨_, rfl⟩
  have eq : (a : Int) / 16 = (q : Int) := by omega
  have hq64 : q < 18446744073709551616 := by omega
  have HQ := Lib.hid hq
  clear hq
  go_upto_region 6 with (first | refine wpList_load_row rfl _ _ rfl w.heap.size rfl _ _ (0, 0) _ k1 rfl rfl (info16 _) ?_ | refine wpList_load_row rfl _ _ rfl (w.heap.size + 1) rfl _ _ (0, 0) _ k2 rfl rfl (info8 _) ?_ | refine wpList_load_row rfl _ _ rfl g10 rfl _ _ (0, 0) _ k3 rfl rfl (info256 _) ?_ | (go_at_call 35; refine (refctrblock_any key nonce q _ HK.out HN.out hq64).mono ?_; rintro e w3 ⟨rfl, hb3⟩; have B3 := Lib.hid hb3; clear hb3) | (refine wpList_store_rowTo rfl _ _ _ rfl rfl w3.heap.size _ rfl rfl _ _ (heap_alloc_new _ _) (info16 _) (by rw [arr_size]; first | rfl | simp) (arr_one _ _ _) ?_; generalize hV : World.setRow _ w3.heap.size _ = V3))
  have S0 : RSI key nonce (Ctr.bk key nonce q) g10 w3.heap.size w V3 := by
    have hs3 := B3.out.size
    have h3 : Below V2.heap.size V2 V3 := by rw [← hV]; exact below_setRow (B3.out.alloc hs3 _) hs3 _
    refine ⟨EE.out.1.trans (h3.mono EE.out.1.size), EE.out.2.1.below h3 EE.out.2.1.lt, EE.out.2.2.1.below h3 EE.out.2.2.1.lt, EE.out.2.2.2.below h3 EE.out.2.2.2.lt, ?_, hg10, Nat.lt_of_lt_of_le EE.out.2.2.2.lt hs3⟩
    rw [← hV]
    exact setRow_heap _ _ _ _ _ _ (heap_alloc_new _ _)
  have SS := Lib.hid S0
  clear hV S0 B3 EE k1 k2 k3 eq
  generalize w3.heap.size = g11 at SS ⊢
  go_wp2_with fail
  go_loopw [9, 12] (fun v i wr => ∃ m : Nat, m ≤ n ∧ i = .int .i64 ((a + m : Nat) : Int) ∧ Own wr (g11 + 1) v (Ctr.str key nonce a m) ∧ ∃ b : Nat, RSI key nonce (Ctr.bk key nonce b) g10 g11 w wr ∧ ((a + m) % 16 = 0 ∨ b = (a + m) / 16)) (fun _ i _ => a + n - (intOf i).toNat)
  case atStart => exact ⟨0, by omega, rfl, Own.nil _ _, q, SS.out, .inr (by rw [HQ.out]; rfl)⟩
  case round =>
    clear SS HQ hq64
    obtain ⟨m, hm, rfl, hov, b, hsi, hb⟩ := hrel
    obtain ⟨i, hi⟩ : ∃ i, i = a + m := ⟨_, rfl⟩
    rw [← hi] at hb ⊢
    have OV := Lib.hid hov; have SI := Lib.hid hsi
    obtain ⟨va, vc, rfl⟩ := hov.form
    rw [Ctr.str_length] at OV ⊢
    have HI := Lib.hid hi
    by_cases hlt : m < n
    · have hd : decide ((i : Int) < (a : Int) + (n : Int)) = true := by simp; omega
      have hi40 : i ≤ 2199023255552 := by omega
      obtain ⟨t, ht⟩ : ∃ t, t = i % 16 := ⟨_, rfl⟩
      obtain ⟨q, hq⟩ : ∃ q, q = i / 16 := ⟨_, rfl⟩
      have et : (i : Int) % 16 = (t : Int) := by omega
      have eq : (i : Int) / 16 = (q : Int) := by omega
      have ht16 : t < 16 := by omega
      have hq64 : q < 18446744073709551616 := by omega
      have HT := Lib.hid ht; have HQ := Lib.hid hq
      have hlt' : (i : Int) < (a : Int) + (n : Int) := by omega
      have NB := Lib.hid (show (i + 1) % 16 = 0 ∨ q = (i + 1) / 16 by omega)
      have HBY := Lib.hid (show Ctr.bk key nonce q t = Ctr.byte key nonce (a + m) by unfold Ctr.byte; rw [hq, ht, hi])
      have HST := Lib.hid (Ctr.str_succ key nonce a m)
      by_cases h0 : t = 0
      · have hz : ((t : Int) == 0) = true := by rw [h0]; rfl
        have k1 := hsi.2.1
        have k2 := hsi.2.2.1
        have k3 := hsi.2.2.2.1
        clear hov hsi hi ht hq hb h0 hd
        go_upto_region 11 with (first | refine wpList_load_row rfl _ _ rfl w.heap.size rfl _ _ (0, 0) _ k1 rfl rfl (info16 _) ?_ | refine wpList_load_row rfl _ _ rfl (w.heap.size + 1) rfl _ _ (0, 0) _ k2 rfl rfl (info8 _) ?_ | refine wpList_load_row rfl _ _ rfl g10 rfl _ _ (0, 0) _ k3 rfl rfl (info256 _) ?_ | (go_at_call 35; refine (refctrblock_any key nonce q _ HK.out HN.out hq64).mono ?_; rintro e w3 ⟨rfl, hb3⟩; have S3 := Lib.hid (SI.out.below hb3); have O3 := Lib.hid (OV.out.below hb3); have k4 := S3.out.2.2.2.2.1; clear hb3) | (refine wpList_store_row rfl _ _ _ rfl g11 _ rfl rfl _ _ k4 (info16 _) ((arr_size _ _ _).trans (arr_size _ _ _).symm) (arr_one _ _ _) ?_))
        have S4 := Lib.hid (S3.out.row (c := Ctr.bk key nonce q))
        have O4 := Lib.hid (O3.out.only (setRow_grownBy w3 g11 (arr .u8 16 (Ctr.bk key nonce q))) (by cases hv : (Value.slice va m vc).ownBlock with | none => exact .inl rfl | some g => exact .inr (fun e => by cases e; have := (O3.out.lt _ hv).1; omega)))
        clear S3 O3 k1 k2 k3 k4 OV SI
        generalize w3.setRow g11 (arr .u8 16 (Ctr.bk key nonce q)) = W at S4 O4 ⊢
        have cB := S4.out.2.2.2.2.1.cell (i := t) ht16
        have hcB := Ctr.bk_b8 HK.out HN.out q t
        have hszW : g11 + 1 ≤ W.heap.size := S4.out.2.2.2.2.1.lt
        generalize Ctr.bk key nonce q t = c at cB hcB HBY
        go_wp2_with (at_builtin; go_must (refine wpList_append_bs rfl _ _ rfl (g11 + 1) (.slice va m vc) (Ctr.str key nonce a m) rfl (O4.out.alloc _) _ [c] rfl (own_built W _ [c] (AllB.one hcB) hszW (by simp)).bs (by simp [Ctr.str_length]; omega) (Nat.le_trans hszW (by simp)) ?_; intro v2 w2 hown2 hgr2))
        have hS5 := (S4.out.only (World.grownBy_alloc W (.cells #[bv c] 5) none) (fun g e => by cases e)).only hgr2 (fun g e => (O4.out.lt g e).1)
        rw [HBY.out, ← HST.out] at hown2
        have J2 := Lib.hid (And.intro hown2 hS5)
        clear hown2 hgr2 hS5 S4 O4 cB
        go_wp2_with fail
        go_roundw
        case rel => exact ⟨m + 1, by omega, by have := HI.out; congr 1; omega, J2.out.1, q, J2.out.2, by have := HI.out; have := NB.out; omega⟩
        case measure => have := HI.out; simp [intOf]; omega
      · have hz : ((t : Int) == 0) = false := by rw [beq_eq_false_iff_ne]; omega
        obtain rfl : q = b := by omega
        have S4 := SI; have O4 := OV
        clear hov hsi hi ht hq hb h0 hd SI OV
        go_upto_region 11 with fail
        obtain ⟨W, hW⟩ : ∃ W, W = wr := ⟨_, rfl⟩
        subst hW
        have cB := S4.out.2.2.2.2.1.cell (i := t) ht16
        have hcB := Ctr.bk_b8 HK.out HN.out q t
        have hszW : g11 + 1 ≤ W.heap.size := S4.out.2.2.2.2.1.lt
        generalize Ctr.bk key nonce q t = c at cB hcB HBY
        go_wp2_with (at_builtin; go_must (refine wpList_append_bs rfl _ _ rfl (g11 + 1) (.slice va m vc) (Ctr.str key nonce a m) rfl (O4.out.alloc _) _ [c] rfl (own_built W _ [c] (AllB.one hcB) hszW (by simp)).bs (by simp [Ctr.str_length]; omega) (Nat.le_trans hszW (by simp)) ?_; intro v2 w2 hown2 hgr2))
        have hS5 := (S4.out.only (World.grownBy_alloc W (.cells #[bv c] 5) none) (fun g e => by cases e)).only hgr2 (fun g e => (O4.out.lt g e).1)
        rw [HBY.out, ← HST.out] at hown2
        have J2 := Lib.hid (And.intro hown2 hS5)
        clear hown2 hgr2 hS5 S4 O4 cB
        go_wp2_with fail
        go_roundw
        case rel => exact ⟨m + 1, by omega, by have := HI.out; congr 1; omega, J2.out.1, q, J2.out.2, by have := HI.out; have := NB.out; omega⟩
        case measure => have := HI.out; simp [intOf]; omega
    · obtain rfl : m = n := by omega
      have hd : decide ((i : Int) < (a : Int) + (m : Int)) = false := by simp; omega
      have hge : (a : Int) + (m : Int) ≤ (i : Int) := by omega
      clear hov hsi hi hb hlt hd
      go_wp2_with fail
      go_ret
      exact ⟨_, rfl, OV.out.mono (by have := SI.out.2.2.2.2.2; omega), SI.out.1⟩

theorem refstream_any (key nonce : Nat → Nat) (a n : Int) (w : World) (hk : Aes.B8 key) (hn : Aes.B8 nonce) :
    Calls Try.prog 27 #[.agg (arr .u8 16 key), .agg (arr .u8 8 nonce), .int .i64 a, .int .i64 n] w (RetOwn (Ctr.strI key nonce a n) w) := by
  unfold Ctr.strI
  by_cases h : a < 0 ∨ 1099511627776 < a ∨ n < 0 ∨ 1048576 < n
  · rw [if_pos h]; exact refstream_bad key nonce a n w h
  · rw [if_neg h]
    obtain ⟨x, rfl⟩ := Int.eq_ofNat_of_zero_le (show 0 ≤ a by omega)
    obtain ⟨y, rfl⟩ := Int.eq_ofNat_of_zero_le (show 0 ≤ n by omega)
    exact refstream_ok key nonce x y w hk hn (by omega) (by omega)

/-- The stream, its first m bytes combined with those of l. -/
def Ctr.cm (key nonce : Nat → Nat) (l : List Nat) (m : Nat) : List Nat := (List.range l.length).map fun i => if i < m then l.getD i 0 ^^^ Ctr.byte key nonce (0 + i) else Ctr.byte key nonce (0 + i)
theorem Ctr.cm_length (key nonce : Nat → Nat) (l : List Nat) (m : Nat) : (Ctr.cm key nonce l m).length = l.length := by simp [Ctr.cm]
theorem Ctr.cm_get (key nonce : Nat → Nat) (l : List Nat) (m i : Nat) (h : i < l.length) : (Ctr.cm key nonce l m).getD i 0 = if i < m then l.getD i 0 ^^^ Ctr.byte key nonce (0 + i) else Ctr.byte key nonce (0 + i) := Ctr.getD_range _ _ i h
theorem Ctr.cm_zero (key nonce : Nat → Nat) (l : List Nat) : Ctr.cm key nonce l 0 = Ctr.str key nonce 0 l.length := by simp [Ctr.cm, Ctr.str]
theorem Ctr.cm_all (key nonce : Nat → Nat) (l : List Nat) : Ctr.cm key nonce l l.length = Ctr.crypt key nonce 0 l := by
  unfold Ctr.cm Ctr.crypt
  apply List.map_congr_left
  intro i hi
  rw [if_pos (by simpa using hi)]
theorem Ctr.cm_set (key nonce : Nat → Nat) (l : List Nat) (m : Nat) (h : m < l.length) : (Ctr.cm key nonce l m).set m (Ctr.byte key nonce (0 + m) ^^^ l.getD m 0) = Ctr.cm key nonce l (m + 1) :=
  Ctr.list_eq (by simp [Ctr.cm]) fun i hi => by
    have hi' : i < l.length := by simpa [Ctr.cm] using hi
    rw [Ctr.getD_set _ _ _ _ (by rw [Ctr.cm_length]; exact hi'), Ctr.cm_get _ _ _ _ _ hi', Ctr.cm_get _ _ _ _ _ hi']
    by_cases e : m = i
    · subst e; rw [if_pos rfl, if_pos (by omega), Nat.xor_comm]
    · rw [if_neg e]
      by_cases h2 : i < m
      · rw [if_pos h2, if_pos (by omega)]
      · rw [if_neg h2, if_neg (by omega)]

set_option maxRecDepth 100000 in
set_option maxHeartbeats 4000000 in
theorem refcrypt_any (key nonce : Nat → Nat) (v : Value) (l : List Nat) (w : World) (hk : Aes.B8 key) (hn : Aes.B8 nonce) (hv : Rs w v l) (hl : l.length ≤ 1048576) :
    Calls Try.prog 29 #[.agg (arr .u8 16 key), .agg (arr .u8 8 nonce), v] w (RetOwn (Ctr.crypt key nonce 0 l) w) := by
  have hsz := arr_size .u8 16 key
  have hsz2 := arr_size .u8 8 nonce
  have HK := Lib.hid hk; have HN := Lib.hid hn; have HV := Lib.hid hv
  obtain ⟨xa, xc, rfl⟩ := hv.form
  clear hk hn hv
  go_enter Try.func29, Try.ntmps29
  go_upto_region 1 with fail
  generalize hW : (World.alloc _ _ : World) = V
  have INV : isArr V w.heap.size 22 .u8 16 key ∧ isArr V (w.heap.size + 1) 40 .u8 8 nonce ∧ Below w.heap.size w V := by
    rw [← hW]
    have z1 : w.heap.size + 1 = (w.alloc (Obj.cells (arr IntKind.u8 16 key) 22)).heap.size := by simp
    refine ⟨(isArr_new w _ _ _ _).alloc _, ?_, ((Below.refl _ _).alloc (Nat.le_refl _) _).alloc (by simp) _⟩
    rw [z1]; exact isArr_new _ _ _ _ _
  have k1 := INV.1
  have k2 := INV.2.1
  have B0 := Lib.hid INV.2.2
  have hs : w.heap.size ≤ V.heap.size := INV.2.2.size
  clear hW INV hsz hsz2
  go_wp2_with (first | refine wpList_load_row rfl _ _ rfl w.heap.size rfl _ _ (0, 0) _ k1 rfl rfl (info16 _) ?_ | refine wpList_load_row rfl _ _ rfl (w.heap.size + 1) rfl _ _ (0, 0) _ k2 rfl rfl (info8 _) ?_ | (go_at_call 27; refine (refstream_ok key nonce 0 l.length _ HK.out HN.out (by omega) hl).mono ?_; rintro e w1 ⟨v1, rfl, ho1, hb1⟩; have O1 := Lib.hid (ho1.mono hs); have B1 := Lib.hid (B0.out.trans (hb1.mono hs)); obtain ⟨va, vc, hva⟩ := ho1.form; rw [Ctr.str_length] at hva; subst hva; clear ho1 hb1))
  have O2 := O1.out
  rw [← Ctr.cm_zero] at O2
  have O3 := Lib.hid O2
  clear O1 O2
  go_loopw [8] (fun i wr => ∃ m : Nat, m ≤ l.length ∧ i = .int .i64 (m : Int) ∧ Own wr w.heap.size (.slice va l.length vc) (Ctr.cm key nonce l m) ∧ Below w.heap.size w wr) (fun i _ => l.length - (intOf i).toNat)
  case atStart => exact ⟨0, by omega, rfl, O3.out, B1.out⟩
  case round =>
    clear O3 B1
    obtain ⟨m, hm, rfl, ho, hb⟩ := hrel
    have HO := Lib.hid ho; have HB := Lib.hid hb
    by_cases hlt : m < l.length
    · have hd : (m : Int) < (l.length : Int) := by omega
      have nm : 0 ≤ (m : Int) := by omega
      obtain ⟨b2, off2, rfl, hcx⟩ := (HV.out.below hb).at hlt
      have cx := hcx m hlt
      have hx := HV.out.1.get m
      have hll : m < (Ctr.cm key nonce l m).length := by rw [Ctr.cm_length]; exact hlt
      have ho' := ho
      rw [← Ctr.cm_length key nonce l m] at ho'
      rcases ho'.cases with ⟨_, h⟩ | ⟨g, cap, hvv, hbg, _, _, _, hcell, hfro⟩
      · rw [h] at hll; simp at hll
      simp only [Value.slice.injEq, true_and] at hvv
      obtain ⟨rfl, rfl⟩ := hvv
      have cs := hcell m hll
      have fs := hfro m
      rw [Ctr.cm_get _ _ _ _ _ hlt, if_neg (Nat.lt_irrefl _)] at cs
      have hs8 := Ctr.byte_lt HK.out HN.out (0 + m)
      have NX := Lib.hid (Ctr.cm_set key nonce l m hlt)
      have hxr := u8_xor_nat _ _ hs8 hx
      generalize l.getD m 0 = x at cx hx NX hxr
      generalize Ctr.byte key nonce (0 + m) = y at cs hs8 NX hxr
      clear ho ho' hb hcx hcell hfro
      go_wp2_with fail
      go_still_tail 12, (by kernel_rfl)
      change wpList _ _ _ _ _ (wr.drewN 1)
      have c2 : (wr.drewN 1).cell? ⟨g, m, none⟩ = some (.int .u8 (y : Int)) := cs
      have f2 : (wr.drewN 1).frozen? ⟨g, m, none⟩ = false := fs
      have HD := Lib.hid (HO.out.drewN 1)
      have HBD := Lib.hid (below_drewN HB.out 1)
      clear cx cs fs
      generalize wr.drewN 1 = wd at c2 f2 HD HBD ⊢
      go_wp2_with fail
      have hst := HD.out
      rw [← Ctr.cm_length key nonce l m] at hst
      obtain ⟨s1, s2⟩ := hst.set m (y ^^^ x) (Fld.xor_lt _ _ hs8 hx)
      rw [NX.out, Ctr.cm_length] at s1
      have s3 := below_only HBD.out (Nat.le_refl _) s2 (fun q hq => by cases hq; exact hbg)
      go_roundw
      case rel => exact ⟨m + 1, by omega, by go_num, s1, s3⟩
      case measure => simp [intOf]; omega
    · obtain rfl : m = l.length := by omega
      have hd : decide ((l.length : Int) < (l.length : Int)) = false := by simp
      clear ho hb
      go_wp2_with fail
      go_ret
      have ho5 := HO.out
      rw [Ctr.cm_all] at ho5
      exact ⟨_, rfl, ho5, HB.out⟩
end Go.Proofs.Ytibgmoapkionjaa
