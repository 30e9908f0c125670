/- The reference's Round: walked. -/
import Derived.Test.YtibgmoapkionjaaAesJ
namespace Go.Proofs.Ytibgmoapkionjaa
open Go.RowKit Go.Deep

theorem Aes.mx_form (s : Nat → Nat) (hs : Aes.B8 s) (r c : Nat) (hr : r < 4) : Aes.mx Aes.mixN s (r + 4 * c) = (((Fld.xt (s (r + 4 * c)) ^^^ Fld.xt (s ((r + 1) % 4 + 4 * c))) ^^^ s ((r + 1) % 4 + 4 * c)) ^^^ s ((r + 2) % 4 + 4 * c)) ^^^ s ((r + 3) % 4 + 4 * c) := by
  unfold Aes.mx
  rw [show (r + 4 * c) % 4 = r by omega, show (r + 4 * c) / 4 = c by omega]
  simp only [dotP, Nat.zero_xor, Aes.mixN, Aes.n4, Nat.add_zero]
  rw [show r % 4 = r by omega, Aes.gm_2 _ (hs _), Aes.gm_3 _ (hs _), Fld.gm_one _ (hs _), Fld.gm_one _ (hs _)]
  ac_rfl
/-- The state of the reference's Round. -/
def QF (b k : Nat → Nat) (w wr : World) : Prop :=
  Below w.heap.size w wr ∧ isArr wr w.heap.size 22 .u8 16 b ∧ isArr wr (w.heap.size + 1) 22 .u8 16 k ∧ isArr wr (w.heap.size + 2) 28 .u8 256 Fld.sb ∧ isArr wr (w.heap.size + 3) 22 .u8 16 (fun _ => 0)
theorem QF.below {b k : Nat → Nat} {w wr w' : World} (h : QF b k w wr) (e : Below wr.heap.size wr w') : QF b k w w' := ⟨h.1.trans (e.mono h.1.size), h.2.1.below e h.2.1.lt, h.2.2.1.below e h.2.2.1.lt, h.2.2.2.1.below e h.2.2.2.1.lt, h.2.2.2.2.below e h.2.2.2.2.lt⟩
theorem QF.set {b k : Nat → Nat} {w wr : World} (h : QF b k w wr) {g : Nat} (hg : w.heap.size + 3 < g) (i : Nat) (v : Value) : QF b k w (wr.setCell ⟨g, i, none⟩ v) :=
  ⟨below_set h.1 (by omega) _ _, h.2.1.setOther (by omega) _ _, h.2.2.1.setOther (by omega) _ _, h.2.2.2.1.setOther (by omega) _ _, h.2.2.2.2.setOther (by omega) _ _⟩
theorem QF.drewN {b k : Nat → Nat} {w wr : World} (h : QF b k w wr) (n : Nat) : QF b k w (wr.drewN n) := ⟨below_drewN h.1 n, h.2.1, h.2.2.1, h.2.2.2.1, h.2.2.2.2⟩
/-- The first m of x. -/
def fst (x : Nat → Nat) (m t : Nat) : Nat := if t < m then x t else 0
theorem fst_next (x : Nat → Nat) (m v t : Nat) (hv : v = x m) : (if t = m then v else fst x m t) = fst x (m + 1) t := by
  unfold fst
  by_cases e : t = m
  · subst e; rw [if_pos rfl, if_pos (by omega), hv]
  · rw [if_neg e]
    by_cases e2 : t < m
    · rw [if_pos e2, if_pos (by omega)]
    · rw [if_neg e2, if_neg (by omega)]

set_option maxRecDepth 100000 in
set_option maxHeartbeats 8000000 in
theorem refround_any (b k : Nat → Nat) (last : Bool) (w : World) (hb : Aes.B8 b) (hk : Aes.B8 k) : Calls Try.prog 22 #[.agg (arr .u8 16 b), .agg (arr .u8 16 k), .bool last, .agg (arr .u8 256 Fld.sb)] w fun e w' => e = .returned (.agg (arr .u8 16 (Aes.round b k last))) ∧ Below w.heap.size w w' := by
  have hsz := arr_size .u8 16 b
  have hsz2 := arr_size .u8 16 k
  have hsz3 := arr_size .u8 256 Fld.sb
  have HB := Lib.hid hb; clear hb
  have HK := Lib.hid hk; clear hk
  have RD : ∀ t, Aes.round b k last t = (if last then Aes.sr b t else Aes.mx Aes.mixN (Aes.sr b) t) ^^^ k t := fun t => by unfold Aes.round; cases last <;> rfl
  have HRD := Lib.hid RD
  obtain ⟨R, hR⟩ : ∃ R, R = Aes.round b k last := ⟨_, rfl⟩
  rw [← hR] at HRD ⊢
  clear RD hR
  go_enter Try.func22, Try.ntmps22
  go_upto_region 2 with fail
  generalize hW : ((((World.alloc _ _).alloc _).alloc _).alloc _ : World) = W
  have INV : QF b k w W ∧ isArr W (w.heap.size + 4) 22 .u8 16 (fst (Aes.sr b) (4 * 0)) := by
    rw [← hW]
    have z1 : w.heap.size + 1 = (w.alloc (Obj.cells (arr IntKind.u8 16 b) 22)).heap.size := by simp
    have z2 : w.heap.size + 2 = ((w.alloc (Obj.cells (arr IntKind.u8 16 b) 22)).alloc (Obj.cells (arr IntKind.u8 16 k) 22)).heap.size := by simp
    have z3 : w.heap.size + 3 = (((w.alloc (Obj.cells (arr IntKind.u8 16 b) 22)).alloc (Obj.cells (arr IntKind.u8 16 k) 22)).alloc (Obj.cells (arr IntKind.u8 256 Fld.sb) 28)).heap.size := by simp
    have z4 : ∀ o, w.heap.size + 4 = ((((w.alloc (Obj.cells (arr IntKind.u8 16 b) 22)).alloc (Obj.cells (arr IntKind.u8 16 k) 22)).alloc (Obj.cells (arr IntKind.u8 256 Fld.sb) 28)).alloc o).heap.size := fun _ => by simp
    refine ⟨⟨(((((Below.refl _ _).alloc (Nat.le_refl _) _).alloc (by simp) _).alloc (by simp; omega) _).alloc (by simp; omega) _).alloc (by simp; omega) _, ?_, ?_, ?_, ?_⟩, ?_⟩
    · exact ((((isArr_new w _ _ _ _).alloc _).alloc _).alloc _).alloc _
    · rw [z1]; exact (((isArr_new _ _ _ _ _).alloc _).alloc _).alloc _
    · rw [z2]; exact ((isArr_new _ _ _ _ _).alloc _).alloc _
    · rw [z3]; first | exact zero16.alloc _ | exact zero16r.alloc _
    · rw [z4]; first | exact zero16.congr fun t _ => (if_neg (by omega)).symm | exact zero16r.congr fun t _ => (if_neg (by omega)).symm
  have I0 := Lib.hid INV
  clear hW INV
  go_wp2_with fail
  go_loopw [10, 11] (fun i _ wr => ∃ c : Nat, c ≤ 4 ∧ i = .int .i64 c ∧ QF b k w wr ∧ isArr wr (w.heap.size + 4) 22 .u8 16 (fst (Aes.sr b) (4 * c))) (fun i _ _ => 4 - (intOf i).toNat)
  case atStart => exact ⟨0, by omega, rfl, I0.out⟩
  case round =>
    clear I0
    obtain ⟨c, hc, rfl, hm⟩ := hrel
    have HM := Lib.hid hm
    clear hm
    by_cases hlt : c < 4
    · have hd : decide ((c : Int) < 4) = true := by simp; omega
      have lc : (c : Int) < 4 := by omega
      have nc : 0 ≤ (c : Int) := by omega
      go_wp2_with fail
      go_loopw [11] (fun i wr => ∃ r : Nat, r ≤ 4 ∧ i = .int .i64 r ∧ QF b k w wr ∧ isArr wr (w.heap.size + 4) 22 .u8 16 (fst (Aes.sr b) (r + 4 * c))) (fun i _ => 4 - (intOf i).toNat)
      case atStart => exact ⟨0, by omega, rfl, by rw [Nat.zero_add]; exact HM.out⟩
      case round =>
        clear HM
        obtain ⟨r, hr, rfl, hq, hs⟩ := hrel
        by_cases hlr : r < 4
        · have hdr : decide ((r : Int) < 4) = true := by simp; omega
          have lr : (r : Int) < 4 := by omega
          have nr : 0 ≤ (r : Int) := by omega
          have cb := hq.2.1.cell (i := r + 4 * ((c + r) % 4)) (by omega)
          have hy := HB.out (r + 4 * ((c + r) % 4))
          have cx := hq.2.2.2.1.cell (i := b (r + 4 * ((c + r) % 4))) hy
          have cm := hs.cell (i := r + 4 * c) (by omega)
          have fm := hs.frozen (r + 4 * c)
          have hv : Fld.sb (b (r + 4 * ((c + r) % 4))) = Aes.sr b (r + 4 * c) := by
            unfold Aes.sr
            rw [show (r + 4 * c) % 4 = r by omega, show (r + 4 * c) / 4 = c by omega]
          have J := Lib.hid (show QF b k w (wr.setCell ⟨w.heap.size + 4, r + 4 * c, none⟩ (.int .u8 ((Fld.sb (b (r + 4 * ((c + r) % 4))) : Nat) : Int))) ∧ isArr (wr.setCell ⟨w.heap.size + 4, r + 4 * c, none⟩ (.int .u8 ((Fld.sb (b (r + 4 * ((c + r) % 4))) : Nat) : Int))) (w.heap.size + 4) 22 .u8 16 (fst (Aes.sr b) (r + 1 + 4 * c)) from ⟨hq.set (by omega) _ _, (hs.set (r + 4 * c) _).congr fun t _ => by rw [show r + 1 + 4 * c = r + 4 * c + 1 by omega]; exact fst_next _ _ _ _ hv⟩)
          clear hq hs hv
          generalize b (r + 4 * ((c + r) % 4)) = y at cb cx J hy
          have ny : 0 ≤ (y : Int) := by omega
          have ly : (y : Int) < 256 := by omega
          go_wp2_with fail
          go_roundw
          case rel => exact ⟨r + 1, by omega, by go_num, J.out⟩
          case measure => simp [intOf]; omega
        · obtain rfl : r = 4 := by omega
          have hd4 : decide (((4 : Nat) : Int) < 4) = false := by decide
          have HM := Lib.hid (show QF b k w wr ∧ isArr wr (w.heap.size + 4) 22 .u8 16 (fst (Aes.sr b) (4 * (c + 1))) from ⟨hq, by rw [show 4 * (c + 1) = 4 + 4 * c by omega]; exact hs⟩)
          clear hq hs hlr
          go_wp2_with fail
          go_roundw
          case rel => exact ⟨c + 1, by omega, by go_num, HM.out⟩
          case measure => simp [intOf]; omega
    · obtain rfl : c = 4 := by omega
      have hd : decide (((4 : Nat) : Int) < 4) = false := by decide
      have hs : isArr wr (w.heap.size + 4) 22 .u8 16 (Aes.sr b) := HM.out.2.congr fun t ht => if_pos (by omega)
      have hS8 := Aes.sr_b8 HB.out
      have HQ := Lib.hid (And.intro HM.out.1 hs)
      have hlt5 := hs.lt
      have HS8 := Lib.hid hS8
      clear HM hlt hs hS8
      generalize Aes.sr b = s at HQ HRD HS8
      cases last
      · go_upto_region 10 with fail
        have hD : ∀ o : Obj, QF b k w (wr.alloc o) ∧ isArr (wr.alloc o) (w.heap.size + 4) 22 .u8 16 s := fun o => ⟨HQ.out.1.below ((Below.refl _ _).alloc (Nat.le_refl _) _), HQ.out.2.alloc _⟩
        generalize hW : World.alloc wr _ = W2
        have hA : QF b k w W2 ∧ isArr W2 (w.heap.size + 4) 22 .u8 16 s ∧ isArr W2 wr.heap.size 22 .u8 16 (fst R (4 * 0)) := by
          rw [← hW]
          refine ⟨(hD _).1, (hD _).2, ?_⟩
          first | exact zero16.congr fun t _ => (if_neg (by omega)).symm | exact zero16r.congr fun t _ => (if_neg (by omega)).symm
        have A2 := Lib.hid hA
        clear hW hA hD HQ
        generalize wr.heap.size = g at A2 hlt5 ⊢
        go_wp2_with fail
        go_loopw [13, 14, 15, 16] (fun i _ _ _ wr => ∃ c : Nat, c ≤ 4 ∧ i = .int .i64 c ∧ QF b k w wr ∧ isArr wr (w.heap.size + 4) 22 .u8 16 s ∧ isArr wr g 22 .u8 16 (fst R (4 * c))) (fun i _ _ _ _ => 4 - (intOf i).toNat)
        case atStart => exact ⟨0, by omega, rfl, A2.out⟩
        case round =>
          clear A2
          obtain ⟨c, hc, rfl, hm⟩ := hrel
          have HM := Lib.hid hm
          clear hm
          by_cases hlt : c < 4
          · have hd : decide ((c : Int) < 4) = true := by simp; omega
            have lc : (c : Int) < 4 := by omega
            have nc : 0 ≤ (c : Int) := by omega
            go_wp2_with fail
            go_loopw [14, 15, 16] (fun i _ _ wr => ∃ r : Nat, r ≤ 4 ∧ i = .int .i64 r ∧ QF b k w wr ∧ isArr wr (w.heap.size + 4) 22 .u8 16 s ∧ isArr wr g 22 .u8 16 (fst R (r + 4 * c))) (fun i _ _ _ => 4 - (intOf i).toNat)
            case atStart => exact ⟨0, by omega, rfl, by rw [Nat.zero_add]; exact HM.out⟩
            case round =>
              clear HM
              obtain ⟨r, hr, rfl, hq, hs, ho⟩ := hrel
              by_cases hlr : r < 4
              · have hdr : decide ((r : Int) < 4) = true := by simp; omega
                have lr : (r : Int) < 4 := by omega
                have nr : 0 ≤ (r : Int) := by omega
                have ck := hq.2.2.1.cell (i := r + 4 * c) (by omega)
                have cx := hs.cell (i := r + 4 * c) (by omega)
                have co := ho.cell (i := r + 4 * c) (by omega)
                have fo := ho.frozen (r + 4 * c)
                have hk8 := HK.out (r + 4 * c)
                have hx8 := HS8.out (r + 4 * c)
                have cy := hs.cell (i := (r + 1) % 4 + 4 * c) (by omega)
                have c2 := hs.cell (i := (r + 2) % 4 + 4 * c) (by omega)
                have c3 := hs.cell (i := (r + 3) % 4 + 4 * c) (by omega)
                have hy8 := HS8.out ((r + 1) % 4 + 4 * c)
                have h28 := HS8.out ((r + 2) % 4 + 4 * c)
                have h38 := HS8.out ((r + 3) % 4 + 4 * c)
                obtain ⟨v, hvd⟩ : ∃ v, v = (((Fld.xt (s (r + 4 * c)) ^^^ Fld.xt (s ((r + 1) % 4 + 4 * c))) ^^^ s ((r + 1) % 4 + 4 * c)) ^^^ s ((r + 2) % 4 + 4 * c)) ^^^ s ((r + 3) % 4 + 4 * c) := ⟨_, rfl⟩
                have hv : v ^^^ k (r + 4 * c) = R (r + 4 * c) := by
                  rw [HRD.out (r + 4 * c), if_neg (by decide), Aes.mx_form s HS8.out r c hlr, ← hvd]
                have J := Lib.hid (fun (wq : World) (h1 : QF b k w wq) (h2 : isArr wq (w.heap.size + 4) 22 .u8 16 s) (h3 : isArr wq g 22 .u8 16 (fst R (r + 4 * c))) => show QF b k w (wq.setCell ⟨g, r + 4 * c, none⟩ (.int .u8 ((v ^^^ k (r + 4 * c) : Nat) : Int))) ∧ isArr (wq.setCell ⟨g, r + 4 * c, none⟩ (.int .u8 ((v ^^^ k (r + 4 * c) : Nat) : Int))) (w.heap.size + 4) 22 .u8 16 s ∧ isArr (wq.setCell ⟨g, r + 4 * c, none⟩ (.int .u8 ((v ^^^ k (r + 4 * c) : Nat) : Int))) g 22 .u8 16 (fst R (r + 1 + 4 * c)) from ⟨h1.set (by omega) _ _, h2.setOther (by omega) _ _, (h3.set (r + 4 * c) _).congr fun t _ => by rw [show r + 1 + 4 * c = r + 4 * c + 1 by omega]; exact fst_next _ _ _ _ hv⟩)
                have Q3 := Lib.hid (And.intro hq (And.intro hs ho))
                clear hq hs ho hv
                generalize s (r + 4 * c) = x at cx hx8 hvd
                generalize s ((r + 1) % 4 + 4 * c) = y at cy hy8 hvd
                generalize s ((r + 2) % 4 + 4 * c) = z2 at c2 h28 hvd
                generalize s ((r + 3) % 4 + 4 * c) = z3 at c3 h38 hvd
                generalize k (r + 4 * c) = z at ck hk8 J
                have hx2 := Fld.xt_lt x hx8
                have hy2 := Fld.xt_lt y hy8
                have hx1 : bits .xor .u8 (bits .xor .u8 (bits .xor .u8 (bits .xor .u8 ((Fld.xt x : Nat) : Int) ((Fld.xt y : Nat) : Int)) (y : Int)) (z2 : Int)) (z3 : Int) = (v : Int) := by
                  rw [u8_xor_nat _ _ hx2 hy2, u8_xor_nat _ _ (Fld.xor_lt _ _ hx2 hy2) hy8, u8_xor_nat _ _ (Fld.xor_lt _ _ (Fld.xor_lt _ _ hx2 hy2) hy8) h28, u8_xor_nat _ _ (Fld.xor_lt _ _ (Fld.xor_lt _ _ (Fld.xor_lt _ _ hx2 hy2) hy8) h28) h38, hvd]
                have hv8 : v < 256 := by rw [hvd]; exact Fld.xor_lt _ _ (Fld.xor_lt _ _ (Fld.xor_lt _ _ (Fld.xor_lt _ _ hx2 hy2) hy8) h28) h38
                have hxk := u8_xor_nat _ _ hv8 hk8
                have HX1 := Lib.hid hx1
                have HXK := Lib.hid hxk
                have HVD := Lib.hid hvd
                clear hx1 hxk hvd hx2 hy2
                have tx : ∀ wq, Calls Try.prog 41 #[.int .u8 (x : Int)] wq fun e w' => e = .returned (.int .u8 ((Fld.xt x : Nat) : Int)) ∧ wq = w' := fun wq => twice_any x wq hx8
                have ty : ∀ wq, Calls Try.prog 41 #[.int .u8 (y : Int)] wq fun e w' => e = .returned (.int .u8 ((Fld.xt y : Nat) : Int)) ∧ wq = w' := fun wq => twice_any y wq hy8
                obtain ⟨q2, hq2⟩ : ∃ q, q = (r + 2) % 4 := ⟨_, rfl⟩
                obtain ⟨q3, hq3⟩ : ∃ q, q = (r + 3) % 4 := ⟨_, rfl⟩
                rw [← hq2] at c2
                rw [← hq3] at c3
                have lq2 : q2 < 4 := by omega
                have lq3 : q3 < 4 := by omega
                have t2 : ((r : Int) + 2).tmod 4 = (q2 : Int) := by rw [Int.tmod_eq_emod_of_nonneg (by omega)]; omega
                have t3 : ((r : Int) + 3).tmod 4 = (q3 : Int) := by rw [Int.tmod_eq_emod_of_nonneg (by omega)]; omega
                have n2 : 0 ≤ (q2 : Int) + 4 * (c : Int) := by omega
                have n3 : 0 ≤ (q3 : Int) + 4 * (c : Int) := by omega
                have m2 : (q2 : Int) + 4 * (c : Int) < 16 := by omega
                have m3 : (q3 : Int) + 4 * (c : Int) < 16 := by omega
                have v2 : ((q2 : Int) + 4 * (c : Int)).toNat = q2 + 4 * c := by omega
                have v3 : ((q3 : Int) + 4 * (c : Int)).toNat = q3 + 4 * c := by omega
                clear hq2 hq3
                go_wp2_with fail
                have w2 : IntKind.i64.wrap ((r : Int) + 2) = (r : Int) + 2 := IntWalk.i64_in _ (by omega)
                have w3 : IntKind.i64.wrap ((r : Int) + 3) = (r : Int) + 3 := IntWalk.i64_in _ (by omega)
                have w4 : IntKind.i64.wrap (4 * (c : Int)) = 4 * (c : Int) := IntWalk.i64_in _ (by omega)
                have w5 : IntKind.i64.wrap ((q2 : Int) + 4 * (c : Int)) = (q2 : Int) + 4 * (c : Int) := IntWalk.i64_in _ (by omega)
                have w6 : IntKind.i64.wrap ((q3 : Int) + 4 * (c : Int)) = (q3 : Int) + 4 * (c : Int) := IntWalk.i64_in _ (by omega)
                go_quiet ((go_at_call 41; exact quiet_left (twice_any _ _ (by first | exact hx8 | exact hy8))))
                rw [HX1.out]
                clear w2 w3 w4 w5 w6 t2 t3 n2 n3 m2 m3 v2 v3 tx ty
                have ck2 : (wr.drewN nq).cell? ⟨w.heap.size + 1, r + 4 * c, none⟩ = some (.int .u8 (z : Int)) := ck
                have co2 : (wr.drewN nq).cell? ⟨g, r + 4 * c, none⟩ = some (.int .u8 ((fst R (r + 4 * c) (r + 4 * c) : Nat) : Int)) := co
                have fo2 : (wr.drewN nq).frozen? ⟨g, r + 4 * c, none⟩ = false := fo
                have JJ := Lib.hid (J.out (wr.drewN nq) (Q3.out.1.drewN nq) (Q3.out.2.1.drewN nq) (Q3.out.2.2.drewN nq))
                have hxk := HXK.out
                clear ck co fo cx cy c2 c3 J Q3
                generalize wr.drewN nq = wd at ck2 co2 fo2 JJ ⊢
                go_wp2_with fail
                go_roundw
                case rel => exact ⟨r + 1, by omega, by go_num, JJ.out⟩
                case measure => simp [intOf]; omega
              · obtain rfl : r = 4 := by omega
                have hd4 : decide (((4 : Nat) : Int) < 4) = false := by decide
                have HM := Lib.hid (show QF b k w wr ∧ isArr wr (w.heap.size + 4) 22 .u8 16 s ∧ isArr wr g 22 .u8 16 (fst R (4 * (c + 1))) from ⟨hq, hs, by rw [show 4 * (c + 1) = 4 + 4 * c by omega]; exact ho⟩)
                clear hq hs ho hlr
                go_wp2_with fail
                go_roundw
                case rel => exact ⟨c + 1, by omega, by go_num, HM.out⟩
                case measure => simp [intOf]; omega
          · obtain rfl : c = 4 := by omega
            have hd : decide (((4 : Nat) : Int) < 4) = false := by decide
            have k1 : isArr wr g 22 .u8 16 R := HM.out.2.2.congr fun t ht => if_pos (by omega)
            have k7 := HM.out.1.2.2.2.2
            clear hlt
            go_wp2_with (first | refine wpList_load_row rfl _ _ rfl g rfl _ _ (0, 0) _ k1 rfl rfl (info16 _) ?_ | (refine wpList_store_row rfl _ _ _ rfl (w.heap.size + 3) _ rfl rfl _ _ k7 (info16 _) ((arr_size _ _ _).trans (arr_size _ _ _).symm) (arr_one _ _ _) ?_))
            exact bodyPost_ret (results_cell_row rfl _ _ (w.heap.size + 3) _ _ (0, 0) _ rfl (setRow_heap _ (w.heap.size + 3) _ _ _ (0, 0) k7) rfl rfl (info16 _)) rfl ⟨rfl, below_setRow HM.out.1.1 (by omega) _⟩
      · go_upto_region 10 with fail
        have hD : ∀ o : Obj, QF b k w (wr.alloc o) ∧ isArr (wr.alloc o) (w.heap.size + 4) 22 .u8 16 s := fun o => ⟨HQ.out.1.below ((Below.refl _ _).alloc (Nat.le_refl _) _), HQ.out.2.alloc _⟩
        generalize hW : World.alloc wr _ = W2
        have hA : QF b k w W2 ∧ isArr W2 (w.heap.size + 4) 22 .u8 16 s ∧ isArr W2 wr.heap.size 22 .u8 16 (fst R (4 * 0)) := by
          rw [← hW]
          refine ⟨(hD _).1, (hD _).2, ?_⟩
          first | exact zero16.congr fun t _ => (if_neg (by omega)).symm | exact zero16r.congr fun t _ => (if_neg (by omega)).symm
        have A2 := Lib.hid hA
        clear hW hA hD HQ
        generalize wr.heap.size = g at A2 hlt5 ⊢
        go_wp2_with fail
        go_loopw [13, 14, 15, 16] (fun i _ _ _ wr => ∃ c : Nat, c ≤ 4 ∧ i = .int .i64 c ∧ QF b k w wr ∧ isArr wr (w.heap.size + 4) 22 .u8 16 s ∧ isArr wr g 22 .u8 16 (fst R (4 * c))) (fun i _ _ _ _ => 4 - (intOf i).toNat)
        case atStart => exact ⟨0, by omega, rfl, A2.out⟩
        case round =>
          clear A2
          obtain ⟨c, hc, rfl, hm⟩ := hrel
          have HM := Lib.hid hm
          clear hm
          by_cases hlt : c < 4
          · have hd : decide ((c : Int) < 4) = true := by simp; omega
            have lc : (c : Int) < 4 := by omega
            have nc : 0 ≤ (c : Int) := by omega
            go_wp2_with fail
            go_loopw [14, 15, 16] (fun i _ _ wr => ∃ r : Nat, r ≤ 4 ∧ i = .int .i64 r ∧ QF b k w wr ∧ isArr wr (w.heap.size + 4) 22 .u8 16 s ∧ isArr wr g 22 .u8 16 (fst R (r + 4 * c))) (fun i _ _ _ => 4 - (intOf i).toNat)
            case atStart => exact ⟨0, by omega, rfl, by rw [Nat.zero_add]; exact HM.out⟩
            case round =>
              clear HM
              obtain ⟨r, hr, rfl, hq, hs, ho⟩ := hrel
              by_cases hlr : r < 4
              · have hdr : decide ((r : Int) < 4) = true := by simp; omega
                have lr : (r : Int) < 4 := by omega
                have nr : 0 ≤ (r : Int) := by omega
                have ck := hq.2.2.1.cell (i := r + 4 * c) (by omega)
                have cx := hs.cell (i := r + 4 * c) (by omega)
                have co := ho.cell (i := r + 4 * c) (by omega)
                have fo := ho.frozen (r + 4 * c)
                have hk8 := HK.out (r + 4 * c)
                have hx8 := HS8.out (r + 4 * c)
                have hv : s (r + 4 * c) ^^^ k (r + 4 * c) = R (r + 4 * c) := (HRD.out (r + 4 * c)).symm
                have J := Lib.hid (fun (wq : World) (h1 : QF b k w wq) (h2 : isArr wq (w.heap.size + 4) 22 .u8 16 s) (h3 : isArr wq g 22 .u8 16 (fst R (r + 4 * c))) => show QF b k w (wq.setCell ⟨g, r + 4 * c, none⟩ (.int .u8 ((s (r + 4 * c) ^^^ k (r + 4 * c) : Nat) : Int))) ∧ isArr (wq.setCell ⟨g, r + 4 * c, none⟩ (.int .u8 ((s (r + 4 * c) ^^^ k (r + 4 * c) : Nat) : Int))) (w.heap.size + 4) 22 .u8 16 s ∧ isArr (wq.setCell ⟨g, r + 4 * c, none⟩ (.int .u8 ((s (r + 4 * c) ^^^ k (r + 4 * c) : Nat) : Int))) g 22 .u8 16 (fst R (r + 1 + 4 * c)) from ⟨h1.set (by omega) _ _, h2.setOther (by omega) _ _, (h3.set (r + 4 * c) _).congr fun t _ => by rw [show r + 1 + 4 * c = r + 4 * c + 1 by omega]; exact fst_next _ _ _ _ hv⟩)
                have hxk := u8_xor_nat _ _ hx8 hk8
                have JJ := Lib.hid (J.out wr hq hs ho)
                clear hq hs ho hv J
                generalize s (r + 4 * c) = x at cx hx8 JJ hxk
                generalize k (r + 4 * c) = z at ck hk8 JJ hxk
                go_wp2_with fail
                go_roundw
                case rel => exact ⟨r + 1, by omega, by go_num, JJ.out⟩
                case measure => simp [intOf]; omega
              · obtain rfl : r = 4 := by omega
                have hd4 : decide (((4 : Nat) : Int) < 4) = false := by decide
                have HM := Lib.hid (show QF b k w wr ∧ isArr wr (w.heap.size + 4) 22 .u8 16 s ∧ isArr wr g 22 .u8 16 (fst R (4 * (c + 1))) from ⟨hq, hs, by rw [show 4 * (c + 1) = 4 + 4 * c by omega]; exact ho⟩)
                clear hq hs ho hlr
                go_wp2_with fail
                go_roundw
                case rel => exact ⟨c + 1, by omega, by go_num, HM.out⟩
                case measure => simp [intOf]; omega
          · obtain rfl : c = 4 := by omega
            have hd : decide (((4 : Nat) : Int) < 4) = false := by decide
            have k1 : isArr wr g 22 .u8 16 R := HM.out.2.2.congr fun t ht => if_pos (by omega)
            have k7 := HM.out.1.2.2.2.2
            clear hlt
            go_wp2_with (first | refine wpList_load_row rfl _ _ rfl g rfl _ _ (0, 0) _ k1 rfl rfl (info16 _) ?_ | (refine wpList_store_row rfl _ _ _ rfl (w.heap.size + 3) _ rfl rfl _ _ k7 (info16 _) ((arr_size _ _ _).trans (arr_size _ _ _).symm) (arr_one _ _ _) ?_))
            exact bodyPost_ret (results_cell_row rfl _ _ (w.heap.size + 3) _ _ (0, 0) _ rfl (setRow_heap _ (w.heap.size + 3) _ _ _ (0, 0) k7) rfl rfl (info16 _)) rfl ⟨rfl, below_setRow HM.out.1.1 (by omega) _⟩
end Go.Proofs.Ytibgmoapkionjaa
