import Derived.Test.YtgalddnblciciaaDoorShaR
import Derived.Test.YtgalddnblciciaaDoorShaS
namespace Go.Proofs.YtgalddnblciciaaDoor
open Go.RowKit Go.Deep

/-- rot of the reference, the count an Int. -/
theorem refrot_int (x k : Int) (w : World) (hx : 0 ≤ x ∧ x < 4294967296) (hk : 1 ≤ k ∧ k < 32) :
    Calls Tryd.prog 40 #[.int .u32 x, .int .u64 k] w fun e w' => e = .returned (.int .u32 ↑(Sha.rotr x.toNat k.toNat)) ∧ w = w' := by
  obtain ⟨n, rfl⟩ := Int.eq_ofNat_of_zero_le (show 0 ≤ k by omega)
  exact refrot_any x n w hx (by omega) (by omega)

/-- What holds in the reference's block: the words are f. -/
def RB (s : Sha.St) (b K f : Nat → Nat) (w wr : World) : Prop :=
  Below w.heap.size w wr ∧ isArr wr w.heap.size 32 .u32 8 s.at ∧ isArr wr (w.heap.size + 1) 33 .u8 64 b ∧ isArr wr (w.heap.size + 2) 37 .u32 64 K ∧ isArr wr (w.heap.size + 3) 32 .u32 8 (fun _ => 0) ∧
    isArr wr (w.heap.size + 4) 37 .u32 64 f
theorem RB.drewN {s : Sha.St} {b K f : Nat → Nat} {w wr : World} (h : RB s b K f w wr) (n : Nat) : RB s b K f w (wr.drewN n) := ⟨below_drewN h.1 n, h.2.1, h.2.2.1, h.2.2.2.1, h.2.2.2.2.1, h.2.2.2.2.2⟩
theorem RB.congr {s : Sha.St} {b K f g : Nat → Nat} {w wr : World} (h : RB s b K f w wr) (e : ∀ j, j < 64 → f j = g j) : RB s b K g w wr := ⟨h.1, h.2.1, h.2.2.1, h.2.2.2.1, h.2.2.2.2.1, h.2.2.2.2.2.congr e⟩
theorem RB.set {s : Sha.St} {b K f g : Nat → Nat} {w wr : World} (h : RB s b K f w wr) (i x : Nat) (e : ∀ j, j < 64 → (if j = i then x else f j) = g j) : RB s b K g w (wr.setCell ⟨w.heap.size + 4, i, none⟩ (.int .u32 (x : Int))) :=
  ⟨below_set h.1 (by omega) _ _, h.2.1.setOther (by omega) _ _, h.2.2.1.setOther (by omega) _ _, h.2.2.2.1.setOther (by omega) _ _, h.2.2.2.2.1.setOther (by omega) _ _, (h.2.2.2.2.2.set i x).congr e⟩

theorem ch_form2 (e f g : Nat) (he : e < 4294967296) (hf : f < 4294967296) (hg : g < 4294967296) :
    bits .xor .u32 (bits .and .u32 (e : Int) (f : Int)) (bits .and .u32 (bits .xor .u32 IntKind.u32.max (e : Int)) (g : Int)) = ((Sha.ch e f g : Nat) : Int) := ch_form e f g he hf hg
/-- .. and the state's words are g, in the block gv. -/
def RV (s : Sha.St) (b K : Nat → Nat) (gv : Nat) (g : Nat → Nat) (w wr : World) : Prop := RB s b K (Sha.wd b) w wr ∧ w.heap.size + 5 ≤ gv ∧ isArr wr gv 32 .u32 8 g
theorem RV.drewN {s : Sha.St} {b K : Nat → Nat} {gv : Nat} {g : Nat → Nat} {w wr : World} (h : RV s b K gv g w wr) (n : Nat) : RV s b K gv g w (wr.drewN n) := ⟨h.1.drewN n, h.2.1, h.2.2⟩
theorem RV.congr {s : Sha.St} {b K : Nat → Nat} {gv : Nat} {g g' : Nat → Nat} {w wr : World} (h : RV s b K gv g w wr) (e : ∀ j, j < 8 → g j = g' j) : RV s b K gv g' w wr := ⟨h.1, h.2.1, h.2.2.congr e⟩
theorem RV.set {s : Sha.St} {b K : Nat → Nat} {gv : Nat} {g : Nat → Nat} {w wr : World} (h : RV s b K gv g w wr) (i x : Nat) : RV s b K gv (fun j => if j = i then x else g j) w (wr.setCell ⟨gv, i, none⟩ (.int .u32 (x : Int))) := by
  obtain ⟨⟨h1, h2, h3, h4, h5, h6⟩, h7, h8⟩ := h
  exact ⟨⟨below_set h1 (by omega) _ _, h2.setOther (by omega) _ _, h3.setOther (by omega) _ _, h4.setOther (by omega) _ _, h5.setOther (by omega) _ _, h6.setOther (by omega) _ _⟩, h7, h8.set i x⟩
/-- The words of a state while they move by one place: those above q have moved. -/
def moved (x : Sha.St) (q j : Nat) : Nat := if q < j then x.at (j - 1) else x.at j
theorem moved_next (x : Sha.St) (q : Nat) (j : Nat) : (if j = q + 1 then x.at q else moved x (q + 1) j) = moved x q j := by
  unfold moved
  by_cases e : j = q + 1
  · subst e; rw [if_pos rfl, if_pos (by omega), Nat.add_sub_cancel]
  · rw [if_neg e]
    by_cases e2 : q + 1 < j
    · rw [if_pos e2, if_pos (by omega)]
    · rw [if_neg e2, if_neg (by omega)]
theorem moved_start (x : Sha.St) (j : Nat) (h : j < 8) : moved x 7 j = x.at j := by unfold moved; rw [if_neg (by omega)]
theorem moved_round (x : Sha.St) (k v : Nat) (j : Nat) (h : j < 8) : (if j = 0 then (Sha.t1 x k v + Sha.t2 x) % 4294967296 else if j = 4 then (x.d + Sha.t1 x k v) % 4294967296 else moved x 0 j) = (Sha.round x k v).at j := by
  unfold Sha.round
  generalize Sha.t1 x k v = t
  generalize Sha.t2 x = u
  unfold moved
  rcases j with _ | _ | _ | _ | _ | _ | _ | _ | j
  all_goals first | omega | simp [Sha.St.at]

set_option maxRecDepth 100000 in
set_option maxHeartbeats 4000000 in
theorem refblock_any (s : Sha.St) (b K : Nat → Nat) (w : World) (hs : Sha.St32 s) (hb : ∀ i, b i < 256) :
    Calls Tryd.prog 19 #[.agg (arr .u32 8 s.at), .agg (arr .u8 64 b), .agg (arr .u32 64 K)] w fun e w' => e = .returned (.agg (arr .u32 8 (Sha.blk K s b).at)) ∧ Below w.heap.size w w' := by
  have HS := Lib.hid hs; clear hs
  have HB := Lib.hid hb; clear hb
  go_enter Tryd.func19, Tryd.ntmps19
  go_upto_region 2 with fail
  generalize hW : ((((w.alloc _).alloc _).alloc _).alloc _).alloc _ = W
  have INV : RB s b K (fun j => (Sha.first b 0).getD j 0) w W := by
    rw [← hW]
    have z1 : w.heap.size + 1 = (w.alloc (Obj.cells (arr IntKind.u32 8 s.at) 32)).heap.size := by simp
    have z2 : w.heap.size + 2 = ((w.alloc (Obj.cells (arr IntKind.u32 8 s.at) 32)).alloc (Obj.cells (arr IntKind.u8 64 b) 33)).heap.size := by simp
    have z3 : w.heap.size + 3 = (((w.alloc (Obj.cells (arr IntKind.u32 8 s.at) 32)).alloc (Obj.cells (arr IntKind.u8 64 b) 33)).alloc (Obj.cells (arr IntKind.u32 64 K) 37)).heap.size := by simp
    have z4 : w.heap.size + 4 = ((((w.alloc (Obj.cells (arr IntKind.u32 8 s.at) 32)).alloc (Obj.cells (arr IntKind.u8 64 b) 33)).alloc (Obj.cells (arr IntKind.u32 64 K) 37)).alloc (.cells (Array.replicate 8 (.int .u32 0)) 32)).heap.size := by simp
    refine ⟨(((((Below.refl _ _).alloc (Nat.le_refl _) _).alloc (by simp) _).alloc (by simp; omega) _).alloc (by simp; omega) _).alloc (by simp; omega) _, ?_, ?_, ?_, ?_, ?_⟩
    · exact ((((isArr_new w _ _ _ _).alloc _).alloc _).alloc _).alloc _
    · rw [z1]; exact (((isArr_new _ _ _ _ _).alloc _).alloc _).alloc _
    · rw [z2]; exact ((isArr_new _ _ _ _ _).alloc _).alloc _
    · rw [z3]; exact (isArr_lit _ _ _ _ _ (Array.replicate 8 (.int .u32 0)) (by simp) (fun i hi => zeros_get _ _ _ hi)).alloc _
    · rw [z4]; exact isArr_lit _ _ _ _ _ (Array.replicate 64 (.int .u32 0)) (by simp) (fun i hi => by rw [zeros_get _ _ _ hi]; rfl)
  have I0 := Lib.hid INV
  clear hW INV
  go_wp2_with fail
  go_loopw [8] (fun i wr => ∃ k : Nat, k ≤ 16 ∧ i = .int .i64 k ∧ RB s b K (fun j => (Sha.first b k).getD j 0) w wr) (fun i _ => 16 - (intOf i).toNat)
  case atStart => exact ⟨0, by omega, rfl, I0.out⟩
  case round =>
    clear I0
    obtain ⟨i, hi, rfl, hinv⟩ := hrel
    have INV := Lib.hid hinv
    clear hinv
    by_cases hlt : i < 16
    · have hd16 : decide ((i : Int) < 16) = true := by simp; omega
      go_wp2_with fail
      go_loopw [9] (fun j wr => ∃ k : Nat, k ≤ 4 ∧ j = .int .i64 k ∧ RB s b K (fun j => (Sha.first b i ++ [Sha.pw b i k]).getD j 0) w wr) (fun j _ => 4 - (intOf j).toNat)
      case atStart => exact ⟨0, by omega, rfl, INV.out.congr fun j _ => (Sha.getD_app_zero _ _).symm⟩
      case round =>
        clear INV
        obtain ⟨k, hk, rfl, hinv⟩ := hrel
        have INV := Lib.hid hinv
        by_cases hlk : k < 4
        · have cb := hinv.2.2.1.cell (i := 4 * i + k) (by omega)
          have cw := hinv.2.2.2.2.2.cell (i := i) (by omega)
          have fw := hinv.2.2.2.2.2.frozen i
          have e1 : (Sha.first b i ++ [Sha.pw b i k]).getD i 0 = Sha.pw b i k := by
            have := Sha.getD_last (Sha.first b i) (Sha.pw b i k)
            rwa [Sha.first_length] at this
          rw [e1] at cw
          have hx : Sha.pw b i k < 16777216 := Nat.lt_of_lt_of_le (Sha.pw_lt b HB.out i k) (pow_3 k (by omega))
          have hbb := HB.out (4 * i + k)
          have hnext : ∀ j, j < 64 → (if j = i then Sha.pw b i k * 256 + b (4 * i + k) else (Sha.first b i ++ [Sha.pw b i k]).getD j 0) = (Sha.first b i ++ [Sha.pw b i (k + 1)]).getD j 0 := by
            intro j _
            have := Sha.getD_set_last (Sha.first b i) (Sha.pw b i k) (Sha.pw b i (k + 1)) j
            rw [Sha.first_length] at this
            exact this
          have INV2 := Lib.hid (show ∀ n, RB s b K (fun j => (Sha.first b i ++ [Sha.pw b i (k + 1)]).getD j 0) w ((wr.drewN n).setCell ⟨w.heap.size + 4, i, none⟩ (.int .u32 ((Sha.pw b i k * 256 + b (4 * i + k) : Nat) : Int))) from fun n => (INV.out.drewN n).set i _ hnext)
          clear hinv e1 hnext INV
          generalize Sha.pw b i k = x at cw hx INV2
          generalize b (4 * i + k) = c at cb hbb INV2
          obtain ⟨p, hp⟩ : ∃ p : Nat, p = 4 * i + k := ⟨_, rfl⟩
          have lp : (p : Int) < 64 := by omega
          have li : (i : Int) < 64 := by omega
          have np : 0 ≤ (p : Int) := by omega
          have ni : 0 ≤ (i : Int) := by omega
          have w4 : IntKind.i64.wrap (4 * (i : Int)) = 4 * (i : Int) := IntWalk.i64_in _ (by omega)
          have wp4 : IntKind.i64.wrap (4 * (i : Int) + k) = (p : Int) := (IntWalk.i64_in _ (by omega)).trans (by omega)
          rw [← hp] at cb
          have HP := Lib.hid hp; clear hp
          go_wp2_with fail
          go_still_tail 14, (by kernel_rfl)
          change wpList _ _ _ _ _ (wr.drewN 1)
          have hv : IntKind.u32.wrap (IntKind.u32.wrap ((x : Int) * 256) + IntKind.u32.wrap (c : Int)) = ((x * 256 + c : Nat) : Int) := by clear w4 wp4; simp only [IntKind.wrap_u32]; omega
          rw [hv]
          clear hv w4 wp4
          have cw2 : (wr.drewN 1).cell? ⟨w.heap.size + 4, i, none⟩ = some (.int .u32 (x : Int)) := cw
          have fw2 : (wr.drewN 1).frozen? ⟨w.heap.size + 4, i, none⟩ = false := fw
          have INV3 := Lib.hid (INV2.out 1)
          clear INV2 cw fw cb
          generalize wr.drewN 1 = wd at cw2 fw2 INV3 ⊢
          go_wp2_with fail
          have e : (x : Int) * 256 + (c : Int) = ((x * 256 + c : Nat) : Int) := by omega
          go_roundw
          case rel => exact ⟨k + 1, by omega, by go_num, by first | exact INV3.out | (rw [e]; exact INV3.out)⟩
          case measure => simp [intOf]; omega
        · obtain rfl : k = 4 := by omega
          clear hinv
          go_wp2_with fail
          go_roundw
          case rel => exact ⟨i + 1, by omega, by go_num, by rw [Sha.first_succ]; exact INV.out⟩
          case measure => simp [intOf]; omega
    · obtain rfl : i = 16 := by omega
      clear hlt hi
      have INV3 := Lib.hid (show RB s b K (fun j => (Sha.ext b 0).getD j 0) w wr from INV.out)
      clear INV
      go_wp2_with fail
      go_loopw [10] (fun i wr => ∃ m : Nat, m ≤ 48 ∧ i = .int .i64 ((16 + m : Nat) : Int) ∧ RB s b K (fun j => (Sha.ext b m).getD j 0) w wr) (fun i _ => 64 - (intOf i).toNat)
      case atStart => exact ⟨0, by omega, rfl, INV3.out⟩
      case round =>
        clear INV3
        obtain ⟨m, hm, rfl, hinv⟩ := hrel
        by_cases hlt : m < 48
        · have c0 := hinv.2.2.2.2.2.cell (i := m) (by omega)
          have c1 := hinv.2.2.2.2.2.cell (i := m + 1) (by omega)
          have c9 := hinv.2.2.2.2.2.cell (i := m + 9) (by omega)
          have c14 := hinv.2.2.2.2.2.cell (i := m + 14) (by omega)
          have fw := hinv.2.2.2.2.2.frozen (16 + m)
          have cw := hinv.2.2.2.2.2.cell (i := 16 + m) (by omega)
          have h0 := Sha.getD_lt _ (Sha.ext_lt b HB.out m) m
          have h1 := Sha.getD_lt _ (Sha.ext_lt b HB.out m) (m + 1)
          have h9 := Sha.getD_lt _ (Sha.ext_lt b HB.out m) (m + 9)
          have h14 := Sha.getD_lt _ (Sha.ext_lt b HB.out m) (m + 14)
          have hnext : ∀ j, j < 64 → (if j = 16 + m then Sha.nextw (Sha.ext b m) m else (Sha.ext b m).getD j 0) = (Sha.ext b (m + 1)).getD j 0 := by
            intro j _
            have := Sha.getD_set_new (Sha.ext b m) (Sha.nextw (Sha.ext b m) m) j
            rw [Sha.ext_length] at this
            exact this
          have INV4 := Lib.hid (show ∀ n, RB s b K (fun j => (Sha.ext b (m + 1)).getD j 0) w ((wr.drewN n).setCell ⟨w.heap.size + 4, 16 + m, none⟩ (.int .u32 (Sha.nextw (Sha.ext b m) m : Nat))) from fun n => (hinv.drewN n).set (16 + m) _ hnext)
          have hnw : Sha.nextw (Sha.ext b m) m = ((Sha.ext b m).getD m 0 + Sha.s0 ((Sha.ext b m).getD (m + 1) 0) + (Sha.ext b m).getD (m + 9) 0 + Sha.s1 ((Sha.ext b m).getD (m + 14) 0)) % 4294967296 := rfl
          rw [hnw] at INV4
          clear hinv hnext hnw
          generalize (Sha.ext b m).getD m 0 = x0 at c0 h0 INV4
          generalize (Sha.ext b m).getD (m + 1) 0 = x1 at c1 h1 INV4
          generalize (Sha.ext b m).getD (m + 9) 0 = x9 at c9 h9 INV4
          generalize (Sha.ext b m).getD (m + 14) 0 = x14 at c14 h14 INV4
          generalize (Sha.ext b m).getD (16 + m) 0 = xw at cw
          obtain ⟨i, hi⟩ : ∃ i : Nat, i = 16 + m := ⟨_, rfl⟩
          rw [← hi] at INV4 fw cw ⊢
          have hi64 : i < 64 := by omega
          have hi16 : 16 ≤ i := by omega
          have hd : decide ((i : Int) < 64) = true := by simp; omega
          obtain ⟨p1, hp1⟩ : ∃ p : Nat, p = m + 1 := ⟨_, rfl⟩
          obtain ⟨p9, hp9⟩ : ∃ p : Nat, p = m + 9 := ⟨_, rfl⟩
          obtain ⟨p14, hp14⟩ : ∃ p : Nat, p = m + 14 := ⟨_, rfl⟩
          have e15 : (i : Int) - 15 = (p1 : Int) := by omega
          have e2 : (i : Int) - 2 = (p14 : Int) := by omega
          have l1 : (p1 : Int) < 64 := by omega
          have l9 : (p9 : Int) < 64 := by omega
          have l14 : (p14 : Int) < 64 := by omega
          have lm : (m : Int) < 64 := by omega
          have li : (i : Int) < 64 := by omega
          have n1 : 0 ≤ (p1 : Int) := by omega
          have n9 : 0 ≤ (p9 : Int) := by omega
          have n14 : 0 ≤ (p14 : Int) := by omega
          have nm : 0 ≤ (m : Int) := by omega
          have ni : 0 ≤ (i : Int) := by omega
          rw [← hp1] at c1
          rw [← hp9] at c9
          rw [← hp14] at c14
          have b1 : 0 ≤ (x1 : Int) ∧ (x1 : Int) < 4294967296 := by omega
          have b14 : 0 ≤ (x14 : Int) ∧ (x14 : Int) < 4294967296 := by omega
          have W16 := Lib.hid (show IntKind.i64.wrap ((i : Int) - 16) = (m : Int) from (IntWalk.i64_in _ (by omega)).trans (by omega))
          have W7 := Lib.hid (show IntKind.i64.wrap ((i : Int) - 7) = (p9 : Int) from (IntWalk.i64_in _ (by omega)).trans (by omega))
          have HI := Lib.hid (And.intro hi hm); clear hi hp1 hp9 hp14 hm
          go_wp2_with fail
          have w16 := W16.out
          have w7 := W7.out
          go_still_tail 29, (by kernel_rfl)
          repeat (first | still_step | still_call (still_of (refrot_int _ _ _ (by first | exact b1 | exact b14) (by omega))))
          try refine wpStill_nil ?_
          change wpList _ _ _ _ _ (wr.drewN 1)
          have hv : IntKind.u32.wrap (IntKind.u32.wrap (IntKind.u32.wrap ((x0 : Int) + bits BinOp.xor IntKind.u32 (bits BinOp.xor IntKind.u32 ↑(Sha.rotr x1 7) ↑(Sha.rotr x1 18)) ((x1 : Int) / 8)) + (x9 : Int)) + bits BinOp.xor IntKind.u32 (bits BinOp.xor IntKind.u32 ↑(Sha.rotr x14 17) ↑(Sha.rotr x14 19)) ((x14 : Int) / 1024)) = (((x0 + Sha.s0 x1 + x9 + Sha.s1 x14) % 4294967296 : Nat) : Int) := by
            clear w16 w7
            rw [s0_form x1 h1, s1_form x14 h14]
            simp only [IntKind.wrap_u32]
            omega
          rw [hv]
          clear hv w16 w7
          have cw2 : (wr.drewN 1).cell? ⟨w.heap.size + 4, i, none⟩ = some (.int .u32 (xw : Int)) := cw
          have fw2 : (wr.drewN 1).frozen? ⟨w.heap.size + 4, i, none⟩ = false := fw
          have INV5 := Lib.hid (INV4.out 1)
          clear INV4 cw fw c0 c1 c9 c14
          generalize wr.drewN 1 = wd at cw2 fw2 INV5 ⊢
          go_wp2_with fail
          refine ⟨?_, ?measure⟩
          · (repeat apply Exists.intro)
            refine ⟨?rel, rfl⟩
            case rel =>
              have h1 : (i : Int) + 1 = ((16 + (m + 1) : Nat) : Int) := by have := HI.out; omega
              exact ⟨m + 1, by have := HI.out; omega, congrArg (Value.int .i64) h1, INV5.out⟩
          case measure => simp [intOf]; omega
        · obtain rfl : m = 48 := by omega
          have hd : decide (((16 + 48 : Nat) : Int) < 64) = false := by decide
          clear hlt hm
          have hi8 : ∀ f, ((Tryd.prog).info? 32).map (·.size) = some (arr .u32 8 f).size := by intro f; rw [arr_size]; rfl
          have hS := hinv.2.1
          have I4 := Lib.hid (show RB s b K (Sha.wd b) w wr from hinv)
          clear hinv
          go_wp2_with (first | refine wpList_load_row rfl _ _ rfl w.heap.size rfl _ _ (0, 0) _ hS rfl rfl (hi8 _) ?_ | (refine wpList_store_rowTo rfl _ _ _ rfl rfl wr.heap.size _ rfl rfl _ _ (heap_alloc_new _ _) (hi8 _) (by rw [arr_size]; rfl) (arr_one _ _ _) ?_))
          generalize hV : World.setRow _ wr.heap.size _ = V
          have IV : RV s b K wr.heap.size (Sha.rd K s b 0).at w V := by
            rw [← hV]
            obtain ⟨h1, h2, h3, h4, h5, h6⟩ := I4.out
            have hz := h6.lt
            exact ⟨⟨below_setRow (h1.alloc h1.size _) h1.size _, (h2.alloc _).row_other (by omega) _, (h3.alloc _).row_other (by omega) _, (h4.alloc _).row_other (by omega) _, (h5.alloc _).row_other (by omega) _, (h6.alloc _).row_other (by omega) _⟩, by omega, setRow_heap _ _ _ _ _ _ (heap_alloc_new _ _)⟩
          have I5 := Lib.hid IV
          clear hV IV I4 hS
          generalize wr.heap.size = gv at I5 ⊢
          go_loopw [14] (fun i wr => ∃ k : Nat, k ≤ 64 ∧ i = .int .i64 k ∧ RV s b K gv (Sha.rd K s b k).at w wr) (fun i _ => 64 - (intOf i).toNat)
          case atStart => exact ⟨0, by omega, rfl, I5.out⟩
          case round =>
            clear I5
            obtain ⟨k, hk, rfl, hinv⟩ := hrel
            by_cases hlt : k < 64
            · have hd64 : decide ((k : Int) < 64) = true := by simp; omega
              have hkc := hinv.1.2.2.2.1.cell (i := k) hlt
              have hwc := hinv.1.2.2.2.2.2.cell (i := k) hlt
              have h32 := rd_32 K b s HS.out k
              have hnx : Sha.rd K s b (k + 1) = Sha.round (Sha.rd K s b k) (K k) (Sha.wd b k) := rfl
              generalize Sha.rd K s b k = x at hinv h32 hnx
              have HNX := Lib.hid hnx; clear hnx
              have c0 : wr.cell? ⟨gv, 0, none⟩ = some (.int .u32 ↑x.a) := hinv.2.2.cell (i := 0) (by omega)
              have c1 : wr.cell? ⟨gv, 1, none⟩ = some (.int .u32 ↑x.b) := hinv.2.2.cell (i := 1) (by omega)
              have c2 : wr.cell? ⟨gv, 2, none⟩ = some (.int .u32 ↑x.c) := hinv.2.2.cell (i := 2) (by omega)
              have c4 : wr.cell? ⟨gv, 4, none⟩ = some (.int .u32 ↑x.e) := hinv.2.2.cell (i := 4) (by omega)
              have c5 : wr.cell? ⟨gv, 5, none⟩ = some (.int .u32 ↑x.f) := hinv.2.2.cell (i := 5) (by omega)
              have c6 : wr.cell? ⟨gv, 6, none⟩ = some (.int .u32 ↑x.g) := hinv.2.2.cell (i := 6) (by omega)
              have c7 : wr.cell? ⟨gv, 7, none⟩ = some (.int .u32 ↑x.h) := hinv.2.2.cell (i := 7) (by omega)
              obtain ⟨h1, h2, h3, h4, h5, h6, h7, h8⟩ := h32
              have ba : 0 ≤ (x.a : Int) ∧ (x.a : Int) < 4294967296 := by omega
              have be : 0 ≤ (x.e : Int) ∧ (x.e : Int) < 4294967296 := by omega
              have lk : (k : Int) < 64 := by omega
              have nk : 0 ≤ (k : Int) := by omega
              have INV := Lib.hid hinv
              clear hinv
              go_wp2_with fail
              go_quiet ((go_at_call 40; exact quiet_left (refrot_int _ _ _ be (by omega))))
              go_wp2_with fail
              rw [big_form _ _ _ _ h5, ch_form2 _ _ _ h5 h6 h7]
              have ht : ((x.h : Int) + ((Sha.rotr x.e 6 ^^^ Sha.rotr x.e 11 ^^^ Sha.rotr x.e 25 : Nat) : Int) + ((Sha.ch x.e x.f x.g : Nat) : Int) + ((K k : Nat) : Int) + ((Sha.wd b k : Nat) : Int)) % 4294967296 = ((Sha.t1 x (K k) (Sha.wd b k) : Nat) : Int) := by unfold Sha.t1 Sha.big1; omega
              rw [ht]
              clear ht
              have d0 : (wr.drewN nq).cell? ⟨gv, 0, none⟩ = some (.int .u32 ↑x.a) := c0
              have d1 : (wr.drewN nq).cell? ⟨gv, 1, none⟩ = some (.int .u32 ↑x.b) := c1
              have d2 : (wr.drewN nq).cell? ⟨gv, 2, none⟩ = some (.int .u32 ↑x.c) := c2
              have INV2 := Lib.hid (show ∀ n, RV s b K gv x.at w ((wr.drewN nq).drewN n) from fun n => (INV.out.drewN nq).drewN n)
              clear c0 c1 c2 c4 c5 c6 c7 hkc hwc INV be
              generalize wr.drewN nq = wn at d0 d1 d2 INV2 ⊢
              go_quiet ((go_at_call 40; exact quiet_left (refrot_int _ _ _ ba (by omega))))
              go_wp2_with fail
              rw [big_form _ _ _ _ h1, maj_form _ _ _ h1 h2 h3]
              have hu : (((Sha.rotr x.a 2 ^^^ Sha.rotr x.a 13 ^^^ Sha.rotr x.a 22 : Nat) : Int) + ((Sha.maj x.a x.b x.c : Nat) : Int)) % 4294967296 = ((Sha.t2 x : Nat) : Int) := by unfold Sha.t2 Sha.big0; omega
              rw [hu]
              clear hu d0 d1 d2 ba
              have I3 := Lib.hid (INV2.out nq)
              clear INV2
              generalize wn.drewN nq = wm at I3 ⊢
              have X32 := Lib.hid (show Sha.St32 x from ⟨h1, h2, h3, h4, h5, h6, h7, h8⟩)
              have ht1 : Sha.t1 x (K k) (Sha.wd b k) < 4294967296 := Nat.mod_lt _ (by omega)
              have ht2 : Sha.t2 x < 4294967296 := Nat.mod_lt _ (by omega)
              have MR := Lib.hid (moved_round x (K k) (Sha.wd b k))
              generalize Sha.t1 x (K k) (Sha.wd b k) = t at ht1 MR ⊢
              generalize Sha.t2 x = u at ht2 MR ⊢
              go_loopw [17] (fun i wr => ∃ q : Nat, q ≤ 7 ∧ i = .int .i64 q ∧ RV s b K gv (moved x q) w wr) (fun i _ => (intOf i).toNat)
              case atStart => exact ⟨7, by omega, rfl, I3.out.congr fun j hj => (moved_start x j hj).symm⟩
              case round =>
                clear I3
                obtain ⟨q, hq, rfl, hinv⟩ := hrel
                by_cases h0 : q = 0
                · subst h0
                  have e4 : moved x 0 4 = x.d := rfl
                  have c4 := hinv.2.2.cell (i := 4) (by omega)
                  rw [e4] at c4
                  have f4 := hinv.2.2.frozen 4
                  have f0 := hinv.2.2.frozen 0
                  have c0 := hinv.2.2.cell (i := 0) (by omega)
                  have I6 := Lib.hid ((hinv.set 4 ((x.d + t) % 4294967296)).set 0 ((t + u) % 4294967296))
                  clear hinv
                  go_wp2_with fail
                  have e1 : ((x.d : Int) + (t : Int)) % 4294967296 = (((x.d + t) % 4294967296 : Nat) : Int) := by omega
                  have e2 : ((t : Int) + (u : Int)) % 4294967296 = (((t + u) % 4294967296 : Nat) : Int) := by omega
                  have I7 : RV s b K gv (Sha.rd K s b (k + 1)).at w (((wr.setCell ⟨gv, 4, none⟩ (.int .u32 (((x.d + t) % 4294967296 : Nat) : Int))).setCell ⟨gv, 0, none⟩ (.int .u32 (((t + u) % 4294967296 : Nat) : Int)))) := I6.out.congr fun j hj => by rw [HNX.out]; exact MR.out j hj
                  go_roundw
                  case rel => exact ⟨k + 1, by omega, by go_num, by first | (rw [e1, e2]; exact I7) | exact I7⟩
                  case measure => simp [intOf]; omega
                · obtain ⟨r, rfl⟩ : ∃ r, q = r + 1 := ⟨q - 1, by omega⟩
                  have hd0 : decide (0 < ((r + 1 : Nat) : Int)) = true := by simp
                  have cr := hinv.2.2.cell (i := r) (by omega)
                  have fr := hinv.2.2.frozen (r + 1)
                  have cw := hinv.2.2.cell (i := r + 1) (by omega)
                  have er : moved x (r + 1) r = x.at r := by unfold moved; rw [if_neg (by omega)]
                  rw [er] at cr
                  have I6 := Lib.hid ((hinv.set (r + 1) (x.at r)).congr fun j _ => moved_next x r j)
                  generalize x.at r = y at cr I6
                  clear hinv er h0
                  go_wp2_with fail
                  exact ⟨⟨r, by omega, rfl, I6.out⟩, by simp [intOf]⟩
            · obtain rfl : k = 64 := by omega
              have hd64 : decide (((64 : Nat) : Int) < 64) = false := by decide
              have hx32 := rd_32 K b s HS.out 64
              have HY := Lib.hid (part8_end K s b)
              clear hlt hk
              generalize Sha.rd K s b 64 = x at hinv hx32 HY
              have X32 := Lib.hid hx32; clear hx32
              have I6 := Lib.hid (show RV s b K gv (part8 x s 0) w wr by rw [part8_zero]; exact hinv)
              clear hinv
              go_wp2_with fail
              go_loopw [18] (fun i wr => ∃ m : Nat, m ≤ 8 ∧ i = .int .i64 m ∧ RV s b K gv (part8 x s m) w wr) (fun i _ => 8 - (intOf i).toNat)
              case atStart => exact ⟨0, by omega, rfl, I6.out⟩
              case round =>
                clear I6
                obtain ⟨m, hm, rfl, hinv⟩ := hrel
                by_cases hlt : m < 8
                · have hd8 : decide ((m : Int) < 8) = true := by simp; omega
                  have c0 := hinv.2.2.cell (i := m) hlt
                  have f0 := hinv.2.2.frozen m
                  rw [part8_at] at c0
                  have cs := hinv.1.2.1.cell (i := m) hlt
                  have I7 := Lib.hid (show ∀ n, RV s b K gv (part8 x s (m + 1)) w ((wr.drewN n).setCell ⟨gv, m, none⟩ (.int .u32 (((x.at m + s.at m) % 4294967296 : Nat) : Int))) from fun n => ((hinv.drewN n).set m _).congr fun j _ => by
                    unfold part8
                    by_cases e : j = m
                    · subst e; simp
                    · rw [if_neg e]
                      by_cases e2 : j < m
                      · rw [if_pos e2, if_pos (by omega)]
                      · rw [if_neg e2, if_neg (by omega)])
                  have b1 := Sha.at_32 s HS.out m
                  have b2 := Sha.at_32 x X32.out m
                  clear hinv
                  generalize s.at m = p at cs b1 I7
                  generalize x.at m = q at c0 b2 I7
                  have lm : (m : Int) < 8 := by omega
                  have nm : 0 ≤ (m : Int) := by omega
                  go_wp2_with fail
                  go_still_tail 8, (by kernel_rfl)
                  change wpList _ _ _ _ _ (wr.drewN 1)
                  have hv : IntKind.u32.wrap ((q : Int) + (p : Int)) = (((q + p) % 4294967296 : Nat) : Int) := by simp only [IntKind.wrap_u32]; omega
                  rw [hv]
                  clear hv
                  have cw2 : (wr.drewN 1).cell? ⟨gv, m, none⟩ = some (.int .u32 (q : Int)) := c0
                  have fw2 : (wr.drewN 1).frozen? ⟨gv, m, none⟩ = false := f0
                  have I8 := Lib.hid (I7.out 1)
                  clear I7 c0 f0 cs
                  generalize wr.drewN 1 = wd at cw2 fw2 I8 ⊢
                  go_wp2_with fail
                  first
                    | exact ⟨⟨m + 1, by omega, by go_num, I8.out⟩, by simp [intOf]; omega⟩
                    | (refine ⟨?_, ?measure⟩
                       · (repeat apply Exists.intro)
                         refine ⟨?rel, rfl⟩
                         case rel => exact ⟨m + 1, by omega, by go_num, I8.out⟩
                       case measure => simp [intOf]; omega)
                · obtain rfl : m = 8 := by omega
                  have hd8 : decide (((8 : Nat) : Int) < 8) = false := by decide
                  have k4 : isArr wr gv 32 .u32 8 (Sha.blk K s b).at := hinv.2.2.congr fun j hj => by
                    rw [← HY.out j hj]; unfold part8; rw [if_pos hj, if_pos hj, Nat.add_comm]
                  have k3 := hinv.1.2.2.2.2.1
                  have k1 := hinv.1.1
                  clear hlt hm hinv
                  go_wp2_with (first | refine wpList_load_row rfl _ _ rfl gv rfl _ _ (0, 0) _ k4 rfl rfl (hi8 _) ?_ | (refine wpList_store_row rfl _ _ _ rfl (w.heap.size + 3) _ rfl rfl _ _ k3 (hi8 _) ((arr_size _ _ _).trans (arr_size _ _ _).symm) (arr_one _ _ _) ?_))
                  exact bodyPost_ret (results_cell_row rfl _ _ (w.heap.size + 3) _ _ (0, 0) _ rfl (setRow_heap wr (w.heap.size + 3) _ _ _ (0, 0) k3) rfl rfl (hi8 _)) rfl ⟨rfl, below_setRow k1 (by omega) _⟩
end Go.Proofs.YtgalddnblciciaaDoor
