import Derived.Test.YtgalddnblciciaaDoorShaA
import Derived.IntWalk
import Derived.Laws.CopyOwn
import Derived.StillTailTactics
namespace Go.Proofs.YtgalddnblciciaaDoor
open Go.RowKit Go.Deep

theorem zeros_get (k : IntKind) (n i : Nat) (h : i < n) : (Array.replicate n (Value.int k 0))[i]? = some (.int k ((0 : Nat) : Int)) := by simp [h]

theorem or_byte32 (x c : Nat) (hx : x < 16777216) (hc : c < 256) : bits .or .u32 ((x : Int) * 256) (c : Int) = ((x * 256 + c : Nat) : Int) := by
  have e : (x : Int) * 256 = ((x * 256 : Nat) : Int) := by omega
  rw [e, u32_or_nat _ _ (by omega) (by omega)]
  congr 1
  have := Nat.two_pow_add_eq_or_of_lt (i := 8) (b := c) (by omega) x
  rw [Nat.mul_comm] at this
  exact this.symm
theorem pow_3 (k : Nat) (h : k ≤ 3) : 256 ^ k ≤ 16777216 := by
  have := Nat.pow_le_pow_right (n := 256) (by omega) h
  simpa using this

set_option maxRecDepth 100000 in
/-- block[4*i : 4*i+4] of an array of 64 bytes. -/
theorem sl64 (w : World) (b i : Nat) (hi : i < 16) : (Instr.sliceAt 33 (.pointer (some ⟨b, 0, none⟩)) (some (.int .i64 (4 * (i : Int)))) (some (.int .i64 (4 * (i : Int) + 4))) none).run Tryd.prog w = .ok (.slice (some ⟨b, 4 * i, none⟩) 4 (64 - 4 * i)) w := by
  have hal : (Tryd.prog).arrayLen 33 = 64 := by go_simp
  rw [run_sliceAt_array_lh w _ ⟨b, 0, none⟩ (by go_simp) .i64 .i64 _ _ (by omega) (by omega) (by rw [hal]; omega)]
  go_simp
  have e : (4 * (i : Int)).toNat = 4 * i := by omega
  rw [e, if_neg (by omega)]
  exact ⟨rfl, by omega, rfl⟩

/-- rot, the count an Int: no literal has to be matched. -/
theorem rot_int (x k : Int) (w : World) (hx : 0 ≤ x ∧ x < 4294967296) (hk : 1 ≤ k ∧ k < 32) :
    Calls Tryd.prog 39 #[.int .u32 x, .int .i64 k] w fun e w' => e = .returned (.int .u32 ↑(Sha.rotr x.toNat k.toNat)) ∧ w = w' := by
  obtain ⟨n, rfl⟩ := Int.eq_ofNat_of_zero_le (show 0 ≤ k by omega)
  exact rot_any x n w hx (by omega) (by omega)
theorem s0_form (x : Nat) (h : x < 4294967296) : bits .xor .u32 (bits .xor .u32 (Sha.rotr x 7 : Int) (Sha.rotr x 18 : Int)) ((x : Int) / 8) = ((Sha.s0 x : Nat) : Int) := by
  rw [show (x : Int) / 8 = ((x / 8 : Nat) : Int) by omega, u32_xor_nat _ _ (Sha.rotr_lt _ _ h) (Sha.rotr_lt _ _ h), u32_xor_nat _ _ (Sha.xor32 _ _ (Sha.rotr_lt _ _ h) (Sha.rotr_lt _ _ h)) (by omega)]
  rfl
theorem s1_form (x : Nat) (h : x < 4294967296) : bits .xor .u32 (bits .xor .u32 (Sha.rotr x 17 : Int) (Sha.rotr x 19 : Int)) ((x : Int) / 1024) = ((Sha.s1 x : Nat) : Int) := by
  rw [show (x : Int) / 1024 = ((x / 1024 : Nat) : Int) by omega, u32_xor_nat _ _ (Sha.rotr_lt _ _ h) (Sha.rotr_lt _ _ h), u32_xor_nat _ _ (Sha.xor32 _ _ (Sha.rotr_lt _ _ h) (Sha.rotr_lt _ _ h)) (by omega)]
  rfl

/-- What holds while the schedule is made: the words so far are l. -/
def SchedInv (b : Nat → Nat) (w wr : World) (l : List Nat) : Prop :=
  Below w.heap.size w wr ∧ isArr wr w.heap.size 33 .u8 64 b ∧ isArr wr (w.heap.size + 2) 37 .u32 64 (fun j => l.getD j 0) ∧ ∃ c : Array Value, wr.heap[w.heap.size + 1]? = some (.cells c 37 (0, 0)) ∧ c.size = 64
theorem SchedInv.congr {b : Nat → Nat} {w wr : World} {l m : List Nat} (h : SchedInv b w wr l) (e : ∀ j, l.getD j 0 = m.getD j 0) : SchedInv b w wr m :=
  ⟨h.1, h.2.1, h.2.2.1.congr fun j _ => e j, h.2.2.2⟩
theorem SchedInv.drewN {b : Nat → Nat} {w wr : World} {l : List Nat} (h : SchedInv b w wr l) (n : Nat) : SchedInv b w (wr.drewN n) l :=
  ⟨below_drewN h.1 n, h.2.1, h.2.2.1, h.2.2.2⟩
theorem SchedInv.set {b : Nat → Nat} {w wr : World} {l m : List Nat} (h : SchedInv b w wr l) (i x : Nat) (e : ∀ j, (if j = i then x else l.getD j 0) = m.getD j 0) : SchedInv b w (wr.setCell ⟨w.heap.size + 2, i, none⟩ (.int .u32 (x : Int))) m := by
  obtain ⟨h1, h2, h3, c, h4, h5⟩ := h
  exact ⟨below_set h1 (by omega) _ _, h2.setOther (by omega) _ _, (h3.set i x).congr fun j _ => e j, c, (Below.heap_setCell _ _ _ _ (by show w.heap.size + 1 ≠ w.heap.size + 2; omega)).trans h4, h5⟩

set_option maxRecDepth 100000 in
set_option maxHeartbeats 1000000 in
theorem schedule_any (b : Nat → Nat) (w : World) (hb : ∀ i, b i < 256) :
    Calls Tryd.prog 38 #[.agg (arr .u8 64 b)] w fun e w' => e = .returned (.agg (arr .u32 64 (fun i => (Sha.words b).getD i 0))) ∧ Below w.heap.size w w' := by
  have HB := Lib.hid hb; clear hb
  have hsz := arr_size .u8 64 b
  go_enter Tryd.func38, Tryd.ntmps38
  go_wp2
  generalize hW : ((w.alloc (Obj.cells (arr IntKind.u8 64 b) 33)).alloc _).alloc _ = W
  have hWz : W.heap.size = w.heap.size + 3 := by rw [← hW]; simp
  have hbel : Below w.heap.size w W := by rw [← hW]; exact (((Below.refl _ _).alloc (Nat.le_refl _) _).alloc (by simp) _).alloc (by simp; omega) _
  have hA : isArr W w.heap.size 33 .u8 64 b := by rw [← hW]; exact ((isArr_new w _ _ _ _).alloc _).alloc _
  have hZ : isArr W (w.heap.size + 2) 37 .u32 64 (fun j => (Sha.first b 0).getD j 0) := by
    rw [← hW]
    have e : w.heap.size + 2 = ((w.alloc (Obj.cells (arr IntKind.u8 64 b) 33)).alloc (.cells (Array.replicate 64 (.int .u32 0)) 37)).heap.size := by simp
    rw [e]
    exact isArr_lit _ _ _ _ _ (Array.replicate 64 (.int .u32 0)) (by simp) (fun i hi => by rw [zeros_get _ _ _ hi]; rfl)
  have hR : ∃ c : Array Value, W.heap[w.heap.size + 1]? = some (.cells c 37 (0, 0)) ∧ c.size = 64 := by
    rw [← hW]
    refine ⟨Array.replicate 64 (.int .u32 0), ?_, by simp⟩
    rw [Below.heap_alloc _ _ _ (by simp)]
    have e : w.heap.size + 1 = (w.alloc (Obj.cells (arr IntKind.u8 64 b) 33)).heap.size := by simp
    rw [e]
    exact heap_alloc_new _ _
  have INV := Lib.hid (show SchedInv b w W (Sha.first b 0) from ⟨hbel, hA, hZ, hR⟩)
  clear hW hsz hWz hbel hA hZ hR
  go_loopw [4, 6, 12] (fun _ _ i wr => ∃ k : Nat, k ≤ 16 ∧ i = .int .i64 k ∧ SchedInv b w wr (Sha.first b k)) (fun _ _ i _ => 16 - (intOf i).toNat)
  case atStart => exact ⟨0, by omega, rfl, INV.out⟩
  case round =>
    clear INV
    obtain ⟨i, hi, rfl, hinv⟩ := hrel
    have INV := Lib.hid hinv
    clear hinv
    by_cases hlt : i < 16
    · obtain ⟨wo, hwo⟩ : ∃ wo, wo = wr := ⟨_, rfl⟩
      subst hwo
      have hsl := fun wx => sl64 wx w.heap.size i hlt
      go_wp2_with fail
      go_loopw [6, 22] (fun _ j wr => ∃ k : Nat, k ≤ 4 ∧ j = .int .i64 k ∧ SchedInv b w wr (Sha.first b i ++ [Sha.pw b i k])) (fun _ j _ => 4 - (intOf j).toNat)
      case atStart => exact ⟨0, by omega, rfl, INV.out.congr fun j => (Sha.getD_app_zero _ _).symm⟩
      case round =>
        clear INV
        obtain ⟨k, hk, rfl, hinv⟩ := hrel
        have INV := Lib.hid hinv
        by_cases hlk : k < 4
        · have cb := hinv.2.1.cell (i := 4 * i + k) (by omega)
          have cw := hinv.2.2.1.cell (i := i) (by omega)
          have fw := hinv.2.2.1.frozen i
          have e1 : (Sha.first b i ++ [Sha.pw b i k]).getD i 0 = Sha.pw b i k := by
            have := Sha.getD_last (Sha.first b i) (Sha.pw b i k)
            rwa [Sha.first_length] at this
          rw [e1] at cw
          have hx : Sha.pw b i k < 16777216 := Nat.lt_of_lt_of_le (Sha.pw_lt b HB.out i k) (pow_3 k (by omega))
          have hbb := HB.out (4 * i + k)
          have hnext : ∀ j, (if j = i then Sha.pw b i k * 256 + b (4 * i + k) else (Sha.first b i ++ [Sha.pw b i k]).getD j 0) = (Sha.first b i ++ [Sha.pw b i (k + 1)]).getD j 0 := by
            intro j
            have := Sha.getD_set_last (Sha.first b i) (Sha.pw b i k) (Sha.pw b i (k + 1)) j
            rw [Sha.first_length] at this
            exact this
          have INV2 := Lib.hid (INV.out.set i _ hnext)
          clear hinv e1 hnext INV
          generalize Sha.pw b i k = x at cw hx INV2 ⊢
          generalize b (4 * i + k) = c at cb hbb INV2
          have eor := or_byte32 x c hx hbb
          go_wp2_with fail
          go_roundw
          case rel => exact ⟨k + 1, by omega, by go_num, INV2.out⟩
          case measure => simp [intOf]; omega
        · obtain rfl : k = 4 := by omega
          clear hinv
          go_wp2_with fail
          go_roundw
          case rel => exact ⟨i + 1, by omega, by go_num, by rw [Sha.first_succ]; exact INV.out⟩
          case measure => simp [intOf]; omega
    · obtain rfl : i = 16 := by omega
      clear hlt hi
      have INV3 := Lib.hid (show SchedInv b w wr (Sha.ext b 0) from INV.out)
      clear INV
      go_wp2_with fail
      go_loopw [7] (fun i wr => ∃ m : Nat, m ≤ 48 ∧ i = .int .i64 ((16 + m : Nat) : Int) ∧ SchedInv b w wr (Sha.ext b m)) (fun i _ => 64 - (intOf i).toNat)
      case atStart => exact ⟨0, by omega, rfl, INV3.out⟩
      case round =>
        clear INV3
        obtain ⟨m, hm, rfl, hinv⟩ := hrel
        by_cases hlt : m < 48
        · have c0 := hinv.2.2.1.cell (i := m) (by omega)
          have c1 := hinv.2.2.1.cell (i := m + 1) (by omega)
          have c9 := hinv.2.2.1.cell (i := m + 9) (by omega)
          have c14 := hinv.2.2.1.cell (i := m + 14) (by omega)
          have fw := hinv.2.2.1.frozen (16 + m)
          have cw := hinv.2.2.1.cell (i := 16 + m) (by omega)
          have h0 := Sha.getD_lt _ (Sha.ext_lt b HB.out m) m
          have h1 := Sha.getD_lt _ (Sha.ext_lt b HB.out m) (m + 1)
          have h9 := Sha.getD_lt _ (Sha.ext_lt b HB.out m) (m + 9)
          have h14 := Sha.getD_lt _ (Sha.ext_lt b HB.out m) (m + 14)
          have hnext : ∀ j, (if j = 16 + m then Sha.nextw (Sha.ext b m) m else (Sha.ext b m).getD j 0) = (Sha.ext b (m + 1)).getD j 0 := by
            intro j
            have := Sha.getD_set_new (Sha.ext b m) (Sha.nextw (Sha.ext b m) m) j
            rw [Sha.ext_length] at this
            exact this
          have INV4 := Lib.hid (hinv.set (16 + m) _ hnext)
          have hnw : Sha.nextw (Sha.ext b m) m = ((Sha.ext b m).getD m 0 + Sha.s0 ((Sha.ext b m).getD (m + 1) 0) + (Sha.ext b m).getD (m + 9) 0 + Sha.s1 ((Sha.ext b m).getD (m + 14) 0)) % 4294967296 := rfl
          rw [hnw] at INV4
          clear hinv hnext hnw
          generalize (Sha.ext b m).getD m 0 = x0 at c0 h0 INV4
          generalize (Sha.ext b m).getD (m + 1) 0 = x1 at c1 h1 INV4
          generalize (Sha.ext b m).getD (m + 9) 0 = x9 at c9 h9 INV4
          generalize (Sha.ext b m).getD (m + 14) 0 = x14 at c14 h14 INV4
          obtain ⟨i, hi⟩ : ∃ i : Nat, i = 16 + m := ⟨_, rfl⟩
          rw [← hi] at INV4 fw cw ⊢
          have hi16 : 16 ≤ i := by omega
          have hi64 : i < 64 := by omega
          have hd : decide ((i : Int) < 64) = true := by simp; omega
          obtain ⟨p1, hp1⟩ : ∃ p : Nat, p = m + 1 := ⟨_, rfl⟩
          obtain ⟨p9, hp9⟩ : ∃ p : Nat, p = m + 9 := ⟨_, rfl⟩
          obtain ⟨p14, hp14⟩ : ∃ p : Nat, p = m + 14 := ⟨_, rfl⟩
          have w15 : IntKind.i64.wrap ((i : Int) - 15) = (p1 : Int) := (IntWalk.i64_in _ (by omega)).trans (by omega)
          have w2 : IntKind.i64.wrap ((i : Int) - 2) = (p14 : Int) := (IntWalk.i64_in _ (by omega)).trans (by omega)
          have w16 : IntKind.i64.wrap ((i : Int) - 16) = (m : Int) := (IntWalk.i64_in _ (by omega)).trans (by omega)
          have w7 : IntKind.i64.wrap ((i : Int) - 7) = (p9 : Int) := (IntWalk.i64_in _ (by omega)).trans (by omega)
          have ne0 : (⟨w.heap.size + 1 + 1, i, none⟩ : Addr) ≠ ⟨w.heap.size + 1 + 1, m, none⟩ := by intro h; have := congrArg Addr.off h; clear w15 w2 w16 w7; simp at this; omega
          have ne9 : (⟨w.heap.size + 1 + 1, i, none⟩ : Addr) ≠ ⟨w.heap.size + 1 + 1, p9, none⟩ := by intro h; have := congrArg Addr.off h; clear w15 w2 w16 w7; simp at this; omega
          have l1 : (p1 : Int) < 64 := by clear w15 w2 w16 w7; omega
          have l9 : (p9 : Int) < 64 := by omega
          have l14 : (p14 : Int) < 64 := by omega
          have lm : (m : Int) < 64 := by omega
          have li : (i : Int) < 64 := by omega
          have n1 : 0 ≤ (p1 : Int) := by omega
          have n9 : 0 ≤ (p9 : Int) := by omega
          have n14 : 0 ≤ (p14 : Int) := by omega
          rw [← hp1] at c1
          rw [← hp9] at c9
          rw [← hp14] at c14
          have HI := Lib.hid (And.intro hi hm); clear hi hp1 hp9 hp14 hm
          go_wp2_with fail
          go_quiet (fail)
          have W16 := Lib.hid w16
          have W7 := Lib.hid w7
          have b1 : 0 ≤ (x1 : Int) ∧ (x1 : Int) < 4294967296 := by clear w15 w2 w16 w7; omega
          have b14 : 0 ≤ (x14 : Int) ∧ (x14 : Int) < 4294967296 := by clear w15 w2 w16 w7; omega
          clear w15 w2 w16 w7
          go_wp2_with (go_at_call 39; refine (rot_int _ _ _ (by first | exact b1 | exact b14) (by omega)).mono ?_; rintro e w' ⟨rfl, rfl⟩)
          rw [s0_form x1 h1, s1_form x14 h14]
          have hy1 := Sha.s0_lt x1 h1
          have hy14 := Sha.s1_lt x14 h14
          generalize Sha.s0 x1 = y1 at hy1 INV4 ⊢
          generalize Sha.s1 x14 = y14 at hy14 INV4 ⊢
          clear b1 b14 h1 h14 c1 c14 l1 l14 n1 n14
          obtain ⟨wq, hwq⟩ : ∃ wq, wq = wr.drewN nq := ⟨_, rfl⟩
          have k0 : wq.cell? ⟨w.heap.size + 1 + 1, m, none⟩ = some (.int .u32 (x0 : Int)) := by rw [hwq]; exact c0
          have k9 : wq.cell? ⟨w.heap.size + 1 + 1, p9, none⟩ = some (.int .u32 (x9 : Int)) := by rw [hwq]; exact c9
          have INV5 := Lib.hid (show ∀ n, SchedInv b w ((wq.drewN n).setCell ⟨w.heap.size + 2, i, none⟩ (.int .u32 (((x0 + y1 + x9 + y14) % 4294967296 : Nat) : Int))) (Sha.ext b (m + 1)) by rw [hwq]; exact fun n => (INV4.out.drewN nq).drewN n)
          have kw : ∃ v, wq.cell? ⟨w.heap.size + 1 + 1, i, none⟩ = some v := ⟨_, by rw [hwq]; exact cw⟩
          have kf : wq.frozen? ⟨w.heap.size + 1 + 1, i, none⟩ = false := by rw [hwq]; exact fw
          rw [← hwq]
          clear hwq INV4 c0 c9 cw fw
          obtain ⟨vw, kw⟩ := kw
          have w16 := W16.out
          have w7 := W7.out
          have nm : 0 ≤ (m : Int) := Int.natCast_nonneg _
          have n9' : 0 ≤ (p9 : Int) := Int.natCast_nonneg _
          have hv : IntKind.u32.wrap (IntKind.u32.wrap (IntKind.u32.wrap ((x0 : Int) + y1) + x9) + y14) = (((x0 + y1 + x9 + y14) % 4294967296 : Nat) : Int) := by clear w16 w7; simp only [IntKind.wrap_u32]; omega
          have HV := Lib.hid hv
          clear hv
          go_region_held3 (fun w' => w'.cell? ⟨w.heap.size + 1 + 1, m, none⟩ = some (.int .u32 (x0 : Int)) ∧ w'.cell? ⟨w.heap.size + 1 + 1, p9, none⟩ = some (.int .u32 (x9 : Int))) (first | exact ⟨k0, k9⟩ | exact ⟨(World.cell?_setCell_other (h := ne0) ..).trans k0, (World.cell?_setCell_other (h := ne9) ..).trans k9⟩) (fail)
          rw [HV.out]
          clear w16 w7 HV
          go_wp2_with fail
          refine ⟨?_, ?measure⟩
          · (repeat apply Exists.intro)
            refine ⟨?rel, rfl⟩
            case rel =>
              have e : ((x0 : Int) + y1 + x9 + y14) % 4294967296 = (((x0 + y1 + x9 + y14) % 4294967296 : Nat) : Int) := by omega
              refine ⟨m + 1, by have := HI.out; omega, by have := HI.out.1; congr 1; omega, ?_⟩
              rw [e]
              exact (INV5.out 0).drewN 1
          case measure => simp [intOf]; omega
        · obtain rfl : m = 48 := by omega
          have hd : decide (((16 + 48 : Nat) : Int) < 64) = false := by decide
          obtain ⟨h1, h2, h3, c, h4, h5⟩ := hinv
          clear hlt hm h2
          have hi64 : ((Tryd.prog).info? 37).map (·.size) = some (arr .u32 64 (fun j => (Sha.ext b 48).getD j 0)).size := by rw [arr_size]; rfl
          go_wp2_with (first | refine wpList_load_row rfl _ _ rfl (w.heap.size + 1 + 1) rfl _ _ (0, 0) _ h3 rfl rfl hi64 ?_ | (refine wpList_store_row rfl _ _ _ rfl (w.heap.size + 1) _ rfl rfl _ c h4 hi64 (h5.trans (arr_size _ _ _).symm) (arr_one _ _ _) ?_))
          exact bodyPost_ret (results_cell_row rfl _ _ (w.heap.size + 1) _ _ (0, 0) _ rfl (setRow_heap wr (w.heap.size + 1) c _ _ (0, 0) h4) rfl rfl hi64) rfl ⟨rfl, below_setRow h1 (by omega) _⟩
end Go.Proofs.YtgalddnblciciaaDoor
