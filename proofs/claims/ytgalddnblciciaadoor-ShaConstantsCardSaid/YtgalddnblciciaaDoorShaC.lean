import Derived.Test.YtgalddnblciciaaDoorShaB
import Derived.Test.YtgalddnblciciaaDoorShaMathC
import Derived.Deep.Cut
import Derived.Great.BuildSlice
namespace Go.Proofs.YtgalddnblciciaaDoor
open Go.RowKit Go.Deep

/-- The variable sha.constants reads as the table k. -/
def Consts (w : World) (k : Nat → Nat) : Prop := ∀ i, i < 64 → w.cell? ⟨0, i, none⟩ = some (.int .u32 (k i : Int))

theorem wd_lt (b : Nat → Nat) (hb : ∀ i, b i < 256) (i : Nat) : Sha.wd b i < 4294967296 := Sha.getD_lt _ (Sha.ext_lt b hb 48) i
theorem rd_32 (K b : Nat → Nat) (s : Sha.St) (hs : Sha.St32 s) (k : Nat) : Sha.St32 (Sha.rd K s b k) := by
  induction k with
  | zero => exact hs
  | succ k ih =>
    unfold Sha.rd
    obtain ⟨h1, h2, h3, h4, h5, h6, h7, h8⟩ := ih
    exact ⟨Nat.mod_lt _ (by omega), h1, h2, h3, Nat.mod_lt _ (by omega), h5, h6, h7⟩

theorem xor_form (a b : Nat) (ha : a < 4294967296) (hb : b < 4294967296) : bits .xor .u32 (a : Int) (b : Int) = ((a ^^^ b : Nat) : Int) := u32_xor_nat _ _ ha hb
theorem big_form (x i j k : Nat) (h : x < 4294967296) : bits .xor .u32 (bits .xor .u32 (Sha.rotr x i : Int) (Sha.rotr x j : Int)) (Sha.rotr x k : Int) = ((Sha.rotr x i ^^^ Sha.rotr x j ^^^ Sha.rotr x k : Nat) : Int) := by
  rw [u32_xor_nat _ _ (Sha.rotr_lt _ _ h) (Sha.rotr_lt _ _ h), u32_xor_nat _ _ (Sha.xor32 _ _ (Sha.rotr_lt _ _ h) (Sha.rotr_lt _ _ h)) (Sha.rotr_lt _ _ h)]
theorem ch_form (e f g : Nat) (he : e < 4294967296) (hf : f < 4294967296) (hg : g < 4294967296) :
    bits .xor .u32 (bits .and .u32 (e : Int) (f : Int)) (bits .and .u32 (bits .xor .u32 (if IntKind.u32.signed = true then -1 else IntKind.u32.max) (e : Int)) (g : Int)) = ((Sha.ch e f g : Nat) : Int) := by
  have e1 : (if IntKind.u32.signed = true then (-1 : Int) else IntKind.u32.max) = ((4294967295 : Nat) : Int) := by decide
  rw [e1, u32_xor_nat _ _ (by omega) he, u32_and_nat _ _ he hf, u32_and_nat _ _ (Sha.xor32 _ _ (by omega) he) hg, u32_xor_nat _ _ (Sha.and32 _ _ hf) (Sha.and32 _ _ hg)]
  rfl
theorem maj_form (a b c : Nat) (ha : a < 4294967296) (hb : b < 4294967296) (hc : c < 4294967296) :
    bits .xor .u32 (bits .xor .u32 (bits .and .u32 (a : Int) (b : Int)) (bits .and .u32 (a : Int) (c : Int))) (bits .and .u32 (b : Int) (c : Int)) = ((Sha.maj a b c : Nat) : Int) := by
  rw [u32_and_nat _ _ ha hb, u32_and_nat _ _ ha hc, u32_and_nat _ _ hb hc, u32_xor_nat _ _ (Sha.and32 _ _ hb) (Sha.and32 _ _ hc), u32_xor_nat _ _ (Sha.xor32 _ _ (Sha.and32 _ _ hb) (Sha.and32 _ _ hc)) (Sha.and32 _ _ hc)]
  rfl

/-- What the rounds of a block leave as it is. -/
def BlkInv (f : Nat → Nat) (w wr : World) : Prop :=
  Below w.heap.size w wr ∧ isArr wr w.heap.size 32 .u32 8 f ∧ isArr wr (w.heap.size + 2) 32 .u32 8 (fun _ => 0)
theorem BlkInv.drewN {f : Nat → Nat} {w wr : World} (h : BlkInv f w wr) (n : Nat) : BlkInv f w (wr.drewN n) := ⟨below_drewN h.1 n, h.2.1, h.2.2⟩
/-- The sum of two states, its first m words. -/
def part8 (s x : Sha.St) (m j : Nat) : Nat := if j < m then (s.at j + x.at j) % 4294967296 else s.at j
theorem BlkInv.set {s x : Sha.St} {w wr : World} {m : Nat} (h : BlkInv (part8 s x m) w wr) : BlkInv (part8 s x (m + 1)) w (wr.setCell ⟨w.heap.size, m, none⟩ (.int .u32 (((s.at m + x.at m) % 4294967296 : Nat) : Int))) := by
  obtain ⟨h1, h2, h3⟩ := h
  refine ⟨below_set h1 (Nat.le_refl _) _ _, (h2.set m _).congr fun j _ => ?_, h3.setOther (by omega) _ _⟩
  unfold part8
  by_cases e : j = m
  · subst e; simp
  · rw [if_neg e]
    by_cases e2 : j < m
    · rw [if_pos e2, if_pos (by omega)]
    · rw [if_neg e2, if_neg (by omega)]
theorem part8_at (s x : Sha.St) (m : Nat) : part8 s x m m = s.at m := by unfold part8; rw [if_neg (Nat.lt_irrefl _)]
theorem part8_end (K : Nat → Nat) (s : Sha.St) (b : Nat → Nat) (j : Nat) (h : j < 8) : part8 s (Sha.rd K s b 64) 8 j = (Sha.blk K s b).at j := by
  unfold part8 Sha.blk
  rw [if_pos h]
  generalize Sha.rd K s b 64 = x
  rcases j with _ | _ | _ | _ | _ | _ | _ | _ | j
  all_goals first | omega | simp [Sha.St.at, Sha.plus]
theorem part8_zero (s x : Sha.St) : part8 s x 0 = s.at := by funext j; unfold part8; rw [if_neg (Nat.not_lt_zero _)]
theorem part8_lt (s : Sha.St) (h : Sha.St32 s) (j : Nat) : s.at j < 4294967296 := Sha.at_32 s h j
theorem lit_state (x : Sha.St) : (#[.int .u32 ↑x.a, .int .u32 ↑x.b, .int .u32 ↑x.c, .int .u32 ↑x.d, .int .u32 ↑x.e, .int .u32 ↑x.f, .int .u32 ↑x.g, .int .u32 ↑x.h] : Array Value) = arr .u32 8 x.at :=
  arr_of_get _ _ _ _ rfl fun i hi => by rcases i with _ | _ | _ | _ | _ | _ | _ | _ | i <;> first | rfl | omega
theorem Consts.below {w w' : World} {K : Nat → Nat} (h : Consts w K) (hb : Below w.heap.size w w') : Consts w' K := fun i hi => by
  have c := h i hi
  exact (hb.cell (p := ⟨0, i, none⟩) (World.block_lt_of_cell? w _ c)).trans c

theorem schedule_wd (b : Nat → Nat) (w : World) (hb : ∀ i, b i < 256) :
    Calls Tryd.prog 38 #[.agg (arr .u8 64 b)] w fun e w' => e = .returned (.agg (arr .u32 64 (Sha.wd b))) ∧ Below w.heap.size w w' := schedule_any b w hb
/-- The slots of a state. -/
def Slots (x : Sha.St) (va vb vc vd ve vf vg vh : Value) : Prop :=
  va = .int .u32 ↑x.a ∧ vb = .int .u32 ↑x.b ∧ vc = .int .u32 ↑x.c ∧ vd = .int .u32 ↑x.d ∧ ve = .int .u32 ↑x.e ∧ vf = .int .u32 ↑x.f ∧ vg = .int .u32 ↑x.g ∧ vh = .int .u32 ↑x.h
theorem slots_start (K : Nat → Nat) (s : Sha.St) (b : Nat → Nat) : Slots (Sha.rd K s b 0) (.int .u32 ↑(s.at 0)) (.int .u32 ↑(s.at 1)) (.int .u32 ↑(s.at 2)) (.int .u32 ↑(s.at 3)) (.int .u32 ↑(s.at 4)) (.int .u32 ↑(s.at 5)) (.int .u32 ↑(s.at 6)) (.int .u32 ↑(s.at 7)) := ⟨rfl, rfl, rfl, rfl, rfl, rfl, rfl, rfl⟩
theorem slots_next {K : Nat → Nat} {s : Sha.St} {b : Nat → Nat} {k : Nat} {x : Sha.St} {va vb vc vd ve vf vg vh : Value} (e : Sha.rd K s b k = x) (h : Slots (Sha.round x (K k) (Sha.wd b k)) va vb vc vd ve vf vg vh) : Slots (Sha.rd K s b (k + 1)) va vb vc vd ve vf vg vh := by
  unfold Sha.rd; rw [e]; exact h
attribute [local irreducible] Sha.rd Sha.wd

set_option maxRecDepth 100000 in
set_option maxHeartbeats 1000000 in
theorem block_any (s : Sha.St) (b : Nat → Nat) (K : Nat → Nat) (w : World) (hs : Sha.St32 s) (hb : ∀ i, b i < 256) (hk : Consts w K) :
    Calls Tryd.prog 18 #[.agg (arr .u32 8 s.at), .agg (arr .u8 64 b)] w fun e w' => e = .returned (.agg (arr .u32 8 (Sha.blk K s b).at)) ∧ Below w.heap.size w w' := by
  have HS := Lib.hid hs; clear hs
  have HK := Lib.hid hk; clear hk
  have HB := Lib.hid hb; clear hb
  go_enter Tryd.func18, Tryd.ntmps18
  have hi64 : ((Tryd.prog).info? 33).map (·.size) = some (arr .u8 64 b).size := by rw [arr_size]; rfl
  have hsz := arr_size .u8 64 b
  have hsz8 := arr_size .u32 8 s.at
  go_upto_region 1 with (fail)
  generalize hW : ((w.alloc _).alloc _).alloc _ = W
  have hWz : W.heap.size = w.heap.size + 3 := by rw [← hW]; simp
  have hbel : Below w.heap.size w W := by rw [← hW]; exact (((Below.refl _ _).alloc (Nat.le_refl _) _).alloc (by simp) _).alloc (by simp; omega) _
  have hS : isArr W w.heap.size 32 .u32 8 s.at := by rw [← hW]; exact ((isArr_new w _ _ _ _).alloc _).alloc _
  have hA : isArr W (w.heap.size + 1) 33 .u8 64 b := by
    rw [← hW]
    have e : w.heap.size + 1 = (w.alloc (Obj.cells (arr IntKind.u32 8 s.at) 32)).heap.size := by simp
    rw [e]
    exact (isArr_new _ _ _ _ _).alloc _
  have hR : isArr W (w.heap.size + 2) 32 .u32 8 (fun _ => 0) := by
    rw [← hW]
    have e : w.heap.size + 2 = ((w.alloc (Obj.cells (arr IntKind.u32 8 s.at) 32)).alloc (Obj.cells (arr IntKind.u8 64 b) 33)).heap.size := by simp
    rw [e]
    exact isArr_lit _ _ _ _ _ _ rfl (fun i hi => by rcases i with _ | _ | _ | _ | _ | _ | _ | _ | i <;> first | rfl | omega)
  clear hW hsz hsz8
  have hi37 : ∀ f, ((Tryd.prog).info? 37).map (·.size) = some (arr .u32 64 f).size := by intro f; rw [arr_size]; rfl
  go_wp2_with (first | refine wpList_load_row rfl _ _ rfl (w.heap.size + 1) rfl _ _ (0, 0) _ hA rfl rfl hi64 ?_ | (go_at_call 38; refine (schedule_wd b _ HB.out).mono ?_; rintro e w2 ⟨rfl, hb2⟩) | (refine wpList_store_rowTo rfl _ _ _ rfl rfl w2.heap.size _ rfl rfl _ _ (heap_alloc_new _ _) (hi37 _) (by rw [arr_size]; rfl) (arr_one _ _ _) ?_))
  generalize hV : World.setRow _ w2.heap.size _ = V
  have hWV : isArr V w2.heap.size 37 .u32 64 (Sha.wd b) := by rw [← hV]; exact setRow_heap _ _ _ _ _ _ (heap_alloc_new _ _)
  have hz2 := hb2.size
  have hbV : Below w.heap.size w V := by rw [← hV]; exact below_setRow ((hbel.trans (hb2.mono (by omega))).alloc (by omega) _) (by omega) _
  have hSV : isArr V w.heap.size 32 .u32 8 s.at := by rw [← hV]; exact isArr.of_block ((hS.below hb2 (by omega)).alloc _) (setRow_other _ _ _ _ (by omega))
  have hRV : isArr V (w.heap.size + 2) 32 .u32 8 (fun _ => 0) := by rw [← hV]; exact isArr.of_block ((hR.below hb2 (by omega)).alloc _) (setRow_other _ _ _ _ (by omega))
  have INV := Lib.hid (show BlkInv s.at w V from ⟨hbV, hSV, hRV⟩)
  have c0 := hSV.cell (i := 0) (by omega)
  have c1 := hSV.cell (i := 1) (by omega)
  have c2 := hSV.cell (i := 2) (by omega)
  have c3 := hSV.cell (i := 3) (by omega)
  have c4 := hSV.cell (i := 4) (by omega)
  have c5 := hSV.cell (i := 5) (by omega)
  have c6 := hSV.cell (i := 6) (by omega)
  have c7 := hSV.cell (i := 7) (by omega)
  clear hV hz2 hbV hSV hRV hWz hbel hS hA hR hb2
  go_quiet (fail)
  go_wp2_with fail
  go_quiet (fail)
  go_wp2_with (refine wpList_load_row rfl _ _ rfl w2.heap.size rfl _ _ (0, 0) _ (show isArr _ w2.heap.size 37 .u32 64 (Sha.wd b) from hWV) rfl rfl (hi37 _) ?_)
  clear c0 c1 c2 c3 c4 c5 c6 c7 hWV
  have INV2 := Lib.hid (show ∀ n, BlkInv s.at w (V.drewN n) from fun n => INV.out.drewN n)
  clear INV
  go_loopw [6, 7, 8, 9, 10, 11, 12, 13, 39] (fun va vb vc vd ve vf vg vh i wr => ∃ k : Nat, k ≤ 64 ∧ i = .int .i64 k ∧ Slots (Sha.rd K s b k) va vb vc vd ve vf vg vh ∧ BlkInv s.at w wr) (fun _ _ _ _ _ _ _ _ i _ => 64 - (intOf i).toNat)
  case atStart => exact ⟨0, by omega, rfl, slots_start K s b, INV2.out _⟩
  case round =>
    clear INV2
    obtain ⟨k, hk, rfl, ⟨rfl, rfl, rfl, rfl, rfl, rfl, rfl, rfl⟩, hinv⟩ := hrel
    by_cases hlt : k < 64
    · have h32 := rd_32 K b s HS.out k
      have hkc : wr.cell? ⟨0, k, none⟩ = some (.int .u32 ↑(K k)) := (HK.out.below hinv.1) k hlt
      have hwk : (arr .u32 64 (Sha.wd b))[k]? = some (.int .u32 ↑(Sha.wd b k)) := arr_get _ _ _ _ hlt
      generalize hx : Sha.rd K s b k = x at h32 ⊢
      have HX := Lib.hid hx; clear hx
      obtain ⟨h1, h2, h3, h4, h5, h6, h7, h8⟩ := h32
      have INV := Lib.hid hinv
      clear hinv
      have hix := fun wx => run_index_int (w := wx) (k := .i64) .u32 Tryd.underlying37 Tryd.underlying31 (by kernel_rfl) hlt hwk
      have ba : 0 ≤ (x.a : Int) ∧ (x.a : Int) < 4294967296 := by omega
      have be : 0 ≤ (x.e : Int) ∧ (x.e : Int) < 4294967296 := by omega
      go_wp2_with fail
      go_quiet ((go_at_call 39; exact quiet_left (rot_int _ _ _ be (by omega))))
      have INV3 := Lib.hid (INV.out.drewN nq)
      clear hkc hwk hix INV
      generalize wr.drewN nq = wn at INV3 ⊢
      go_wp2_with (go_at_call 39; refine (rot_int _ _ _ ba (by omega)).mono ?_; rintro e w' ⟨rfl, rfl⟩)
      go_roundw
      case rel =>
        refine ⟨k + 1, by omega, by go_num, slots_next HX.out ⟨?_, rfl, rfl, rfl, ?_, rfl, rfl, rfl⟩, INV3.out⟩
        · rw [big_form _ _ _ _ h5, ch_form _ _ _ h5 h6 h7, big_form _ _ _ _ h1, maj_form _ _ _ h1 h2 h3]
          refine congrArg (Value.int .u32) ?_
          unfold Sha.round Sha.t1 Sha.t2 Sha.big0 Sha.big1
          simp only
          omega
        · rw [big_form _ _ _ _ h5, ch_form _ _ _ h5 h6 h7]
          refine congrArg (Value.int .u32) ?_
          unfold Sha.round Sha.t1 Sha.big1
          simp only
          omega
      case measure => simp [intOf]; omega
    · obtain rfl : k = 64 := by omega
      have hx := Lib.hid (rd_32 K b s HS.out 64)
      have INV := Lib.hid hinv
      clear hinv hlt hk
      go_wp2_with fail
      rw [lit_state]
      generalize hy : Sha.rd K s b 64 = x at hx ⊢
      have HY := Lib.hid hy; clear hy
      have INV4 := Lib.hid (show BlkInv (part8 s x 0) w wr by rw [part8_zero]; exact INV.out)
      clear INV
      go_loopw [110] (fun i wr => ∃ m : Nat, m ≤ 8 ∧ i = .int .i64 m ∧ BlkInv (part8 s x m) w wr) (fun i _ => 8 - (intOf i).toNat)
      case atStart => exact ⟨0, by omega, rfl, INV4.out⟩
      case round =>
        clear INV4
        obtain ⟨m, hm, rfl, hinv⟩ := hrel
        by_cases hlt : m < 8
        · have c0 := hinv.2.1.cell (i := m) hlt
          have f0 := hinv.2.1.frozen m
          rw [part8_at] at c0
          have hix := fun wx => run_index_int (w := wx) (k := .i64) .u32 Tryd.underlying32 Tryd.underlying31 (by kernel_rfl) hlt (arr_get .u32 8 x.at m hlt)
          have INV5 := Lib.hid hinv.set
          have b1 := part8_lt s HS.out m
          have b2 := part8_lt x hx.out m
          clear hinv
          generalize s.at m = p at c0 b1 INV5
          generalize x.at m = q at hix b2 INV5
          go_wp2_with fail
          have e : ((p : Int) + q) % 4294967296 = (((p + q) % 4294967296 : Nat) : Int) := by omega
          go_roundw
          case rel => exact ⟨m + 1, by omega, by go_num, by rw [e]; exact INV5.out⟩
          case measure => simp [intOf]; omega
        · obtain rfl : m = 8 := by omega
          obtain ⟨k1, k2, k3⟩ := hinv
          have k4 : isArr wr w.heap.size 32 .u32 8 (Sha.blk K s b).at := k2.congr fun j hj => by rw [← HY.out]; exact part8_end K s b j hj
          clear hlt hm k2
          have hi8 : ∀ f, ((Tryd.prog).info? 32).map (·.size) = some (arr .u32 8 f).size := by intro f; rw [arr_size]; rfl
          go_wp2_with (first | refine wpList_load_row rfl _ _ rfl (w.heap.size) rfl _ _ (0, 0) _ k4 rfl rfl (hi8 _) ?_ | (refine wpList_store_row rfl _ _ _ rfl (w.heap.size + 2) _ rfl rfl _ _ k3 (hi8 _) ((arr_size _ _ _).trans (arr_size _ _ _).symm) (arr_one _ _ _) ?_))
          exact bodyPost_ret (results_cell_row rfl _ _ (w.heap.size + 2) _ _ (0, 0) _ rfl (setRow_heap wr (w.heap.size + 2) _ _ _ (0, 0) k3) rfl rfl (hi8 _)) rfl ⟨rfl, below_setRow k1 (by omega) _⟩
end Go.Proofs.YtgalddnblciciaaDoor
