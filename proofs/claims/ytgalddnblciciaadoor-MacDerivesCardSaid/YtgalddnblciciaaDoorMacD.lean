import Derived.Test.YtgalddnblciciaaDoorMacC
import Derived.Test.YtgalddnblciciaaDoorMemC
namespace Go.Proofs.YtgalddnblciciaaDoor
open Go.RowKit Go.Deep

namespace Mac
def fp (p : Nat → Nat) (x j : Nat) : List Nat := (List.range j).map fun i => p i ^^^ x
theorem fp_succ (p : Nat → Nat) (x j : Nat) : fp p x (j + 1) = fp p x j ++ [p j ^^^ x] := by simp [fp, List.range_succ]
theorem fp_length (p : Nat → Nat) (x j : Nat) : (fp p x j).length = j := by simp [fp]
theorem fp_full (p : Nat → Nat) (x : Nat) : fp p x 64 = fr p x := rfl
attribute [irreducible] fp
end Mac
/-- What holds of the two buffers after j bytes. -/
def RefM (p : Nat → Nat) (V : World) (vi vo : Value) (wr : World) (j : Nat) : Prop := Own wr V.heap.size vi (Mac.fp p 54 j) ∧ Own wr V.heap.size vo (Mac.fp p 92 j) ∧ Apart vi vo ∧ Below V.heap.size V wr

set_option maxRecDepth 100000 in
set_option maxHeartbeats 4000000 in
theorem refmac_any (key msg : List Nat) (kv mv : Value) (w : World) (hk : Rs w kv key) (hkl : key.length ≤ 140737488354000) (hb : Rs w mv msg) (hlen : msg.length ≤ 140737488354000) :
    Calls Tryd.prog 30 #[kv, mv] w fun e w' => e = .returned (.agg (arr .u8 32 (Mac.hm key msg))) ∧ Below w.heap.size w w' := by
  have HB := Lib.hid hb; clear hb
  have HQ := Lib.hid hk
  have hall := Lib.hid hk.all
  clear hk
  have hi32 : ∀ f, ((Tryd.prog).info? 26).map (·.size) = some (arr .u8 32 f).size := by intro f; rw [arr_size]; rfl
  go_enter Tryd.func30, Tryd.ntmps30
  go_upto_region 1 with fail
  generalize hU : w.alloc _ = U
  have hUs : U.heap.size = w.heap.size + 1 := by rw [← hU]; simp
  have hUb : Below w.heap.size w U := by rw [← hU]; exact (Below.refl _ _).alloc (Nat.le_refl _) _
  have hUr : ∃ c : Array Value, U.heap[w.heap.size]? = some (.cells c 26 (0, 0)) ∧ c.size = 32 := by
    rw [← hU]; exact ⟨_, heap_alloc_new _ _, rfl⟩
  have HU := Lib.hid (And.intro hUs (And.intro hUb hUr))
  clear hU hUs hUb hUr
  go_upto_region 2 with (at_builtin; go_must (refine wpList_append_rs rfl _ _ rfl U.heap.size _ [] rfl (own_built U U.heap.size [] AllB.nil (Nat.le_refl _) (by simp)) _ key rfl (HQ.out.below (HU.out.2.1.alloc HU.out.2.1.size _)) (by simp; omega) (by simp) ?_; intro v2 w2 hown2 hgr2))
  have hbU2 : Below U.heap.size U w2 := below_only ((Below.refl _ _).alloc (Nat.le_refl _) _) (Nat.le_refl _) hgr2 (fun g hg => by have : U.heap.size = g := Option.some.inj hg; omega)
  rw [List.nil_append] at hown2
  obtain ⟨va, vc, rfl⟩ := hown2.form
  have O2 := Lib.hid (And.intro hown2 hbU2)
  clear hown2 hgr2 hbU2
  obtain ⟨m, hm⟩ : ∃ m, m = key.length := ⟨_, rfl⟩
  rw [← hm] at O2 hkl ⊢
  have HM := Lib.hid hm; clear hm
  by_cases hlong : 64 < m
  · have hd : decide ((64 : Int) < (m : Int)) = true := by simp; omega
    go_upto_region 5 with (first | (go_at_call 16; go_must (refine (refsum_any _ key _ O2.out.1.bs.rs (by have := HM.out; omega)).mono ?_; rintro e w3 ⟨rfl, hb3⟩)) | (refine wpList_store_rowTo rfl _ _ _ rfl rfl w3.heap.size _ rfl rfl _ _ (heap_alloc_new _ _) (hi32 _) (by rw [arr_size]; rfl) (arr_one _ _ _) ?_; generalize hV : World.setRow _ w3.heap.size _ = V))
    have hA : isArr V w3.heap.size 26 .u8 32 (Sha.dig key) := by rw [← hV]; exact setRow_heap _ _ _ _ _ _ (heap_alloc_new _ _)
    have hbV : Below U.heap.size U V := by
      have h3 : Below w2.heap.size w2 V := by rw [← hV]; exact below_setRow (hb3.alloc hb3.size _) hb3.size _
      exact O2.out.2.trans (h3.mono O2.out.2.size)
    have hrs : Rs V (.slice (some ⟨w3.heap.size, 0, none⟩) 32 32) (Mac.k0 key) := by
      have e : Mac.k0 key = Mac.dl key := by unfold Mac.k0; rw [if_pos (by have := HM.out; omega)]
      rw [e]; exact rs_arr hA (fun i _ => Sha.dig_lt _ _) (by omega)
    have hL : 32 = (Mac.k0 key).length := by unfold Mac.k0; rw [if_pos (by have := HM.out; omega)]; rw [Mac.dl_length]
    clear hV hA hb3
    generalize w3.heap.size = gd at hrs ⊢
    have R := Lib.hid (And.intro hrs hbV)
    have HL := Lib.hid hL
    obtain ⟨n, hn⟩ : ∃ n : Nat, n = (Mac.k0 key).length := ⟨_, rfl⟩
    have HN := Lib.hid hn
    clear hrs hbV hn hd hL
    have hp := fun i => Mac.p0_lt hall.out i
    have hpd : Mac.p0 key = fun i => (Mac.k0 key).getD i 0 := rfl
    have HH := Lib.hid (show Mac.hm key msg = Sha.dig (Mac.fr (Mac.p0 key) 92 ++ Mac.dl (Mac.fr (Mac.p0 key) 54 ++ msg)) from rfl)
    generalize hpk : Mac.p0 key = pk at hp HH hpd
    have HP := Lib.hid hpd
    clear hpk hpd
    go_wp2_with fail
    go_loopw [7, 8, 9] (fun vi vo i wr => ∃ j : Nat, j ≤ 64 ∧ i = .int .i64 j ∧ RefM pk V vi vo wr j) (fun _ _ i _ => 64 - (intOf i).toNat)
    case atStart => exact ⟨0, by omega, rfl, by unfold Mac.fp; exact Own.nil _ _, by unfold Mac.fp; exact Own.nil _ _, .inl rfl, Below.refl _ _⟩
    case round =>
      obtain ⟨j, hj, rfl, hI⟩ := hrel
      by_cases hlt : j < 64
      · have d64 : decide ((j : Int) < 64) = true := by simp; omega
        obtain ⟨hoi, hoo, hap, hbl⟩ := hI
        have hsz := hbl.size
        have hy := hp j
        have s1 := Mac.fp_succ pk 54 j
        have s2 := Mac.fp_succ pk 92 j
        have hcell : ∀ (wx : World) (t : TypeId) (a i : Nat), i < [a].length → (wx.alloc (.cells #[Value.int .u8 (a : Int)] t)).cell? ⟨wx.heap.size, 0 + i, none⟩ = some (bv ([a].getD i 0)) := by
          intro wx t a i hi
          obtain rfl : i = 0 := by simp at hi; omega
          exact cell_new _ _ _ 0 _ rfl
        have HI := Lib.hid (And.intro hoi (And.intro hoo (And.intro hap hbl)))
        by_cases hjk : j < 32
        · have dk : decide ((j : Int) < (32 : Int)) = true := by simp; omega
          have hrk := R.out.1.below hbl
          obtain ⟨bk, ok, ek, ck⟩ := hrk.at (k := j) (by rw [← HL.out]; exact hjk)
          simp only [Option.some.injEq, Addr.mk.injEq, and_true] at ek
          obtain ⟨rfl, rfl⟩ := ek
          have ck := ck j (by rw [← HL.out]; exact hjk)
          rw [Nat.zero_add] at ck
          rw [show (Mac.k0 key).getD j 0 = pk j from by rw [HP.out]] at ck
          clear hrk hoi hoo hap hbl
          generalize pk j = y at ck hy s1 s2
          have h54 : bits BinOp.xor IntKind.u8 (y : Int) 54 = ((y ^^^ 54 : Nat) : Int) := u8_xor_nat y 54 hy (by omega)
          have h92 : bits BinOp.xor IntKind.u8 (y : Int) 92 = ((y ^^^ 92 : Nat) : Int) := u8_xor_nat y 92 hy (by omega)
          have ha : y ^^^ 54 < 256 := Nat.xor_lt_two_pow (n := 8) hy (by omega)
          have hb : y ^^^ 92 < 256 := Nat.xor_lt_two_pow (n := 8) hy (by omega)
          generalize y ^^^ 54 = a at h54 ha s1
          generalize y ^^^ 92 = b at h92 hb s2
          have S1 := Lib.hid s1
          have S2 := Lib.hid s2
          clear s1 s2
          go_upto_region 14 with (at_builtin; go_must (refine wpList_append_moved rfl _ _ rfl V.heap.size _ _ rfl (HI.out.1.alloc _) wr.heap.size 0 1 [a] rfl (AllB.one ha) (by simp) (hcell _ _ a) (by rw [Mac.fp_length]; simp; omega) (Nat.le_trans hsz (by simp)) ?_; intro v3 w3 h3 m3 g3))
          have hoo3 := (HI.out.2.1.alloc (.cells #[Value.int .u8 (a : Int)] 5)).only g3 HI.out.2.2.1.symm
          have hbl3 := below_only (HI.out.2.2.2.alloc hsz (.cells #[Value.int .u8 (a : Int)] 5)) (Nat.le_refl _) g3 (fun g hg => (HI.out.1.lt g hg).1)
          have hap3 : Apart _ v3 := HI.out.2.2.1.symm.moved m3 (fun g hg => by have := (HI.out.2.1.lt g hg).2; simp; omega)
          have hs3 := hbl3.size
          have T := Lib.hid (And.intro h3 (And.intro hoo3 (And.intro hap3 hbl3)))
          clear h3 hoo3 hap3 hbl3 m3 g3
          go_wp2_with (at_builtin; go_must (refine wpList_append_moved rfl _ _ rfl V.heap.size _ _ rfl (T.out.2.1.alloc _) w3.heap.size 0 1 [b] rfl (AllB.one hb) (by simp) (hcell _ _ b) (by rw [Mac.fp_length]; simp; omega) (Nat.le_trans hs3 (by simp)) ?_; intro v4 w4 h4 m4 g4; have hoi4 := (T.out.1.alloc (.cells #[Value.int .u8 (b : Int)] 5)).only g4 T.out.2.2.1.symm; have hap4 : Apart v3 v4 := T.out.2.2.1.symm.moved m4 (fun g hg => by have := (T.out.1.lt g hg).2; simp; omega); have hbl4 := below_only (T.out.2.2.2.alloc hs3 (.cells #[Value.int .u8 (b : Int)] 5)) (Nat.le_refl _) g4 (fun g hg => (T.out.2.1.lt g hg).1); have Y : Hid (RefM pk V v3 v4 w4 (j + 1)) := Lib.hid ⟨by rw [S1.out]; exact hoi4, by rw [S2.out]; exact h4, hap4, hbl4⟩; clear h4 m4 g4 hoi4 hap4 hbl4))
          go_roundw
          case rel => exact ⟨j + 1, by omega, by go_num, Y.out⟩
          case measure => simp [intOf]; omega
        · have dk : decide ((j : Int) < (32 : Int)) = false := by simp; omega
          have e0 : pk j = 0 := by
            rw [HP.out]
            simp [List.getD, List.getElem?_eq_none (show (Mac.k0 key).length ≤ j by have := HL.out; omega)]
          rw [e0] at s1 s2
          have h54 : bits BinOp.xor IntKind.u8 0 54 = ((54 : Nat) : Int) := by decide
          have h92 : bits BinOp.xor IntKind.u8 0 92 = ((92 : Nat) : Int) := by decide
          obtain ⟨a, hae⟩ : ∃ a, a = (54 : Nat) := ⟨_, rfl⟩
          obtain ⟨b, hbe⟩ : ∃ b, b = (92 : Nat) := ⟨_, rfl⟩
          rw [← hae] at h54
          rw [← hbe] at h92
          rw [show (0 ^^^ 54 : Nat) = a from by rw [hae]; rfl] at s1
          rw [show (0 ^^^ 92 : Nat) = b from by rw [hbe]; rfl] at s2
          have ha : a < 256 := by omega
          have hb : b < 256 := by omega
          have S1 := Lib.hid s1
          have S2 := Lib.hid s2
          clear s1 s2 hoi hoo hap hbl hae hbe e0 hy
          go_upto_region 14 with (at_builtin; go_must (refine wpList_append_moved rfl _ _ rfl V.heap.size _ _ rfl (HI.out.1.alloc _) wr.heap.size 0 1 [a] rfl (AllB.one ha) (by simp) (hcell _ _ a) (by rw [Mac.fp_length]; simp; omega) (Nat.le_trans hsz (by simp)) ?_; intro v3 w3 h3 m3 g3))
          have hoo3 := (HI.out.2.1.alloc (.cells #[Value.int .u8 (a : Int)] 5)).only g3 HI.out.2.2.1.symm
          have hbl3 := below_only (HI.out.2.2.2.alloc hsz (.cells #[Value.int .u8 (a : Int)] 5)) (Nat.le_refl _) g3 (fun g hg => (HI.out.1.lt g hg).1)
          have hap3 : Apart _ v3 := HI.out.2.2.1.symm.moved m3 (fun g hg => by have := (HI.out.2.1.lt g hg).2; simp; omega)
          have hs3 := hbl3.size
          have T := Lib.hid (And.intro h3 (And.intro hoo3 (And.intro hap3 hbl3)))
          clear h3 hoo3 hap3 hbl3 m3 g3
          go_wp2_with (at_builtin; go_must (refine wpList_append_moved rfl _ _ rfl V.heap.size _ _ rfl (T.out.2.1.alloc _) w3.heap.size 0 1 [b] rfl (AllB.one hb) (by simp) (hcell _ _ b) (by rw [Mac.fp_length]; simp; omega) (Nat.le_trans hs3 (by simp)) ?_; intro v4 w4 h4 m4 g4; have hoi4 := (T.out.1.alloc (.cells #[Value.int .u8 (b : Int)] 5)).only g4 T.out.2.2.1.symm; have hap4 : Apart v3 v4 := T.out.2.2.1.symm.moved m4 (fun g hg => by have := (T.out.1.lt g hg).2; simp; omega); have hbl4 := below_only (T.out.2.2.2.alloc hs3 (.cells #[Value.int .u8 (b : Int)] 5)) (Nat.le_refl _) g4 (fun g hg => (T.out.2.1.lt g hg).1); have Y : Hid (RefM pk V v3 v4 w4 (j + 1)) := Lib.hid ⟨by rw [S1.out]; exact hoi4, by rw [S2.out]; exact h4, hap4, hbl4⟩; clear h4 m4 g4 hoi4 hap4 hbl4))
          go_roundw
          case rel => exact ⟨j + 1, by omega, by go_num, Y.out⟩
          case measure => simp [intOf]; omega
      · obtain rfl : j = 64 := by omega
        have d64 : decide (((64 : Nat) : Int) < 64) = false := by decide
        obtain ⟨hoi, hoo, hap, hbl⟩ := hI
        rw [Mac.fp_full] at hoi hoo
        have HI := Lib.hid (And.intro hoi (And.intro hoo (And.intro hap hbl)))
        have hsz := hbl.size
        clear hoi hoo hap hbl hlt hj
        have hbw : Below w.heap.size w wr := (HU.out.2.1.trans (R.out.2.mono HU.out.2.1.size)).trans (HI.out.2.2.2.mono (by have := HU.out.2.1.size; have := R.out.2.size; omega))
        have HBW := Lib.hid hbw; clear hbw
        go_upto_region 16 with (first | (at_builtin; go_must (refine wpList_append_rs rfl _ _ rfl V.heap.size _ _ rfl HI.out.1 _ msg rfl (HB.out.below HBW.out) (by rw [Mac.fr_length]; omega) hsz ?_; intro v5 w5 h5 g5)) | (go_at_call 16; go_must (refine (refsum_any _ (Mac.fr pk 54 ++ msg) _ h5.bs.rs (by rw [List.length_append, Mac.fr_length]; omega)).mono ?_; rintro e w6 ⟨rfl, hb6⟩)) | (refine wpList_store_rowTo rfl _ _ _ rfl rfl w6.heap.size _ rfl rfl _ _ (heap_alloc_new _ _) (hi32 _) (by rw [arr_size]; rfl) (arr_one _ _ _) ?_; generalize hV6 : World.setRow _ w6.heap.size _ = V6))
        have hA6 : isArr V6 w6.heap.size 26 .u8 32 (Sha.dig (Mac.fr pk 54 ++ msg)) := by rw [← hV6]; exact setRow_heap _ _ _ _ _ _ (heap_alloc_new _ _)
        have hr6 : Rs V6 (.slice (some ⟨w6.heap.size, 0, none⟩) 32 32) (Mac.dl (Mac.fr pk 54 ++ msg)) := rs_arr hA6 (fun i _ => Sha.dig_lt _ _) (by omega)
        have hb56 : Below w5.heap.size w5 V6 := by rw [← hV6]; exact below_setRow (hb6.alloc hb6.size _) hb6.size _
        have ho6 : Own V6 V.heap.size _ (Mac.fr pk 92) := (HI.out.2.1.only g5 HI.out.2.2.1.symm).below hb56
        have hbV5 : Below V.heap.size V w5 := below_only HI.out.2.2.2 (Nat.le_refl _) g5 (fun g hg => (HI.out.1.lt g hg).1)
        have hbV6 : Below V.heap.size V V6 := hbV5.trans (hb56.mono hbV5.size)
        have hbU6 : Below U.heap.size U V6 := R.out.2.trans (hbV6.mono R.out.2.size)
        have Z := Lib.hid (And.intro hr6 (And.intro ho6 hbU6))
        have hs6 := hbV6.size
        clear hV6 hA6 hr6 hb56 ho6 hbV5 hbU6 hb6 h5 g5
        generalize w6.heap.size = g6 at Z ⊢
        obtain ⟨cres, e1, e2⟩ := HU.out.2.2
        have E1 := Lib.hid e1
        have hlr := lt_of_block e1
        clear e1
        go_wp2_with (first | (at_builtin; go_must (refine wpList_append_rs rfl _ _ rfl V.heap.size _ _ rfl Z.out.2.1 _ (Mac.dl (Mac.fr pk 54 ++ msg)) rfl Z.out.1 (by rw [Mac.fr_length, Mac.dl_length]; omega) hs6 ?_; intro v7 w7 h7 g7)) | (go_at_call 16; go_must (refine (refsum_any _ (Mac.fr pk 92 ++ Mac.dl (Mac.fr pk 54 ++ msg)) _ h7.bs.rs (by rw [List.length_append, Mac.fr_length, Mac.dl_length]; omega)).mono ?_; rintro e w8 ⟨rfl, hb8⟩; have hbU7 : Below U.heap.size U w7 := below_only Z.out.2.2 (Nat.le_refl _) g7 (fun g hg => Nat.le_trans R.out.2.size (Z.out.2.1.lt g hg).1); have hbU8 : Below U.heap.size U w8 := hbU7.trans (hb8.mono hbU7.size); have hres := (hbU8.block w.heap.size hlr).trans E1.out)) | (refine wpList_store_row rfl _ _ _ rfl w.heap.size _ rfl rfl _ _ hres (hi32 _) (by rw [arr_size]; exact e2) (arr_one _ _ _) ?_))
        exact bodyPost_ret (results_cell_row rfl _ _ w.heap.size _ _ (0, 0) _ rfl (setRow_heap _ w.heap.size _ _ _ (0, 0) hres) rfl rfl (hi32 _)) rfl ⟨by rw [HH.out], below_setRow (HU.out.2.1.trans (hbU8.mono HU.out.2.1.size)) (Nat.le_refl _) _⟩
  · have hd : decide ((64 : Int) < (m : Int)) = false := by simp; omega
    go_upto_region 5 with fail
    have hrs : Rs w2 (.slice va m vc) (Mac.k0 key) := by
      have e : Mac.k0 key = key := by unfold Mac.k0; rw [if_neg (by have := HM.out; omega)]
      rw [e]; exact O2.out.1.bs.rs
    have hL : m = (Mac.k0 key).length := by unfold Mac.k0; rw [if_neg (by have := HM.out; omega)]; exact HM.out
    have hbV := O2.out.2
    rename World => V
    have R := Lib.hid (And.intro hrs hbV)
    have HL := Lib.hid hL
    obtain ⟨n, hn⟩ : ∃ n : Nat, n = (Mac.k0 key).length := ⟨_, rfl⟩
    have HN := Lib.hid hn
    clear hrs hbV hn hd hL
    have hp := fun i => Mac.p0_lt hall.out i
    have hpd : Mac.p0 key = fun i => (Mac.k0 key).getD i 0 := rfl
    have HH := Lib.hid (show Mac.hm key msg = Sha.dig (Mac.fr (Mac.p0 key) 92 ++ Mac.dl (Mac.fr (Mac.p0 key) 54 ++ msg)) from rfl)
    generalize hpk : Mac.p0 key = pk at hp HH hpd
    have HP := Lib.hid hpd
    clear hpk hpd
    go_wp2_with fail
    go_loopw [7, 8, 9] (fun vi vo i wr => ∃ j : Nat, j ≤ 64 ∧ i = .int .i64 j ∧ RefM pk V vi vo wr j) (fun _ _ i _ => 64 - (intOf i).toNat)
    case atStart => exact ⟨0, by omega, rfl, by unfold Mac.fp; exact Own.nil _ _, by unfold Mac.fp; exact Own.nil _ _, .inl rfl, Below.refl _ _⟩
    case round =>
      obtain ⟨j, hj, rfl, hI⟩ := hrel
      by_cases hlt : j < 64
      · have d64 : decide ((j : Int) < 64) = true := by simp; omega
        obtain ⟨hoi, hoo, hap, hbl⟩ := hI
        have hsz := hbl.size
        have hy := hp j
        have s1 := Mac.fp_succ pk 54 j
        have s2 := Mac.fp_succ pk 92 j
        have hcell : ∀ (wx : World) (t : TypeId) (a i : Nat), i < [a].length → (wx.alloc (.cells #[Value.int .u8 (a : Int)] t)).cell? ⟨wx.heap.size, 0 + i, none⟩ = some (bv ([a].getD i 0)) := by
          intro wx t a i hi
          obtain rfl : i = 0 := by simp at hi; omega
          exact cell_new _ _ _ 0 _ rfl
        have HI := Lib.hid (And.intro hoi (And.intro hoo (And.intro hap hbl)))
        by_cases hjk : j < m
        · have dk : decide ((j : Int) < (m : Int)) = true := by simp; omega
          have hrk := R.out.1.below hbl
          obtain ⟨bk, ok, rfl, ck⟩ := hrk.at (k := j) (by rw [← HL.out]; exact hjk)
          have ck := ck j (by rw [← HL.out]; exact hjk)
          rw [show (Mac.k0 key).getD j 0 = pk j from by rw [HP.out]] at ck
          clear hrk hoi hoo hap hbl
          generalize pk j = y at ck hy s1 s2
          have h54 : bits BinOp.xor IntKind.u8 (y : Int) 54 = ((y ^^^ 54 : Nat) : Int) := u8_xor_nat y 54 hy (by omega)
          have h92 : bits BinOp.xor IntKind.u8 (y : Int) 92 = ((y ^^^ 92 : Nat) : Int) := u8_xor_nat y 92 hy (by omega)
          have ha : y ^^^ 54 < 256 := Nat.xor_lt_two_pow (n := 8) hy (by omega)
          have hb : y ^^^ 92 < 256 := Nat.xor_lt_two_pow (n := 8) hy (by omega)
          generalize y ^^^ 54 = a at h54 ha s1
          generalize y ^^^ 92 = b at h92 hb s2
          have S1 := Lib.hid s1
          have S2 := Lib.hid s2
          clear s1 s2
          go_upto_region 14 with (at_builtin; go_must (refine wpList_append_moved rfl _ _ rfl V.heap.size _ _ rfl (HI.out.1.alloc _) wr.heap.size 0 1 [a] rfl (AllB.one ha) (by simp) (hcell _ _ a) (by rw [Mac.fp_length]; simp; omega) (Nat.le_trans hsz (by simp)) ?_; intro v3 w3 h3 m3 g3))
          have hoo3 := (HI.out.2.1.alloc (.cells #[Value.int .u8 (a : Int)] 5)).only g3 HI.out.2.2.1.symm
          have hbl3 := below_only (HI.out.2.2.2.alloc hsz (.cells #[Value.int .u8 (a : Int)] 5)) (Nat.le_refl _) g3 (fun g hg => (HI.out.1.lt g hg).1)
          have hap3 : Apart _ v3 := HI.out.2.2.1.symm.moved m3 (fun g hg => by have := (HI.out.2.1.lt g hg).2; simp; omega)
          have hs3 := hbl3.size
          have T := Lib.hid (And.intro h3 (And.intro hoo3 (And.intro hap3 hbl3)))
          clear h3 hoo3 hap3 hbl3 m3 g3
          go_wp2_with (at_builtin; go_must (refine wpList_append_moved rfl _ _ rfl V.heap.size _ _ rfl (T.out.2.1.alloc _) w3.heap.size 0 1 [b] rfl (AllB.one hb) (by simp) (hcell _ _ b) (by rw [Mac.fp_length]; simp; omega) (Nat.le_trans hs3 (by simp)) ?_; intro v4 w4 h4 m4 g4; have hoi4 := (T.out.1.alloc (.cells #[Value.int .u8 (b : Int)] 5)).only g4 T.out.2.2.1.symm; have hap4 : Apart v3 v4 := T.out.2.2.1.symm.moved m4 (fun g hg => by have := (T.out.1.lt g hg).2; simp; omega); have hbl4 := below_only (T.out.2.2.2.alloc hs3 (.cells #[Value.int .u8 (b : Int)] 5)) (Nat.le_refl _) g4 (fun g hg => (T.out.2.1.lt g hg).1); have Y : Hid (RefM pk V v3 v4 w4 (j + 1)) := Lib.hid ⟨by rw [S1.out]; exact hoi4, by rw [S2.out]; exact h4, hap4, hbl4⟩; clear h4 m4 g4 hoi4 hap4 hbl4))
          go_roundw
          case rel => exact ⟨j + 1, by omega, by go_num, Y.out⟩
          case measure => simp [intOf]; omega
        · have dk : decide ((j : Int) < (m : Int)) = false := by simp; omega
          have e0 : pk j = 0 := by
            rw [HP.out]
            simp [List.getD, List.getElem?_eq_none (show (Mac.k0 key).length ≤ j by have := HL.out; omega)]
          rw [e0] at s1 s2
          have h54 : bits BinOp.xor IntKind.u8 0 54 = ((54 : Nat) : Int) := by decide
          have h92 : bits BinOp.xor IntKind.u8 0 92 = ((92 : Nat) : Int) := by decide
          obtain ⟨a, hae⟩ : ∃ a, a = (54 : Nat) := ⟨_, rfl⟩
          obtain ⟨b, hbe⟩ : ∃ b, b = (92 : Nat) := ⟨_, rfl⟩
          rw [← hae] at h54
          rw [← hbe] at h92
          rw [show (0 ^^^ 54 : Nat) = a from by rw [hae]; rfl] at s1
          rw [show (0 ^^^ 92 : Nat) = b from by rw [hbe]; rfl] at s2
          have ha : a < 256 := by omega
          have hb : b < 256 := by omega
          have S1 := Lib.hid s1
          have S2 := Lib.hid s2
          clear s1 s2 hoi hoo hap hbl hae hbe e0 hy
          go_upto_region 14 with (at_builtin; go_must (refine wpList_append_moved rfl _ _ rfl V.heap.size _ _ rfl (HI.out.1.alloc _) wr.heap.size 0 1 [a] rfl (AllB.one ha) (by simp) (hcell _ _ a) (by rw [Mac.fp_length]; simp; omega) (Nat.le_trans hsz (by simp)) ?_; intro v3 w3 h3 m3 g3))
          have hoo3 := (HI.out.2.1.alloc (.cells #[Value.int .u8 (a : Int)] 5)).only g3 HI.out.2.2.1.symm
          have hbl3 := below_only (HI.out.2.2.2.alloc hsz (.cells #[Value.int .u8 (a : Int)] 5)) (Nat.le_refl _) g3 (fun g hg => (HI.out.1.lt g hg).1)
          have hap3 : Apart _ v3 := HI.out.2.2.1.symm.moved m3 (fun g hg => by have := (HI.out.2.1.lt g hg).2; simp; omega)
          have hs3 := hbl3.size
          have T := Lib.hid (And.intro h3 (And.intro hoo3 (And.intro hap3 hbl3)))
          clear h3 hoo3 hap3 hbl3 m3 g3
          go_wp2_with (at_builtin; go_must (refine wpList_append_moved rfl _ _ rfl V.heap.size _ _ rfl (T.out.2.1.alloc _) w3.heap.size 0 1 [b] rfl (AllB.one hb) (by simp) (hcell _ _ b) (by rw [Mac.fp_length]; simp; omega) (Nat.le_trans hs3 (by simp)) ?_; intro v4 w4 h4 m4 g4; have hoi4 := (T.out.1.alloc (.cells #[Value.int .u8 (b : Int)] 5)).only g4 T.out.2.2.1.symm; have hap4 : Apart v3 v4 := T.out.2.2.1.symm.moved m4 (fun g hg => by have := (T.out.1.lt g hg).2; simp; omega); have hbl4 := below_only (T.out.2.2.2.alloc hs3 (.cells #[Value.int .u8 (b : Int)] 5)) (Nat.le_refl _) g4 (fun g hg => (T.out.2.1.lt g hg).1); have Y : Hid (RefM pk V v3 v4 w4 (j + 1)) := Lib.hid ⟨by rw [S1.out]; exact hoi4, by rw [S2.out]; exact h4, hap4, hbl4⟩; clear h4 m4 g4 hoi4 hap4 hbl4))
          go_roundw
          case rel => exact ⟨j + 1, by omega, by go_num, Y.out⟩
          case measure => simp [intOf]; omega
      · obtain rfl : j = 64 := by omega
        have d64 : decide (((64 : Nat) : Int) < 64) = false := by decide
        obtain ⟨hoi, hoo, hap, hbl⟩ := hI
        rw [Mac.fp_full] at hoi hoo
        have HI := Lib.hid (And.intro hoi (And.intro hoo (And.intro hap hbl)))
        have hsz := hbl.size
        clear hoi hoo hap hbl hlt hj
        have hbw : Below w.heap.size w wr := (HU.out.2.1.trans (R.out.2.mono HU.out.2.1.size)).trans (HI.out.2.2.2.mono (by have := HU.out.2.1.size; have := R.out.2.size; omega))
        have HBW := Lib.hid hbw; clear hbw
        go_upto_region 16 with (first | (at_builtin; go_must (refine wpList_append_rs rfl _ _ rfl V.heap.size _ _ rfl HI.out.1 _ msg rfl (HB.out.below HBW.out) (by rw [Mac.fr_length]; omega) hsz ?_; intro v5 w5 h5 g5)) | (go_at_call 16; go_must (refine (refsum_any _ (Mac.fr pk 54 ++ msg) _ h5.bs.rs (by rw [List.length_append, Mac.fr_length]; omega)).mono ?_; rintro e w6 ⟨rfl, hb6⟩)) | (refine wpList_store_rowTo rfl _ _ _ rfl rfl w6.heap.size _ rfl rfl _ _ (heap_alloc_new _ _) (hi32 _) (by rw [arr_size]; rfl) (arr_one _ _ _) ?_; generalize hV6 : World.setRow _ w6.heap.size _ = V6))
        have hA6 : isArr V6 w6.heap.size 26 .u8 32 (Sha.dig (Mac.fr pk 54 ++ msg)) := by rw [← hV6]; exact setRow_heap _ _ _ _ _ _ (heap_alloc_new _ _)
        have hr6 : Rs V6 (.slice (some ⟨w6.heap.size, 0, none⟩) 32 32) (Mac.dl (Mac.fr pk 54 ++ msg)) := rs_arr hA6 (fun i _ => Sha.dig_lt _ _) (by omega)
        have hb56 : Below w5.heap.size w5 V6 := by rw [← hV6]; exact below_setRow (hb6.alloc hb6.size _) hb6.size _
        have ho6 : Own V6 V.heap.size _ (Mac.fr pk 92) := (HI.out.2.1.only g5 HI.out.2.2.1.symm).below hb56
        have hbV5 : Below V.heap.size V w5 := below_only HI.out.2.2.2 (Nat.le_refl _) g5 (fun g hg => (HI.out.1.lt g hg).1)
        have hbV6 : Below V.heap.size V V6 := hbV5.trans (hb56.mono hbV5.size)
        have hbU6 : Below U.heap.size U V6 := R.out.2.trans (hbV6.mono R.out.2.size)
        have Z := Lib.hid (And.intro hr6 (And.intro ho6 hbU6))
        have hs6 := hbV6.size
        clear hV6 hA6 hr6 hb56 ho6 hbV5 hbU6 hb6 h5 g5
        generalize w6.heap.size = g6 at Z ⊢
        obtain ⟨cres, e1, e2⟩ := HU.out.2.2
        have E1 := Lib.hid e1
        have hlr := lt_of_block e1
        clear e1
        go_wp2_with (first | (at_builtin; go_must (refine wpList_append_rs rfl _ _ rfl V.heap.size _ _ rfl Z.out.2.1 _ (Mac.dl (Mac.fr pk 54 ++ msg)) rfl Z.out.1 (by rw [Mac.fr_length, Mac.dl_length]; omega) hs6 ?_; intro v7 w7 h7 g7)) | (go_at_call 16; go_must (refine (refsum_any _ (Mac.fr pk 92 ++ Mac.dl (Mac.fr pk 54 ++ msg)) _ h7.bs.rs (by rw [List.length_append, Mac.fr_length, Mac.dl_length]; omega)).mono ?_; rintro e w8 ⟨rfl, hb8⟩; have hbU7 : Below U.heap.size U w7 := below_only Z.out.2.2 (Nat.le_refl _) g7 (fun g hg => Nat.le_trans R.out.2.size (Z.out.2.1.lt g hg).1); have hbU8 : Below U.heap.size U w8 := hbU7.trans (hb8.mono hbU7.size); have hres := (hbU8.block w.heap.size hlr).trans E1.out)) | (refine wpList_store_row rfl _ _ _ rfl w.heap.size _ rfl rfl _ _ hres (hi32 _) (by rw [arr_size]; exact e2) (arr_one _ _ _) ?_))
        exact bodyPost_ret (results_cell_row rfl _ _ w.heap.size _ _ (0, 0) _ rfl (setRow_heap _ w.heap.size _ _ _ (0, 0) hres) rfl rfl (hi32 _)) rfl ⟨by rw [HH.out], below_setRow (HU.out.2.1.trans (hbU8.mono HU.out.2.1.size)) (Nat.le_refl _) _⟩
end Go.Proofs.YtgalddnblciciaaDoor
