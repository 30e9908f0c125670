/- Layer 9: Open of the program. -/
import Derived.Test.YtpbcpdocnjnfiaaDoorSealC
import Derived.Deep.QuietTactic
namespace Go.Proofs.YtpbcpdocnjnfiaaDoor
open Go.RowKit Go.Deep

theorem Rs.caps {w : World} {x : Addr} {n cap : Nat} {l : List Nat} (h : Rs w (.slice (some x) n cap) l) : l.length ≤ cap ∧ cap ≤ 9223372036854775807 := by
  rcases h.2.2 with ⟨h', _⟩ | ⟨y, c, h', hc, _⟩
  · simp at h'
  · simp only [Value.slice.injEq] at h'
    obtain ⟨_, _, rfl⟩ := h'
    exact hc
/-- A part of a slice. -/
theorem Rs.sub {w : World} {b off n cap : Nat} {l : List Nat} (h : Rs w (.slice (some ⟨b, off, none⟩) n cap) l) (i j c m : Nat) (hij : i ≤ j) (hj : j ≤ l.length) (hm : m = j - i) (hc : m ≤ c) (hc2 : c ≤ 9223372036854775807) : Rs w (.slice (some ⟨b, off + i, none⟩) m c) ((l.take j).drop i) := by
  subst hm
  have hl : ((l.take j).drop i).length = j - i := by rw [List.length_drop, List.length_take]; omega
  refine ⟨fun x hx => h.1 x (List.mem_of_mem_take (List.mem_of_mem_drop hx)), by have := h.2.1; omega, .inr ⟨_, c, by rw [hl], by rw [hl]; omega, fun k hk => ?_⟩⟩
  rw [hl] at hk
  obtain ⟨b', off', e, hcell⟩ := h.at (k := i + k) (by omega)
  simp only [Option.some.injEq, Addr.mk.injEq, and_true] at e
  obtain ⟨rfl, rfl⟩ := e
  rw [Addr.add_lit, Nat.add_assoc, hcell (i + k) (by omega)]
  congr 2
  simp only [List.getD, List.getElem?_drop]
  rw [List.getElem?_take_of_lt (by omega)]
theorem elemU8s : Tryd.prog.underlying 24 = some (.slice (Tryd.prog.elem 24)) := by kernel_rfl
theorem sizeU8s : (Tryd.prog.info? 5).map (·.size) = some 1 := by kernel_rfl
/-- Where a part of a slice begins: at the end of the room the pointer stays. -/
def partA (b off i m : Nat) : Option Addr := if m = i then some ⟨b, off, none⟩ else some ⟨b, off + i, none⟩
theorem run_part (w : World) (b off len cap i j m : Nat) (hij : i ≤ j) (hjm : j ≤ m) (hm : m ≤ cap) : (Instr.slice 24 (.slice (some ⟨b, off, none⟩) len cap) (some (.int .i64 i)) (some (.int .i64 j)) (some (.int .i64 m))).run Tryd.prog w = .ok (.slice (partA b off i m) (j - i) (m - i)) w := by
  have h1 : (0 : Int) ≤ (i : Int) ∧ (i : Int) ≤ (j : Int) := by omega
  have h2 : (0 : Int) ≤ (j : Int) ∧ (j : Int) ≤ (m : Int) := by omega
  have h3 : (0 : Int) ≤ (m : Int) ∧ (m : Int) ≤ (cap : Int) := by omega
  unfold partA
  simp [Instr.slice, Instr.sliceBounds, Instr.sliceBound, run_underlying Tryd.underlying24, go_sem]
  rw [if_pos hm, if_pos hjm, if_pos hij]
theorem run_part2 (w : World) (b off len cap i j : Nat) (hij : i ≤ j) (hj : j ≤ cap) : (Instr.slice 24 (.slice (some ⟨b, off, none⟩) len cap) (some (.int .i64 i)) (some (.int .i64 j)) none).run Tryd.prog w = .ok (.slice (partA b off i cap) (j - i) (cap - i)) w := by
  unfold partA
  simp [Instr.slice, Instr.sliceBounds, Instr.sliceBound, run_underlying Tryd.underlying24, go_sem]
  rw [if_pos hj, if_pos hij]
theorem exec_part {o : Oper} {a : Act} {w : World} {x y z t : Operand} {b off len cap i j m : Nat} (ho : o.op = .slice 24 x (some y) (some z) (some t)) (hx : a.eval x = .slice (some ⟨b, off, none⟩) len cap) (hy : a.eval y = .int .i64 i) (hz : a.eval z = .int .i64 j) (ht : a.eval t = .int .i64 m) (hij : i ≤ j) (hjm : j ≤ m) (hm : m ≤ cap) :
    (execOp a.eval o).run Tryd.prog w = .ok (.value (.slice (partA b off i m) (j - i) (m - i))) w := by
  unfold execOp
  simp only [ho, hx, hy, hz, ht, Option.map_some, Sem.run_bind, Sem.run_pure, run_sliceAt_slice _ 24 _ _ _ _ elemU8s, Result.andThen_ok, run_part w b off len cap i j m hij hjm hm]
theorem exec_part2 {o : Oper} {a : Act} {w : World} {x y z : Operand} {b off len cap i j : Nat} (ho : o.op = .slice 24 x (some y) (some z) none) (hx : a.eval x = .slice (some ⟨b, off, none⟩) len cap) (hy : a.eval y = .int .i64 i) (hz : a.eval z = .int .i64 j) (hij : i ≤ j) (hj : j ≤ cap) :
    (execOp a.eval o).run Tryd.prog w = .ok (.value (.slice (partA b off i cap) (j - i) (cap - i))) w := by
  unfold execOp
  simp only [ho, hx, hy, hz, Option.map_some, Option.map_none, Sem.run_bind, Sem.run_pure, run_sliceAt_slice _ 24 _ _ _ _ elemU8s, Result.andThen_ok, run_part2 w b off len cap i j hij hj]
theorem Rs.part {w : World} {b off n cap : Nat} {l : List Nat} (h : Rs w (.slice (some ⟨b, off, none⟩) n cap) l) (i j m : Nat) (hij : i ≤ j) (hj : j ≤ l.length) (hjm : j ≤ m) (hm : m ≤ 9223372036854775807) : Rs w (.slice (partA b off i m) (j - i) (m - i)) ((l.take j).drop i) := by
  unfold partA
  split
  · rename_i he
    have e : (l.take j).drop i = [] := List.drop_eq_nil_of_le (by rw [List.length_take]; omega)
    rw [e]
    refine ⟨AllB.nil, by simp, .inr ⟨⟨b, off, none⟩, m - i, ?_, by simp; omega, fun k hk => by simp at hk⟩⟩
    rw [show j - i = 0 by omega]; rfl
  · exact h.sub i j (m - i) (j - i) hij hj rfl (by omega) (by omega)
attribute [local irreducible] wpAnyH in
set_option maxRecDepth 100000 in
set_option maxHeartbeats 2000000 in
theorem open_any (key : Nat → Nat) (u : Nat) (v : Value) (s : List Nat) (w : World) (hk : Aes.B8 key) (hu : u < 256) (hv : Rs w v s) (hl : s.length ≤ 1000000) (hK : Consts w Sha.tab) :
    Calls Tryd.prog 12 #[.agg (arr .u8 16 key), .int .u8 (u : Int), v] w (RetPut (Sea.op key u s) w) := by
  have HK := Lib.hid hK; clear hK
  have HB := Lib.hid hk; clear hk
  have hsz := arr_size .u8 16 key
  have A0 := isArr_new w 22 .u8 16 key
  have B0 := below_of_only (only_alloc (only_refl w none) (.cells (arr .u8 16 key) 22))
  by_cases h24 : s.length < 24
  · obtain ⟨a, cap, rfl⟩ := hv.form
    have HV := Lib.hid (hv.below B0); clear hv
    have hd := decide_eq_false (show ¬ 24 ≤ s.length by omega)
    have HD := Lib.hid hd; clear hd
    go_enter Tryd.func12, Tryd.ntmps12
    go_upto_region 2 with (first
      | (go_at_call 13; go_must (refine (nonce_any _ s _ HV.out).mono ?_; rintro e w1 ⟨rfl, hb1⟩; rw [HD.out]))
      | refine wpList_store_rowTo rfl _ _ _ rfl rfl w1.heap.size _ rfl rfl _ _ (heap_alloc_new _ _) (info8s _) (by rw [arr_size]; rfl) (arr_one _ _ _) ?_)
    generalize hW : World.setRow _ w1.heap.size _ = V2
    have hV2 : Below w1.heap.size w1 V2 := by rw [← hW]; exact below_setRow ((Below.refl _ _).alloc (Nat.le_refl _) _) (Nat.le_refl _) _
    clear hW
    go_wp2_with fail
    go_ret2
    have B1 := B0.trans (hb1.mono B0.size)
    exact ⟨B1.trans (hV2.mono B1.size), .inl ⟨by unfold Sea.op; rw [if_pos h24], rfl⟩⟩
  · have h0 : 0 < s.length := by omega
    obtain ⟨a, cap, rfl⟩ := hv.form
    obtain ⟨b, off, rfl, _⟩ := hv.at h0
    obtain ⟨hcap, hmax⟩ := hv.caps
    have HV := Lib.hid hv; clear hv
    have HD := Lib.hid (decide_eq_true (show 24 ≤ s.length by omega))
    have HNF := Lib.hid (show Sea.nonI s = Sea.non s by funext i; unfold Sea.nonI; rw [if_neg h24])
    have HV1 := Lib.hid (HV.out.below B0)
    go_enter Tryd.func12, Tryd.ntmps12
    go_upto_region 4 with (first
      | (go_at_call 13; go_must (refine (nonce_any _ s _ HV1.out).mono ?_; rintro e w1 ⟨rfl, hb1⟩; rw [HD.out, HNF.out]))
      | refine wpList_store_rowTo rfl _ _ _ rfl rfl w1.heap.size _ rfl rfl _ _ (heap_alloc_new _ _) (info8s _) (by rw [arr_size]; rfl) (arr_one _ _ _) ?_)
    generalize hW : World.setRow _ w1.heap.size _ = V2
    have N2 : isArr V2 w1.heap.size 23 .u8 8 (Sea.non s) := by rw [← hW]; exact setRow_heap _ _ _ _ _ _ (heap_alloc_new _ _)
    have hV2 : Below w1.heap.size w1 V2 := by rw [← hW]; exact below_setRow ((Below.refl _ _).alloc (Nat.le_refl _) _) (Nat.le_refl _) _
    clear hW
    have B1 := B0.trans (hb1.mono B0.size)
    have B2 := B1.trans (hV2.mono B1.size)
    have A2 := (A0.below hb1 A0.lt).below hV2 (A0.below hb1 A0.lt).lt
    obtain ⟨gN, hgN⟩ : ∃ g, g = w1.heap.size := ⟨_, rfl⟩
    rw [← hgN] at N2 ⊢
    clear hgN hb1 hV2 B1 HV1 A0 B0 hsz
    obtain ⟨e, he⟩ : ∃ e, e = s.length - 16 := ⟨_, rfl⟩
    have hei : IntKind.i64.wrap ((s.length : Int) - 16) = (e : Int) := by simp only [IntKind.wrap_i64]; omega
    have HES := Lib.hid (show s.length = e + 16 by omega)
    have he8 : 8 ≤ e := by omega
    have hel : e ≤ s.length := by omega
    have H24 := Lib.hid h24
    clear he h0 h24
    go_upto_region 5 with fail
    have hen : 0 ≤ (e : Int) := Int.natCast_nonneg _
    have hec : e ≤ cap := by omega
    have hne : ¬ s.length = e := by have := HES.out; omega
    have h16 : s.length - e = 16 := by have := HES.out; omega
    have HNE := Lib.hid hne
    have H16 := Lib.hid h16
    clear h16
    go_quiet (fail)
    rw [H16.out]
    have N3 := N2.drewN nq
    have A3 := A2.drewN nq
    have B3 := below_drewN B2 nq
    generalize V2.drewN nq = V3 at *
    clear N2 A2 B2 hne hei
    have HVV := HV.out.below (B3.mono (Nat.le_refl _))
    have F3 : Rs V3 (.slice (some ⟨b, off, none⟩) e e) (Sea.fr s) := by
      have h := HVV.sub 0 e e e (Nat.zero_le _) hel (by omega) (Nat.le_refl _) (by omega)
      rw [Nat.add_zero, List.drop_zero] at h
      have : s.take e = Sea.fr s := by unfold Sea.fr; rw [HES.out]; rfl
      rwa [this] at h
    have G3 : Rs V3 (.slice (some ⟨b, off + e, none⟩) 16 16) (s.drop (s.length - 16)) := by
      have h := HVV.sub e s.length 16 16 hel (Nat.le_refl _) H16.out.symm (Nat.le_refl _) (by omega)
      rw [List.take_length] at h
      rwa [show s.length - 16 = e by have := HES.out; omega]
    have HK3 := Lib.hid (HK.out.below B3)
    have HA3 := Lib.hid A3
    clear HVV
    go_upto_region 7 with (first
      | refine wpList_load_row rfl _ _ rfl w.heap.size rfl _ _ (0, 0) _ HA3.out rfl rfl (info16s _) ?_
      | (go_at_call 15; go_must (refine (keys_any key _ HB.out HK3.out).mono ?_; rintro e w4 ⟨rfl, hb4⟩))
      | refine wpList_store_rowTo rfl _ _ _ rfl rfl w4.heap.size _ rfl rfl _ _ (two_rows0 w4 _ _ _ _) (info16s _) (by rw [arr_size]; rfl) (arr_one _ _ _) ?_
      | refine wpList_store_rowTo rfl _ _ _ rfl rfl (w4.heap.size + 1) _ rfl rfl _ _ (two_rows1 w4 _ _ _ _ _) (info32s _) (by rw [arr_size]; rfl) (arr_one _ _ _) ?_)
    have T := two_laid w4 (Array.replicate 16 (.int .u8 0)) (Array.replicate 32 (.int .u8 0)) 22 36 16 32 (Sea.ek key) (Sea.mf key)
    generalize hW : World.setRow _ (w4.heap.size + 1) _ = V
    have T : isArr V w4.heap.size 22 .u8 16 (Sea.ek key) ∧ isArr V (w4.heap.size + 1) 36 .u8 32 (Sea.mf key) ∧ Below w4.heap.size w4 V := by rw [← hW]; exact T
    clear hW
    obtain ⟨E0, M0, hbV⟩ := T
    have NV := (N3.below hb4 N3.lt).below hbV (N3.below hb4 N3.lt).lt
    have FV := (F3.below hb4).below hbV
    have GV := (G3.below hb4).below hbV
    have B4 := B3.trans (hb4.mono B3.size)
    have BV := B4.trans (hbV.mono B4.size)
    clear N3 A3 B3 F3 G3 HK3 HA3 hb4 hbV B4
    obtain ⟨gE, hgE⟩ : ∃ g, g = w4.heap.size := ⟨_, rfl⟩
    obtain ⟨gM, hgM⟩ : ∃ g, g = w4.heap.size + 1 := ⟨_, rfl⟩
    rw [← hgM] at M0 ⊢
    rw [← hgE] at E0 ⊢
    clear hgE hgM
    have hMs : Rs V (.slice (some ⟨gM, 0, none⟩) 32 32) (Sea.mk key) := by
      have := (M0.bs (Sea.mf_b8 key) (by omega)).rs
      rwa [show (List.range 32).map (Sea.mf key) = Sea.mk key from Sea.nl_mf key] at this
    have X1 := (own_built V 0 [u] (AllB.one hu) (Nat.zero_le _) (by simp)).bs.rs
    have hb2 := bss_two X1 (FV.below ((Below.refl _ V).alloc (Nat.le_refl _) (.cells ([u].map bv).toArray 5)))
    simp only [World.size_alloc] at hb2
    have hB9 : Below V.heap.size V ((V.alloc (.cells ([u].map bv).toArray 5)).alloc (.cells #[.slice (some ⟨V.heap.size, 0, none⟩) 1 1, .slice (some ⟨b, off, none⟩) e e] 24)) := ((Below.refl _ V).alloc (Nat.le_refl _) _).alloc (by simp) _
    have hmsg : Wir.join [[u], Sea.fr s] = u :: Sea.fr s := by unfold Wir.join; simp
    have HC8 := Lib.hid (HK.out.below (BV.trans (hB9.mono BV.size)))
    have HMS := Lib.hid (hMs.below hB9)
    have HB2 := Lib.hid hb2
    have HB9 := Lib.hid (BV.trans (hB9.mono BV.size))
    have HGV := Lib.hid (GV.below hB9)
    have HFV := Lib.hid (FV.below hB9)
    have HNV := Lib.hid (NV.below hB9 NV.lt)
    have HEV := Lib.hid (E0.below hB9 E0.lt)
    have HLN := Lib.hid (show (Wir.join [[u], Sea.fr s]).length ≤ 140737488354000 by rw [hmsg]; unfold Sea.fr; simp; omega)
    have HMG := Lib.hid hmsg
    clear hMs hb2 hB9 X1 hmsg GV FV NV E0 M0 BV
    go_upto_region 9 with (go_at_call 22; go_must (refine (check_any (Sea.mk key) _ _ _ _ [[u], Sea.fr s] _ HMS.out (by rw [Sea.mk_length]; omega) HGV.out HB2.out HLN.out (by simp) HC8.out).mono ?_; rintro e w9 ⟨rfl, hb9⟩; rw [HMG.out]))
    · have hno : (!Mac.ok (Sea.mk key) (s.drop (s.length - 16)) (u :: Sea.fr s)) = true := by assumption
      have hno' : Mac.ok (Sea.mk key) (s.drop (s.length - 16)) (u :: Sea.fr s) = false := by simpa using hno
      have hB := HB9.out.trans (hb9.mono HB9.out.size)
      go_ret2
      exact ⟨hB, .inl ⟨by unfold Sea.op; rw [if_neg H24.out, if_neg (by rw [hno']; simp)], rfl⟩⟩
    · have hyes : (!Mac.ok (Sea.mk key) (s.drop (s.length - 16)) (u :: Sea.fr s)) = false := by assumption
      have hyes' : Mac.ok (Sea.mk key) (s.drop (s.length - 16)) (u :: Sea.fr s) = true := by simpa using hyes
      have HO := Lib.hid (show Sea.op key u s = some (Ctr.crypt (Sea.ek key) (Sea.non s) 0 ((Sea.fr s).drop 8)) by unfold Sea.op; rw [if_neg H24.out, if_pos hyes'])
      have hB := HB9.out.trans (hb9.mono HB9.out.size)
      have N9 := HNV.out.below hb9 HNV.out.lt
      have E9 := HEV.out.below hb9 HEV.out.lt
      have F9 := HFV.out.below hb9
      have hfl : (Sea.fr s).length = e := by unfold Sea.fr; rw [List.length_take, HES.out]; omega
      have hs8 : ∀ i, Sea.non s i < 256 := fun i => HV.out.1.get i
      have P9 : Rs w9 (.slice (partA b off 8 e) (e - 8) (e - 8)) ((Sea.fr s).drop 8) := by
        have h := F9.part 8 e e he8 (by omega) (Nat.le_refl _) (by omega)
        rwa [List.take_of_length_le (by omega)] at h
      clear hyes hyes' hb9 HNV HEV HFV HGV HB2 HMS HC8 HLN HMG F9
      generalize hw9 : w9 = W9 at *
      clear hw9
      refine wp_reg Tryd.f12 9 9 (fun w' => Below W9.heap.size W9 w') (by kernel_rfl) (by kernel_rfl) (by kernel_rfl) (below_drewN (Below.refl _ _) 1) (fun K hK h0 => ?_)
      refine reg_cast (listed' := #[false, false, false, false, false, false, false, false, false]) (by kernel_rfl) rfl ?_
      have HF := Lib.hid hK; clear hK
      refine reg_load 0 49 (by kernel_rfl) _ (.tmp 13) (by kernel_rfl) ⟨gE, 0, none⟩ (by kernel_rfl) (arr .u8 16 (Sea.ek key)) _ (fun w' hw' => (E9.below hw' E9.lt).cells) rfl rfl (info16s _) h0 ?_
      simp only [Act.put, List.setIfInBounds_toArray, List.set_cons_zero, List.set_cons_succ]
      refine reg_load 1 50 (by kernel_rfl) _ (.tmp 8) (by kernel_rfl) ⟨gN, 0, none⟩ (by kernel_rfl) (arr .u8 8 (Sea.non s)) _ (fun w' hw' => (N9.below hw' N9.lt).cells) rfl rfl (info8s _) h0 ?_
      simp only [Act.put, List.setIfInBounds_toArray, List.set_cons_zero, List.set_cons_succ]
      refine reg_take 2 51 (.slice (some ⟨b, off, none⟩) e e) (by kernel_rfl) (fun _ _ => by kernel_rfl) h0 ?_
      simp only [Act.put, List.setIfInBounds_toArray, List.set_cons_zero, List.set_cons_succ]
      refine reg_take 3 52 (.int .i64 e) (by kernel_rfl) (fun _ _ => by kernel_rfl) h0 ?_
      simp only [Act.put, List.setIfInBounds_toArray, List.set_cons_zero, List.set_cons_succ]
      refine reg_take 4 53 (.int .i64 e) (by kernel_rfl) (fun _ _ => by kernel_rfl) h0 ?_
      simp only [Act.put, List.setIfInBounds_toArray, List.set_cons_zero, List.set_cons_succ]
      refine reg_take 5 54 (.slice (partA b off 8 e) (e - 8) (e - 8)) (by kernel_rfl) (fun _ _ => exec_part (x := .tmp 51) (y := .const (.int .i64 8)) (z := .tmp 52) (t := .tmp 53) (b := b) (off := off) (len := e) (cap := e) (i := 8) (j := e) (m := e) (by kernel_rfl) (by kernel_rfl) (by kernel_rfl) (by kernel_rfl) (by kernel_rfl) he8 (Nat.le_refl _) (Nat.le_refl _)) h0 ?_
      simp only [Act.put, List.setIfInBounds_toArray, List.set_cons_zero, List.set_cons_succ]
      refine reg_call 6 55 18 #[.agg (arr .u8 16 (Sea.ek key)), .agg (arr .u8 8 (Sea.non s)), .slice (partA b off 8 e) (e - 8) (e - 8)] (by kernel_rfl) (by kernel_rfl) ?_
      refine (ctrcrypt_any (Sea.ek key) (Sea.non s) _ ((Sea.fr s).drop 8) (W9.drewN 1) (Sea.ek_b8 key) hs8 (P9.below h0) (by rw [List.length_drop]; omega)).mono ?_
      rintro x w6 ⟨v6, rfl, o6, hb6⟩
      have h6 : Below W9.heap.size W9 w6 := h0.trans hb6
      refine ⟨_, rfl, h6, ?_⟩
      simp only [Act.put, List.setIfInBounds_toArray, List.set_cons_zero, List.set_cons_succ]
      refine reg_take 7 6 v6 (by kernel_rfl) (fun _ _ => by kernel_rfl) h6 ?_
      simp only [Act.put, List.setIfInBounds_toArray, List.set_cons_zero, List.set_cons_succ]
      refine reg_take 8 7 (.bool true) (by kernel_rfl) (fun _ _ => by kernel_rfl) h6 ?_
      simp only [Act.put, List.setIfInBounds_toArray, List.set_cons_zero, List.set_cons_succ]
      refine reg_done (by kernel_rfl) (HF.out _ _ ?_)
      have BF := hB.trans (h6.mono hB.size)
      have OF := o6.mono (base' := w.heap.size) (Nat.le_trans hB.size h0.size)
      clear HF h0 h6 hb6 o6 E9 N9 P9
      go_wp2_with fail
      go_ret2
      exact ⟨BF, .inr ⟨_, v6, HO.out, rfl, OF⟩⟩
end Go.Proofs.YtpbcpdocnjnfiaaDoor
