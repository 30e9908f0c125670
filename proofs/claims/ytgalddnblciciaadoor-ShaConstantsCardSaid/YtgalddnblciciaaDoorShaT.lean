import Derived.Test.YtgalddnblciciaaDoorShaS
namespace Go.Proofs.YtgalddnblciciaaDoor
open Go.RowKit Go.Deep

set_option maxRecDepth 100000 in
/-- block[u:] of an array of 64 bytes. -/
theorem sl64l (w : World) (b u : Nat) (hu : u < 64) : (Instr.sliceAt 33 (.pointer (some ⟨b, 0, none⟩)) (some (.int .i64 (u : Int))) none none).run Tryd.prog w = .ok (.slice (some ⟨b, u, none⟩) (64 - u) (64 - u)) w := by
  have hal : (Tryd.prog).arrayLen 33 = 64 := by go_simp
  rw [run_sliceAt_array_l w _ ⟨b, 0, none⟩ (by go_simp) .i64 _ (by omega) (by rw [hal]; omega)]
  go_simp
  omega

set_option maxRecDepth 100000 in
set_option maxHeartbeats 2000000 in
theorem feed_any (K : Nat → Nat) (L p : List Nat) (bt bb bu bs : Nat) (v : Value) (w0 w : World) (hF : Feed K L bt bb bu bs w0 w) (hP : Rs w v p)
    (hsep : p ≠ [] → ∀ b, v.ownBlock = some b → b ≠ bt ∧ b ≠ bb ∧ b ≠ bu ∧ b ≠ bs) (hlen : L.length + p.length ≤ 140737488355328)
    (hd : bt ≠ bb ∧ bt ≠ bu ∧ bt ≠ bs ∧ bb ≠ bu ∧ bb ≠ bs ∧ bu ≠ bs) (hge : w0.heap.size ≤ bt ∧ w0.heap.size ≤ bb ∧ w0.heap.size ≤ bu ∧ w0.heap.size ≤ bs) (hK : Consts w0 K) :
    Calls Tryd.prog 36 #[v, .pointer (some ⟨bt, 0, none⟩), .pointer (some ⟨bb, 0, none⟩), .pointer (some ⟨bu, 0, none⟩), .pointer (some ⟨bs, 0, none⟩)] w
      fun e w' => e = .returned (.tuple #[]) ∧ Feed K (L ++ p) bt bb bu bs w0 w' ∧ w.heap.size ≤ w'.heap.size := by
  obtain ⟨⟨u0, hu0, hC⟩, hT, hB⟩ := hF
  have HK := Lib.hid hK; clear hK
  obtain ⟨d1, d2, d3, d4, d5, d6⟩ := hd
  obtain ⟨g1, g2, g3, g4⟩ := hge
  have hpl := hP.len
  have hcap : ∃ a cap, v = .slice a p.length cap ∧ p.length ≤ cap ∧ cap ≤ 9223372036854775807 := by
    rcases hP.2.2 with ⟨rfl, rfl⟩ | ⟨x, cap, rfl, h, _⟩
    · exact ⟨none, 0, rfl, by simp, by omega⟩
    · exact ⟨some x, cap, rfl, h⟩
  obtain ⟨a, cap, rfl, hc1, hc2⟩ := hcap
  have hS : Src bt bb bu bs w a p := by
    intro hne
    have h0 : 0 < p.length := List.length_pos_iff.2 hne
    obtain ⟨b, off, rfl, hc⟩ := hP.at h0
    obtain ⟨s1, s2, s3, s4⟩ := hsep hne b rfl
    exact ⟨b, off, rfl, ⟨s1, s2, s3, s4, World.block_lt_of_cell? w _ (hc 0 h0)⟩, hc⟩
  have HS := Lib.hid hS; clear hS hsep
  have HP := Lib.hid hP.1; clear hP
  have cT := cell_of_one hT
  have fT := free_of_one hT
  have HC := Lib.hid hC; clear hC
  have HT := Lib.hid hT; clear hT
  have HB := Lib.hid hB; clear hB
  obtain ⟨T, hTT⟩ : ∃ T, T = L.length := ⟨_, rfl⟩
  obtain ⟨m, hm⟩ : ∃ m, m = p.length := ⟨_, rfl⟩
  rw [← hTT] at hlen cT
  rw [← hm] at hlen hc1 hpl ⊢
  have HTT := Lib.hid hTT; clear hTT
  have HM := Lib.hid hm; clear hm
  go_enter Tryd.func36, Tryd.ntmps36
  go_wp2_with fail
  have hv1 : (w.setCell ⟨bt, 0, none⟩ (.int .i64 (↑T + ↑m))).heap[bt]? = some (.cells #[.int .i64 (↑T + ↑m)] 3 (0, 0)) := one_setCell HT.out
  have hv2 : FeedC K L u0 bb bu bs (w.setCell ⟨bt, 0, none⟩ (.int .i64 (↑T + ↑m))) := HC.out.of_blocks (blk_setCell_other _ _ _ _ (Ne.symm d1)) (blk_setCell_other _ _ _ _ (Ne.symm d2)) (blk_setCell_other _ _ _ _ (Ne.symm d3))
  have hv3 : Below w0.heap.size w0 (w.setCell ⟨bt, 0, none⟩ (.int .i64 (↑T + ↑m))) := HB.out.setCell g1 _
  have hv4 : Src bt bb bu bs (w.setCell ⟨bt, 0, none⟩ (.int .i64 (↑T + ↑m))) a p := fun hne => by
    obtain ⟨b, off, e, ⟨s1, s2, s3, s4, s5⟩, hc⟩ := HS.out hne
    exact ⟨b, off, e, ⟨s1, s2, s3, s4, by simpa [World.setCell] using s5⟩, fun i hi => (World.cell?_of_block (blk_setCell_other _ _ _ _ s1)).trans (hc i hi)⟩
  have hv5 : w.heap.size ≤ (w.setCell ⟨bt, 0, none⟩ (.int .i64 (↑T + ↑m))).heap.size := by simp [World.setCell]
  clear cT fT HT HC HB HS
  generalize w.setCell ⟨bt, 0, none⟩ (.int .i64 (↑T + ↑m)) = W at hv1 hv2 hv3 hv4 hv5 ⊢
  have V := Lib.hid (And.intro hv1 (And.intro hv2 (And.intro hv3 (And.intro hv4 hv5))))
  clear hv1 hv2 hv3 hv4 hv5
  go_loopw [0, 6] (fun vp _ wr => ∃ (L' r : List Nat) (u : Nat) (a : Option Addr) (cp : Nat), L' ++ r = L ++ p ∧ u < 64 ∧ vp = .slice a r.length cp ∧ r.length ≤ m ∧ r.length ≤ cp ∧ cp ≤ cap ∧ AllB r ∧ Src bt bb bu bs wr a r ∧ FeedC K L' u bb bu bs wr ∧
    wr.heap[bt]? = some (.cells #[.int .i64 (↑T + ↑m)] 3 (0, 0)) ∧ Below w0.heap.size w0 wr ∧ w.heap.size ≤ wr.heap.size) (fun vp _ _ => lenOf vp)
  case atStart => exact ⟨L, p, u0, a, cap, rfl, hu0, by rw [HM.out], by rw [HM.out]; exact Nat.le_refl _, by rw [← HM.out]; exact hc1, Nat.le_refl _, HP.out, V.out.2.2.2.1, V.out.2.1, V.out.1, V.out.2.2.1, V.out.2.2.2.2⟩
  case round =>
    clear V HP hu0
    obtain ⟨L', r, u, a', cp, heq, hu, rfl, hrm, hrc, hcc, hall, hsrc, hcore, hT, hB, hsz⟩ := hrel
    have HEQ := Lib.hid heq; clear heq
    have HALL := Lib.hid hall; clear hall
    have HT := Lib.hid hT; clear hT
    have HB := Lib.hid hB; clear hB
    have HSZ := Lib.hid hsz; clear hsz
    by_cases hr : r = []
    · subst hr
      have HCORE := Lib.hid hcore
      clear hcore hsrc
      go_wp2_with fail
      go_end0
      have e := HEQ.out
      rw [List.append_nil] at e
      subst e
      refine ⟨rfl, ⟨⟨u, hu, HCORE.out⟩, ?_, HB.out⟩, HSZ.out⟩
      rw [HT.out, List.length_append, ← HTT.out, ← HM.out, Int.natCast_add]
    · obtain ⟨b, off, rfl, ⟨s1, s2, s3, s4, s5⟩, hc⟩ := hsrc hr
      have hpos : 0 < r.length := List.length_pos_iff.2 hr
      clear hsrc hr
      obtain ⟨j, f, h1, h2, h3, h4, h5, h6⟩ := hcore
      have cu := cell_of_one h4
      have fu := free_of_one h4
      have HCORE := Lib.hid (show FeedC K L' u bb bu bs wr from ⟨j, f, h1, h2, h3, h4, h5, h6⟩)
      have hsl := fun wx => sl64l wx bb u hu
      obtain ⟨n, hn⟩ : ∃ n, n = Nat.min r.length (64 - u) := ⟨_, rfl⟩
      have hn1 : n ≤ r.length := by rw [hn]; exact Nat.min_le_left _ _
      have hn2 : n ≤ 64 - u := by rw [hn]; exact Nat.min_le_right _ _
      have hn3 : n = r.length ∨ n = 64 - u := by rw [hn]; rcases Nat.le_total r.length (64 - u) with h | h; exact .inl (Nat.min_eq_left h); exact .inr (Nat.min_eq_right h)
      have HN := Lib.hid hn; clear hn
      obtain ⟨X, hX⟩ : ∃ X, X = r.take n := ⟨_, rfl⟩
      have hXl : X.length = n := by rw [hX, List.length_take]; omega
      have HX := Lib.hid hX; clear hX
      have HXl := Lib.hid hXl
      have HC := Lib.hid hc; clear hc
      have hXc : ∀ i v, (X.map bv)[i]? = some v → wr.cell? ((⟨b, off, none⟩ : Addr).add i) = some v := by
        intro i v hv
        rw [Addr.add_lit]
        have hi : i < n := by
          rcases Nat.lt_or_ge i n with h | h
          · exact h
          · rw [List.getElem?_eq_none (by simp; omega)] at hv; cases hv
        rw [HC.out i (by omega)]
        rw [HX.out, List.getElem?_map, List.getElem?_take, if_pos hi, List.getElem?_eq_getElem (by omega)] at hv
        simp [List.getD, show i < r.length by omega] at hv ⊢
        exact hv
      have hX1 : ∀ v ∈ X.map bv, v.oneCell' = true := by
        intro v hv
        obtain ⟨_, _, rfl⟩ := List.mem_map.1 hv
        rfl
      have H1 := Lib.hid h1; clear h1
      have H4 := Lib.hid h4; clear h4
      have HALLX : Hid (AllB X) := Lib.hid (by rw [HX.out]; exact HALL.out.take _)
      have hfit : u + n ≤ 64 := by omega
      go_upto_region 5 with ((refine wpList_copy_own rfl (.tmp 15) (.tmp 16) 24 24 rfl 5 rfl rfl bb u (64 - u) (64 - u) ⟨b, off, none⟩ r.length cp rfl rfl (arr .u8 64 f) 33 h5 (X.map bv) (by rw [List.length_map, HXl.out, HN.out]) hXc (by rw [List.length_map, HXl.out, arr_size]; omega) hX1 ?_); generalize hV : World.setRow wr bb _ = V; have hVS : V.heap.size = wr.heap.size := by { rw [← hV]; exact setRow_size _ _ _ }; have hVO : ∀ k, k ≠ bb → V.heap[k]? = wr.heap[k]? := by { rw [← hV]; exact fun k hk => setRow_other _ _ _ _ hk }; have hVB : Below w0.heap.size w0 V := by { rw [← hV]; exact below_setRow HB.out g2 _ }; have hVF : FeedC K (L' ++ X) (u + n) bb bu bs (V.setCell ⟨bu, 0, none⟩ (.int .i64 (↑u + ↑n))) := by { rw [← hV, List.length_map]; have := HCORE.out.copied HALLX.out (by rw [HXl.out]; exact hfit) d4 d5 d6 h5; rw [HXl.out, Int.natCast_add] at this; rw [HXl.out]; exact this }; have hV4 : V.heap[bu]? = some (.cells #[.int .i64 (u : Int)] 3 (0, 0)) := (hVO bu (Ne.symm d4)).trans H4.out; have cV := cell_of_one hV4; have fV := free_of_one hV4; have VV := Lib.hid (And.intro hVS (And.intro hVO (And.intro hVB hVF))); clear hV hVS hVO hVB hVF hV4)
      rename World => V
      obtain ⟨a2, ha2⟩ : ∃ a2, a2 = (if cp = n then some ⟨b, off, none⟩ else some ⟨b, off + n, none⟩ : Option Addr) := ⟨_, rfl⟩
      rw [← ha2]
      have hsrc2 : Src bt bb bu bs (V.setCell ⟨bu, 0, none⟩ (.int .i64 (↑u + ↑n))) a2 (r.drop n) := by
        intro hne
        have hlt : n < r.length := by
          rcases Nat.lt_or_ge n r.length with h | h
          · exact h
          · exact absurd (List.drop_eq_nil_of_le h) hne
        refine ⟨b, off + n, by rw [ha2, if_neg (by omega)], ⟨s1, s2, s3, s4, by have := VV.out.1; simp [World.setCell]; omega⟩, fun i hi => ?_⟩
        have hi' : n + i < r.length := by rw [List.length_drop] at hi; omega
        rw [getD_drop, Nat.add_assoc]
        refine (World.cell?_of_block ?_).trans (HC.out (n + i) hi')
        exact (blk_setCell_other _ _ _ _ s3).trans (VV.out.2.1 b s2)
      have hB2 : Below w0.heap.size w0 (V.setCell ⟨bu, 0, none⟩ (.int .i64 (↑u + ↑n))) := VV.out.2.2.1.setCell g3 _
      have hT2 : (V.setCell ⟨bu, 0, none⟩ (.int .i64 (↑u + ↑n))).heap[bt]? = some (.cells #[.int .i64 (↑T + ↑m)] 3 (0, 0)) := (blk_setCell_other _ _ _ _ d2).trans ((VV.out.2.1 bt d1).trans HT.out)
      have hSZ2 : w.heap.size ≤ (V.setCell ⟨bu, 0, none⟩ (.int .i64 (↑u + ↑n))).heap.size := by have := VV.out.1; have := HSZ.out; simp [World.setCell]; omega
      have hF2 := VV.out.2.2.2
      have hEQ2 : (L' ++ X) ++ r.drop n = L ++ p := by rw [HX.out, List.append_assoc, List.take_append_drop]; exact HEQ.out
      have hALL2 : AllB (r.drop n) := HALL.out.drop n
      have hlen2 : r.length - n = (r.drop n).length := by rw [List.length_drop]
      generalize V.setCell ⟨bu, 0, none⟩ (.int .i64 (↑u + ↑n)) = V2 at hsrc2 hB2 hT2 hSZ2 hF2 ⊢
      have hpn : 0 < n := by omega
      generalize r.drop n = r2 at hsrc2 hEQ2 hALL2 hlen2
      generalize L' ++ X = L2 at hF2 hEQ2
      have Z := Lib.hid (And.intro hsrc2 (And.intro hB2 (And.intro hT2 (And.intro hSZ2 (And.intro hEQ2 (And.intro hALL2 hlen2))))))
      have HF2 := Lib.hid hF2
      clear hsrc2 hB2 hT2 hSZ2 hEQ2 hALL2 hlen2 ha2 VV cV fV hX1 hXc HX HALLX HXl hXl hsl HCORE HALL HT HB HSZ HEQ HN H1 H4 HC cu fu h5 h6 h2 h3
      obtain ⟨j2, f2, k1, k2, k3, k4, k5, k6⟩ := hF2
      have cu2 := cell_of_one k4
      rw [Int.natCast_add] at cu2
      by_cases hfull : u + n = 64
      · have ht : ((u : Int) + n == 64) = true := by rw [beq_iff_eq]; omega
        have hi64 : ∀ f, ((Tryd.prog).info? 33).map (·.size) = some (arr .u8 64 f).size := by intro f; rw [arr_size]; rfl
        have hi8 : ∀ f, ((Tryd.prog).info? 32).map (·.size) = some (arr .u32 8 f).size := by intro f; rw [arr_size]; rfl
        have KC := Lib.hid (HK.out.below Z.out.2.1)
        have g0 := k6.lt
        have g5 := k5.lt
        have gu := lt_of_block k4
        have K4 := Lib.hid k4; clear k4
        go_wp2_with (first | refine wpList_load_row rfl _ _ rfl bs rfl _ _ (0, 0) _ k6 rfl rfl (hi8 _) ?_ | refine wpList_load_row rfl _ _ rfl bb rfl _ _ (0, 0) _ k5 rfl rfl (hi64 _) ?_ | (go_at_call 18; refine (block_any (Sha.run K L2 j2) f2 K _ (Sha.run_32 _ _ _) k2 KC.out).mono ?_; rintro e w3 ⟨rfl, hb3⟩; have k6' := k6.below hb3 g0) | (refine wpList_store_row rfl _ _ _ rfl bs _ rfl rfl _ _ k6' (hi8 _) ((arr_size _ _ _).trans (arr_size _ _ _).symm) (arr_one _ _ _) ?_; generalize hV3 : World.setRow w3 bs _ = V3; have cu3 : V3.heap[bu]? = some (.cells #[.int .i64 ((u + n : Nat) : Int)] 3 (0, 0)) := by { rw [← hV3]; exact (setRow_other _ _ _ _ d6).trans ((hb3.block bu gu).trans K4.out) }; have cu4 := cell_of_one cu3; have fu4 := free_of_one cu3; have CU3 := Lib.hid cu3; clear cu3; have HV3 := Lib.hid hV3; clear hV3))
        have hsz3 : V3.heap.size = w3.heap.size := by rw [← HV3.out]; exact setRow_size _ _ _
        have ho3 : ∀ k, k ≠ bs → k ≠ bu → k < V2.heap.size → (V3.setCell ⟨bu, 0, none⟩ (.int .i64 0)).heap[k]? = V2.heap[k]? := by
          intro k e1 e2 e3
          refine (blk_setCell_other _ _ _ _ e2).trans (Eq.trans ?_ (hb3.block k e3))
          rw [← HV3.out]; exact setRow_other _ _ _ _ e1
        have hz4 : (V3.setCell ⟨bu, 0, none⟩ (.int .i64 0)).heap.size = w3.heap.size := by simp [World.setCell, hsz3]
        have hge3 := hb3.size
        have q1 : Below w0.heap.size w0 (V3.setCell ⟨bu, 0, none⟩ (.int .i64 0)) := by
          refine Below.setCell ?_ g3 _
          rw [← HV3.out]
          exact below_setRow (Z.out.2.1.trans (hb3.mono Z.out.2.1.size)) g4 _
        have q2 : FeedC K L2 0 bb bu bs (V3.setCell ⟨bu, 0, none⟩ (.int .i64 0)) := by
          refine FeedC.flushed (j := j2) (f := f2) (by omega) k2 (fun i hi => k3 i (by omega)) (by rw [CU3.out, hfull]) ?_ ?_ d4 d6
          · refine k5.of_block ?_
            refine Eq.trans ?_ (hb3.block bb g5)
            rw [← HV3.out]; exact setRow_other _ _ _ _ d5
          · rw [← HV3.out]
            exact setRow_heap w3 bs _ _ _ (0, 0) k6'
        have q3 : Src bt bb bu bs (V3.setCell ⟨bu, 0, none⟩ (.int .i64 0)) a2 r2 := by
          intro hne
          obtain ⟨b', off', e, ⟨e1, e2, e3, e4, e5⟩, hc⟩ := Z.out.1 hne
          exact ⟨b', off', e, ⟨e1, e2, e3, e4, by omega⟩, fun i hi => (World.cell?_of_block (ho3 b' e4 e3 e5)).trans (hc i hi)⟩
        have q4 : (V3.setCell ⟨bu, 0, none⟩ (.int .i64 0)).heap[bt]? = some (.cells #[.int .i64 (↑T + ↑m)] 3 (0, 0)) := (ho3 bt d3 d2 (lt_of_block Z.out.2.2.1)).trans Z.out.2.2.1
        have q5 := Z.out.2.2.2.1
        refine ⟨⟨L2, r2, 0, a2, cp - n, Z.out.2.2.2.2.1, by omega, by rw [Z.out.2.2.2.2.2.2], by have := Z.out.2.2.2.2.2.2; omega, by have := Z.out.2.2.2.2.2.2; omega, by omega, Z.out.2.2.2.2.2.1, q3, q2, q4, q1, by omega⟩, ?_⟩
        simp [lenOf]; omega
      · have ht : ((u : Int) + n == 64) = false := by rw [beq_eq_false_iff_ne]; omega
        go_wp2_with (fail)
        go_roundw
        case rel => exact ⟨L2, r2, u + n, a2, cp - n, Z.out.2.2.2.2.1, by omega, by rw [Z.out.2.2.2.2.2.2], by have := Z.out.2.2.2.2.2.2; omega, by have := Z.out.2.2.2.2.2.2; omega, by omega, Z.out.2.2.2.2.2.1, Z.out.1, HF2.out, Z.out.2.2.1, Z.out.2.1, Z.out.2.2.2.1⟩
        case measure => simp [lenOf]; omega
end Go.Proofs.YtgalddnblciciaaDoor
