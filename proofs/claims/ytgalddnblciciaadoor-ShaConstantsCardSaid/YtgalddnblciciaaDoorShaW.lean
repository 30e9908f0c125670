import Derived.Test.YtgalddnblciciaaDoorShaV
import Derived.Test.YtgalddnblciciaaDoorShaQ
import Derived.Test.YtgalddnblciciaaDoorShaU
namespace Go.Proofs.YtgalddnblciciaaDoor
open Go.RowKit Go.Deep

theorem only_setRow {a w : World} {g : Nat} (h : a.grownBy w (some g)) (cs : Array Value) : a.grownBy (w.setRow g cs) (some g) :=
  ⟨h.os, h.tape, h.output, by rw [setRow_size]; exact h.size, fun i hi hne => (setRow_other _ _ _ _ (by rintro rfl; exact hne rfl)).trans (h.block i hi hne)⟩

theorem own_built_at (w : World) (g : Nat) (hg : w.heap.size = g) (base : Nat) (l : List Nat) (hl : AllB l) (hb : base ≤ w.heap.size) (h63 : l.length ≤ 9223372036854775807) :
    Own (w.alloc (.cells (l.map bv).toArray 5)) base (.slice (some ⟨g, 0, none⟩) l.length l.length) l := by subst hg; exact own_built w base l hl hb h63

set_option maxRecDepth 100000 in
/-- b[p : p+64] of bytes. -/
theorem slb64 (w : World) (g off n cap p : Nat) (h1 : p + 64 ≤ cap) : (Instr.slice 24 (.slice (some ⟨g, off, none⟩) n cap) (some (.int .i64 (p : Int))) (some (.int .i64 ((p : Int) + 64))) none).run Tryd.prog w = .ok (.slice (some ⟨g, off + p, none⟩) 64 (cap - p)) w := by
  rw [run_slice_lh w _ _ _ _ (by go_simp) .i64 .i64 _ _ (by omega) (by omega) (by omega)]
  go_simp
  have e1 : ((p : Int) + 64).toNat = p + 64 := by omega
  rw [e1]
  refine ⟨fun h => ?_, ?_⟩ <;> omega

set_option maxRecDepth 100000 in
set_option maxHeartbeats 4000000 in
theorem refsum_any (v : Value) (l : List Nat) (w : World) (h : Rs w v l) (hlen : l.length ≤ 140737488355000) :
    Calls Tryd.prog 16 #[v] w fun e w' => e = .returned (.agg (arr .u8 32 (Sha.dig l))) ∧ Below w.heap.size w w' := by
  obtain ⟨a, cap, rfl⟩ := h.form
  obtain ⟨n, hn⟩ : ∃ n, n = l.length := ⟨_, rfl⟩
  rw [← hn] at hlen h ⊢
  have H := Lib.hid h; clear h
  have HN := Lib.hid hn; clear hn
  have hi8 : ∀ f, ((Tryd.prog).info? 32).map (·.size) = some (arr .u32 8 f).size := by intro f; rw [arr_size]; rfl
  have hi64 : ∀ f, ((Tryd.prog).info? 37).map (·.size) = some (arr .u32 64 f).size := by intro f; rw [arr_size]; rfl
  go_enter Tryd.func16, Tryd.ntmps16
  go_upto_region 2 with (first | (at_builtin; go_must (refine wpList_append_rs rfl (.tmp 9) (.tmp 10) rfl (w.heap.size + 1) _ [] rfl (own_built_at _ (w.heap.size + 1) (by simp) (w.heap.size + 1) [] AllB.nil (by simp) (by simp)) _ l rfl (H.out.below (((Below.refl _ _).alloc (Nat.le_refl _) _).alloc (by simp) _)) (by rw [List.length_nil, Nat.zero_add, ← HN.out]; omega) (by simp) ?_; intro v1 w1 hown1 hgr1)))
  have hb1 : Below (w.heap.size + 1) (w.alloc (.cells (Array.replicate 32 (.int .u8 0)) 26)) w1 := by
    have h0 : Below (w.heap.size + 1) (w.alloc (.cells (Array.replicate 32 (.int .u8 0)) 26)) ((w.alloc (.cells (Array.replicate 32 (.int .u8 0)) 26)).alloc (.cells #[] 5)) := (Below.refl _ _).alloc (by simp) _
    exact below_only h0 (by simp) hgr1 (fun g hg => by simp [Value.ownBlock, Act.eval] at hg; omega)
  clear hgr1
  rw [List.nil_append] at hown1
  generalize hw0 : w.alloc (.cells (Array.replicate 32 (.int .u8 0)) 26) = w0 at hb1
  have hz0 : w0.heap.size = w.heap.size + 1 := by rw [← hw0]; simp
  have hR0 : ∃ c : Array Value, w0.heap[w.heap.size]? = some (.cells c 26 (0, 0)) ∧ c.size = 32 := by rw [← hw0]; exact ⟨_, heap_alloc_new _ _, by simp⟩
  have hbw : Below w.heap.size w w0 := by rw [← hw0]; exact (Below.refl _ _).alloc (Nat.le_refl _) _
  clear hw0
  rw [← hz0] at hb1 hown1
  have hsz1 := hb1.size
  refine (refpadding_any n _ (by omega)).mono ?_
  rintro e w2 ⟨vp, rfl, hownp, hbelp⟩
  have hown2 := hown1.below hbelp
  have hb2 := hb1.trans (hbelp.mono hsz1)
  have hsz2 := hb2.size
  clear hown1 hb1 hbelp
  have hpl : (Sha.pad n).length ≤ 72 := by rw [Sha.pad_length]; omega
  have O2 := Lib.hid hown2
  have P2 := Lib.hid hownp
  obtain ⟨va, vcap, rfl⟩ := hown2.form
  obtain ⟨pa, pcap, rfl⟩ := hownp.form
  clear hown2 hownp
  go_upto_region 2 with (at_builtin; go_must (refine wpList_append_rs rfl (.tmp 11) (.tmp 14) rfl w0.heap.size _ l rfl O2.out _ (Sha.pad n) rfl P2.out.bs.rs (by rw [← HN.out]; omega) hsz2 ?_; intro v3 w3 hown3 hgr3))
  have hb3 := below_only hb2 (Nat.le_refl _) hgr3 (fun g hg => (O2.out.lt g hg).1)
  have hsz3 := hb3.size
  clear hgr3 hb2
  go_upto_region 4 with (first | (go_at_call 37; refine (refstart_any _).mono ?_; rintro e w4 ⟨rfl, hb4⟩) | (go_at_call 20; refine (table_any _).mono ?_; rintro e w5 ⟨rfl, hb5⟩) | (refine wpList_store_rowTo rfl _ _ _ rfl rfl w4.heap.size _ rfl rfl _ _ (heap_alloc_new _ _) (hi8 _) (by rw [arr_size]; rfl) (arr_one _ _ _) ?_; generalize hV : World.setRow _ w4.heap.size _ = V) | (refine wpList_store_rowTo rfl _ _ _ rfl rfl w5.heap.size _ rfl rfl _ _ (heap_alloc_new _ _) (hi64 _) (by rw [arr_size]; rfl) (arr_one _ _ _) ?_; generalize hV' : World.setRow _ w5.heap.size _ = V'))
  have hz4 := hb4.size
  have hzV : V.heap.size = w4.heap.size + 1 := by rw [← hV, setRow_size]; simp
  have hbV : Below w3.heap.size w3 V := by rw [← hV]; exact below_setRow (hb4.alloc hz4 _) hz4 _
  have hSV : isArr V w4.heap.size 32 .u32 8 Sha.start.at := by rw [← hV]; exact setRow_heap _ _ _ _ _ _ (heap_alloc_new _ _)
  have hz5 := hb5.size
  have hbV' : Below w3.heap.size w3 V' := by rw [← hV']; exact below_setRow ((hbV.trans (hb5.mono hbV.size)).alloc (by omega) _) (by omega) _
  have hS' : isArr V' w4.heap.size 32 .u32 8 Sha.start.at := by rw [← hV']; exact ((hSV.below hb5 (by omega)).alloc _).row_other (by omega) _
  have hT' : isArr V' w5.heap.size 37 .u32 64 Sha.tab := by rw [← hV']; exact setRow_heap _ _ _ _ _ _ (heap_alloc_new _ _)
  have hown' := hown3.below hbV'
  have hbA := hb3.trans (hbV'.mono hsz3)
  obtain ⟨bs, hbs⟩ : ∃ bs, bs = w4.heap.size := ⟨_, rfl⟩
  obtain ⟨bt, hbt⟩ : ∃ bt, bt = w5.heap.size := ⟨_, rfl⟩
  rw [← hbs] at hS' ⊢
  rw [← hbt] at hT' ⊢
  have hdif : bs ≠ bt ∧ w0.heap.size ≤ bs := by omega
  have hvb : v3.ownBlock ≠ some bs := fun e => by have := (hown3.lt bs e).2; omega
  clear hV hV' hz4 hzV hbV hSV hz5 hbV' hb4 hb5 hb3 hown3 hbs hbt hsz3 hsz2 hsz1
  obtain ⟨L, hL⟩ : ∃ L, L = l ++ Sha.pad n := ⟨_, rfl⟩
  rw [← hL] at hown'
  have hLL : L.length = n + (Sha.pad n).length := by rw [hL, List.length_append, ← HN.out]
  have hL64 : L.length % 64 = 0 := by rw [hLL]; exact Sha.pad_whole n
  have hLmax : L.length ≤ 140737488355100 := by omega
  have HDIG := Lib.hid (show Sha.dig l = Sha.out (Sha.run Sha.tab L (L.length / 64)) by rw [hL, HN.out]; rfl)
  have HL := Lib.hid hL; clear hL hLL
  obtain ⟨N, hN⟩ : ∃ N, N = L.length / 64 := ⟨_, rfl⟩
  have hLN : L.length = 64 * N := by omega
  rw [← hN] at HDIG
  clear hN hL64
  have OV := Lib.hid hown'
  have RV' := Lib.hid (And.intro hR0 (And.intro hbw hbA))
  have TV := Lib.hid hT'
  have SV := Lib.hid hS'
  have VB := Lib.hid hvb
  clear hR0 hbw hbA hT' hS' hvb O2 P2
  obtain ⟨ga, gcap, rfl⟩ := hown'.form
  rw [hLN] at hown' ⊢
  have HLN := Lib.hid hLN
  clear hown'
  generalize V' = W at OV RV' TV SV ⊢
  go_wp2_with fail
  go_loopw [6] (fun i wr => ∃ j : Nat, j ≤ N ∧ i = .int .i64 ((64 * j : Nat) : Int) ∧ isArr wr bs 32 .u32 8 (Sha.run Sha.tab L j).at ∧ W.grownBy wr (some bs)) (fun i _ => 64 * N - (intOf i).toNat)
  case atStart => exact ⟨0, by omega, rfl, SV.out, only_refl _ _⟩
  case round =>
    clear SV
    obtain ⟨j, hj, rfl, hS, hgr⟩ := hrel
    have hsz := hgr.size
    have hT : isArr wr bt 37 .u32 64 Sha.tab := TV.out.of_block (hgr.block bt TV.out.lt (fun e => hdif.1 (Option.some.inj e.symm)))
    have hOB := OV.out.bs.only hgr (.inr VB.out)
    by_cases hlt : j < N
    · have HS := Lib.hid hS
      have HG := Lib.hid hgr; clear hgr
      rcases hOB.cases with ⟨h', hnil⟩ | ⟨g, off, gc, h', hc1, hc2, hc3, hc⟩
      · rw [hnil] at hLN; simp at hLN; omega
      simp only [Value.slice.injEq, true_and] at h'
      obtain ⟨rfl, rfl⟩ := h'
      obtain ⟨p, hp⟩ : ∃ p, p = 64 * j := ⟨_, rfl⟩
      have hb := fun i => hOB.1.get i
      have hca := cells_of (o := p) (n := 64) hc (by omega)
      have HC := Lib.hid hca
      have HBB := Lib.hid (show ∀ i, Sha.bl L j i < 256 from fun i => hb _)
      have hca2 : ∀ i v, (arr .u8 64 (Sha.bl L j))[i]? = some v → wr.cell? ((⟨g, off + p, none⟩ : Addr).add i) = some v := by rw [hp] at hca ⊢; exact hca
      have HC2 := Lib.hid hca2
      have hTc := hT.cells
      have hSc := hS.cells
      have HTC := Lib.hid hTc
      have HSC := Lib.hid hSc
      rw [hLN] at hc1
      have q1 : (p : Int) + 64 ≤ (gcap : Int) := by omega
      have q2 : IntKind.i64.wrap ((p : Int) + 64) = (p : Int) + 64 := IntWalk.i64_in _ (by omega)
      have q3 : 0 ≤ (p : Int) := by omega
      have q4 : (p : Int) + 64 ≤ 64 * (N : Int) := by omega
      have hat : ∀ (ad : Option Addr) cp wx, (Instr.arrayAt 33 (.slice ad 64 cp)).run Tryd.prog wx = .ok (.pointer ad) wx := fun ad cp wx => run_arrayAt wx 33 5 64 ad 64 cp Tryd.underlying33 (Nat.le_refl _)
      have hsl := fun wx => slb64 wx g off (64 * N) gcap p (by omega)
      have hd : decide ((p : Int) < 64 * (N : Int)) = true := by simp; omega
      rw [← hp]
      have HP := Lib.hid hp
      clear hOB hca hca2 hc hb hTc hSc hp hT hS
      go_wp2_with fail
      have hib : ((Tryd.prog).info? 33).map (·.size) = some (arr .u8 64 (Sha.bl L j)).size := by rw [arr_size]; rfl
      go_still_tail 9, (by kernel_rfl)
      repeat (first | (refine wpStill_load_arr rfl _ _ rfl ⟨bs, 0, none⟩ rfl _ _ HSC.out rfl rfl (hi8 _) ?_) | (refine wpStill_load_arr rfl _ _ rfl ⟨bt, 0, none⟩ rfl _ _ HTC.out rfl rfl (hi64 _) ?_) | (refine wpStill_load_arr rfl _ _ rfl ⟨g, off + p, none⟩ rfl _ _ HC2.out rfl rfl hib ?_) | still_step)
      try refine wpStill_nil ?_
      change wpList _ _ _ _ _ (wr.drewN 1)
      have hS1 := HS.out.drewN 1
      have hG1 := Lib.hid (only_drewN HG.out 1)
      clear HS HG HTC HSC HC HC2 hat hsl
      generalize wr.drewN 1 = wd at hS1 hG1 ⊢
      have hlt1 := hS1.lt
      go_wp2_with (first | (go_at_call 19; refine (refblock_any (Sha.run Sha.tab L j) (Sha.bl L j) Sha.tab _ (Sha.run_32 _ _ _) HBB.out).mono ?_; rintro e w6 ⟨rfl, hb6⟩; have k6 := hS1.below hb6 hlt1) | (refine wpList_store_row rfl _ _ _ rfl bs _ rfl rfl _ _ k6 (hi8 _) ((arr_size _ _ _).trans (arr_size _ _ _).symm) (arr_one _ _ _) ?_))
      have e : (p : Int) + 64 = ((64 * (j + 1) : Nat) : Int) := by have := HP.out; omega
      have r1 : isArr (w6.setRow bs (arr .u32 8 (Sha.blk Sha.tab (Sha.run Sha.tab L j) (Sha.bl L j)).at)) bs 32 .u32 8 (Sha.run Sha.tab L (j + 1)).at := setRow_heap w6 bs _ _ _ (0, 0) k6
      have r2 := only_setRow (only_below hG1.out hb6) (arr .u32 8 (Sha.blk Sha.tab (Sha.run Sha.tab L j) (Sha.bl L j)).at)
      go_roundw
      case rel => exact ⟨j + 1, by omega, congrArg (Value.int .i64) e, r1, r2⟩
      case measure => simp [intOf]; omega
    · rename World => wq
      obtain rfl : j = N := by omega
      have hst := hS
      have hS32 := Sha.run_32 Sha.tab L j
      generalize Sha.run Sha.tab L j = s at hst HDIG hS32
      have HST := Lib.hid hst
      have HG := Lib.hid hgr
      have S32 := Lib.hid hS32
      have hd : decide ((64 : Int) * (j : Int) < 64 * (j : Int)) = false := by simp
      clear hS hT hOB hst hgr hS32 hlt
      go_upto_region 10 with fail
      generalize hV5 : wq.alloc _ = V5
      have hO5 : OutInv s wq.heap.size wq V5 0 := by
        rw [← hV5]
        refine ⟨?_, (Below.refl _ _).alloc (Nat.le_refl _) _⟩
        exact (isArr_lit wq _ _ _ _ (Array.replicate 32 (.int .u8 0)) (by simp) (fun i hi => zeros_get _ _ _ hi)).congr fun i _ => by rw [if_neg (Nat.not_lt_zero _)]
      have O5 := Lib.hid hO5
      clear hV5 hO5
      go_loopw [8] (fun i wx => ∃ q : Nat, q ≤ 32 ∧ i = .int .i64 q ∧ OutInv s wq.heap.size wq wx q) (fun i _ => 32 - (intOf i).toNat)
      case atStart => exact ⟨0, by omega, rfl, O5.out⟩
      case round =>
        clear O5
        obtain ⟨i, hi, rfl, hO⟩ := hrel
        by_cases hlt : i < 32
        · have hd32 : decide ((i : Int) < 32) = true := by simp; omega
          obtain ⟨q, hq⟩ : ∃ q, q = i / 4 := ⟨_, rfl⟩
          obtain ⟨r, hr⟩ : ∃ r, r = i % 4 := ⟨_, rfl⟩
          obtain ⟨t, ht⟩ : ∃ t, t = 24 - 8 * r := ⟨_, rfl⟩
          have eq1 : (i : Int) / 4 = (q : Int) := by omega
          have er1 : (i : Int) % 4 = (r : Int) := by omega
          have et1 : (24 : Int) - 8 * (r : Int) = (t : Int) := by omega
          have hq8 : q < 8 := by omega
          have hr4 : r < 4 := by omega
          have ht32 : t < 32 := by omega
          have cs := (HST.out.below hO.2 HST.out.lt).cell (i := q) hq8
          have c0 := hO.1.cell (i := i) hlt
          have f0 := hO.1.frozen i
          have O2 := hO.set (Nat.le_refl _)
          have ho : Sha.out s i = s.at q / 2 ^ t % 256 := by unfold Sha.out; rw [← hq, ← hr, ← ht]
          rw [ho] at O2
          have O3 := Lib.hid O2
          have hx32 := Sha.at_32 s S32.out q
          clear hO O2 ho hq hr ht
          generalize s.at q = x at cs O3 hx32
          generalize (if i < i then Sha.out s i else 0) = y at c0
          go_wp2_with fail
          have e : ((x : Int) / 2 ^ t % 256) = ((x / 2 ^ t % 256 : Nat) : Int) := by rw [Int.natCast_emod, Int.natCast_ediv, Int.natCast_pow]; rfl
          go_roundw
          case rel => exact ⟨i + 1, by omega, by go_num, by rw [e]; exact O3.out⟩
          case measure => simp [intOf]; omega
        · obtain rfl : i = 32 := by omega
          have hd32 : decide (((32 : Nat) : Int) < 32) = false := by decide
          obtain ⟨⟨c, e1, e2⟩, hbw, hbA⟩ := RV'.out
          have hrow : isArr wr wq.heap.size 26 .u8 32 (Sha.dig l) := hO.1.congr fun t ht => by rw [HDIG.out]; simp [ht]
          have hlw : w.heap.size < w0.heap.size := lt_of_block e1
          have hbB : Below w0.heap.size w0 wq := below_only hbA (Nat.le_refl _) HG.out (fun g hg => by simp at hg; omega)
          have hb5 := hbB.trans (hO.2.mono hbB.size)
          have hres := (hb5.block w.heap.size hlw).trans e1
          have hi32 : ∀ f, ((Tryd.prog).info? 26).map (·.size) = some (arr .u8 32 f).size := by intro f; rw [arr_size]; rfl
          have HB5 := Lib.hid (hbw.trans (hb5.mono (Nat.le_of_lt hlw)))
          clear hO hbw hbA hbB hb5 e1 hlt hi
          go_wp2_with (first | refine wpList_load_row rfl _ _ rfl (wq.heap.size) rfl _ _ (0, 0) _ hrow rfl rfl (hi32 _) ?_ | (refine wpList_store_row rfl _ _ _ rfl w.heap.size _ rfl rfl _ _ hres (hi32 _) (by rw [arr_size]; exact e2) (arr_one _ _ _) ?_))
          exact bodyPost_ret (results_cell_row rfl _ _ w.heap.size _ _ (0, 0) _ rfl (setRow_heap _ w.heap.size _ _ _ (0, 0) hres) rfl rfl (hi32 _)) rfl ⟨rfl, below_setRow HB5.out (Nat.le_refl _) _⟩
end Go.Proofs.YtgalddnblciciaaDoor
