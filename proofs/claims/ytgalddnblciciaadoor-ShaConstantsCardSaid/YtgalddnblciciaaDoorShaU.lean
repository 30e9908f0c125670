import Derived.Test.YtgalddnblciciaaDoorShaT
import Derived.Test.YtgalddnblciciaaDoorRefJ
namespace Go.Proofs.YtgalddnblciciaaDoor
open Go.RowKit Go.Deep

theorem Feed.later {K : Nat → Nat} {L : List Nat} {bt bb bu bs : Nat} {w0 w w' : World} (h : Feed K L bt bb bu bs w0 w) (k : Below w.heap.size w w') : Feed K L bt bb bu bs w0 w' := by
  obtain ⟨⟨u, hu, j, f, h1, h2, h3, h4, h5, h6⟩, hT, hB⟩ := h
  exact ⟨⟨u, hu, j, f, h1, h2, h3, (k.block bu (lt_of_block h4)).trans h4, h5.below k h5.lt, h6.below k h6.lt⟩, (k.block bt (lt_of_block hT)).trans hT, hB.trans (k.mono hB.size)⟩
/-- Where whole blocks have been fed the state is that of all of them. -/
theorem Feed.whole {K : Nat → Nat} {L : List Nat} {bt bb bu bs : Nat} {w0 w : World} (h : Feed K L bt bb bu bs w0 w) (h64 : L.length % 64 = 0) : isArr w bs 32 .u32 8 (Sha.run K L (L.length / 64)).at := by
  obtain ⟨⟨u, hu, j, f, h1, h2, h3, h4, h5, h6⟩, _⟩ := h
  have : j = L.length / 64 := by omega
  rw [← this]; exact h6
/-- The first c bytes of a state have been written into the array bd. -/
def OutInv (s : Sha.St) (bd : Nat) (w wr : World) (c : Nat) : Prop := isArr wr bd 26 .u8 32 (fun t => if t < c then Sha.out s t else 0) ∧ Below w.heap.size w wr
theorem OutInv.set {s : Sha.St} {bd : Nat} {w wr : World} {c : Nat} (h : OutInv s bd w wr c) (hb : w.heap.size ≤ bd) : OutInv s bd w (wr.setCell ⟨bd, c, none⟩ (.int .u8 (Sha.out s c : Nat))) (c + 1) := by
  refine ⟨(h.1.set c _).congr fun j _ => ?_, below_set h.2 hb _ _⟩
  by_cases e : j = c
  · subst e; simp
  · rw [if_neg e]
    by_cases e2 : j < c
    · rw [if_pos e2, if_pos (by omega)]
    · rw [if_neg e2, if_neg (by omega)]
theorem new_one (w : World) (v : Value) (t : TypeId) : (w.alloc (.cells #[v] t)).heap[w.heap.size]? = some (.cells #[v] t (0, 0)) := heap_alloc_new _ _

set_option maxRecDepth 100000 in
set_option maxHeartbeats 4000000 in
theorem sum_any (K : Nat → Nat) (v : Value) (ll : List (List Nat)) (w : World) (h : Bss w v ll) (hlen : (Wir.join ll).length ≤ 140737488355000) (hK : Consts w K) :
    Calls Tryd.prog 15 #[v] w fun e w' => e = .returned (.agg (arr .u8 32 (Sha.digK K (Wir.join ll)))) ∧ Below w.heap.size w w' := by
  have H := Lib.hid h
  obtain ⟨a, cap, rfl, hll, -⟩ := h
  obtain ⟨n, hn⟩ : ∃ n, n = ll.length := ⟨_, rfl⟩
  rw [← hn] at hll ⊢
  have HN := Lib.hid hn; clear hn
  have HL := Lib.hid hlen; clear hlen
  have HK := Lib.hid hK; clear hK
  have hi8 : ∀ f, ((Tryd.prog).info? 32).map (·.size) = some (arr .u32 8 f).size := by intro f; rw [arr_size]; rfl
  have hmf : ∀ (fn : Fn) (first cap : Array Value) (w : World), (Instr.makeFunc fn first cap).run Tryd.prog w = .ok (.func fn first cap) w := fun _ _ _ _ => rfl
  go_enter Tryd.func15, Tryd.ntmps15
  go_upto_region 5 with (first | (go_at_call 24; refine (start_any _).mono ?_; rintro e w1 ⟨rfl, hb1⟩) | (refine wpList_store_rowTo rfl _ _ _ rfl rfl w1.heap.size _ rfl rfl _ _ (heap_alloc_new _ _) (hi8 _) (by rw [arr_size]; rfl) (arr_one _ _ _) ?_; generalize hV : World.setRow _ w1.heap.size _ = V))
  generalize hw0 : w.alloc _ = w0 at hb1
  have hz0 : w0.heap.size = w.heap.size + 1 := by rw [← hw0]; simp
  have hR0 : ∃ c : Array Value, w0.heap[w.heap.size]? = some (.cells c 26 (0, 0)) ∧ c.size = 32 := by rw [← hw0]; exact ⟨_, heap_alloc_new _ _, rfl⟩
  have hbw : Below w.heap.size w w0 := by rw [← hw0]; exact (Below.refl _ _).alloc (Nat.le_refl _) _
  clear hw0
  have hz1 := hb1.size
  have hVs : V.heap.size = w1.heap.size + 1 := by rw [← hV, setRow_size]; simp
  have hbV : Below w0.heap.size w0 V := by rw [← hV]; exact below_setRow (hb1.alloc hz1 _) hz1 _
  have hSt : isArr V w1.heap.size 32 .u32 8 Sha.start.at := by rw [← hV]; exact setRow_heap _ _ _ _ _ _ (heap_alloc_new _ _)
  clear hV
  generalize hW : ((V.alloc _).alloc _).alloc _ = W
  have hWs : W.heap.size = V.heap.size + 3 := by rw [← hW]; simp
  have hF : Feed K [] (V.heap.size + 2) V.heap.size (V.heap.size + 1) w1.heap.size w0 W := by
    refine ⟨⟨0, by omega, 0, fun _ => 0, rfl, fun _ => Nat.zero_lt_succ _, fun i hi => absurd hi (Nat.not_lt_zero _), ?_, ?_, ?_⟩, ?_, ?_⟩
    · rw [← hW, Below.heap_alloc _ _ _ (by simp)]
      have e : V.heap.size + 1 = (V.alloc (.cells (Array.replicate 64 (.int .u8 0)) 33)).heap.size := by simp
      rw [e]
      exact heap_alloc_new _ _
    · rw [← hW]
      exact ((isArr_lit V _ _ _ _ (Array.replicate 64 (.int .u8 0)) (by simp) (fun i hi => zeros_get _ _ _ hi)).alloc _).alloc _
    · rw [← hW]
      exact ((hSt.alloc _).alloc _).alloc _
    · rw [← hW]
      have e : V.heap.size + 2 = ((V.alloc (.cells (Array.replicate 64 (.int .u8 0)) 33)).alloc (.cells #[.int .i64 0] 3)).heap.size := by simp
      rw [e]
      exact heap_alloc_new _ _
    · rw [← hW]
      exact ((hbV.alloc hbV.size _).alloc (by simp; omega) _).alloc (by simp; omega) _
  have F := Lib.hid hF
  have HR := Lib.hid (And.intro hR0 hbw)
  have HZ := Lib.hid (And.intro hz0 (And.intro hz1 (And.intro hVs hWs)))
  clear hF hW hSt hbV hR0 hbw hb1 hz0 hz1 hVs hWs
  generalize V.heap.size = bb at F HZ ⊢
  generalize w1.heap.size = bs at F HZ ⊢
  go_wp2_with fail
  go_loopw [18] (fun i wr => ∃ j : Nat, j ≤ n ∧ i = .int .i64 j ∧ Feed K (Wir.join (ll.take j)) (bb + 2) bb (bb + 1) bs w0 wr ∧ W.heap.size ≤ wr.heap.size) (fun i _ => n - (intOf i).toNat)
  case atStart => exact ⟨0, by omega, rfl, F.out, Nat.le_refl _⟩
  case round =>
    clear F
    obtain ⟨j, hj, rfl, hF, hsz⟩ := hrel
    have F := Lib.hid hF
    have HS := Lib.hid hsz; clear hsz
    by_cases hlt : j < n
    · have hge := Wir.get_le ll j (by rw [← HN.out]; exact hlt)
      have hsn := Lib.hid (Wir.join_snoc ll j (by rw [← HN.out]; exact hlt))
      have hbw := (HR.out.2.trans (hF.2.2.mono (by have := HZ.out; omega)))
      have hss := H.out.below hbw
      obtain ⟨b, off, u, rfl, hu, hbs⟩ := hss.at (k := j) (by rw [← HN.out]; exact hlt)
      have HL2 := Lib.hid (show (Wir.join (ll.take j)).length + (ll.getD j []).length ≤ 140737488355328 by have := HL.out; omega)
      have hsep : ll.getD j [] ≠ [] → ∀ b, u.ownBlock = some b → b ≠ bb + 2 ∧ b ≠ bb ∧ b ≠ bb + 1 ∧ b ≠ bs := by
        intro hne b' hb'
        obtain ⟨b2, off2, u2, e2, hu2, hr2⟩ := H.out.at (k := j) (by rw [← HN.out]; exact hlt)
        simp only [Option.some.injEq, Addr.mk.injEq, and_true] at e2
        obtain ⟨rfl, rfl⟩ := e2
        have hlt2 := World.block_lt_of_cell? w _ hu2
        have hu3 : wr.cell? ⟨b, off + j, none⟩ = some u2 := (hbw.cell (p := ⟨b, off + j, none⟩) hlt2).trans hu2
        obtain rfl : u2 = u := by rw [hu] at hu3; exact (Option.some.inj hu3).symm
        obtain ⟨ua, ucap, rfl⟩ := hr2.form
        have h0 : 0 < (ll.getD j []).length := List.length_pos_iff.2 hne
        obtain ⟨b3, o3, rfl, hc3⟩ := hr2.at h0
        have := World.block_lt_of_cell? w _ (hc3 0 h0)
        simp [Value.ownBlock] at hb'
        have hz := HZ.out
        simp at this
        omega
      have HSEP := Lib.hid hsep
      have HBS := Lib.hid hbs
      obtain ⟨ua, ucap, rfl⟩ := hbs.form
      have HKC := Lib.hid (HK.out.below HR.out.2)
      have hd : (bb + 2 ≠ bb ∧ bb + 2 ≠ bb + 1 ∧ bb + 2 ≠ bs ∧ bb ≠ bb + 1 ∧ bb ≠ bs ∧ bb + 1 ≠ bs) ∧ w0.heap.size ≤ bb + 2 ∧ w0.heap.size ≤ bb ∧ w0.heap.size ≤ bb + 1 ∧ w0.heap.size ≤ bs := by have := HZ.out; omega
      have HD := Lib.hid hd
      clear hF hss hbw hge hsep hbs hd
      go_wp2_with (go_at_call 36; refine (feed_any K (Wir.join (ll.take j)) (ll.getD j []) (bb + 2) bb (bb + 1) bs _ w0 _ F.out HBS.out HSEP.out HL2.out HD.out.1 HD.out.2 HKC.out).mono ?_; rintro e w3 ⟨rfl, hF3, hs3⟩)
      go_roundw
      case rel => exact ⟨j + 1, by omega, by go_num, by rw [hsn.out]; exact hF3, Nat.le_trans HS.out hs3⟩
      case measure => simp [intOf]; omega
    · obtain rfl : j = n := by omega
      have e0 : ll.take j = ll := List.take_of_length_le (by rw [HN.out]; exact Nat.le_refl _)
      rw [e0] at F
      clear e0 hF
      have hT := F.out.2.1
      have cT := cell_of_one hT
      clear hT
      obtain ⟨l, hl⟩ : ∃ l, l = Wir.join ll := ⟨_, rfl⟩
      rw [← hl] at F cT HL
      have HLL := Lib.hid hl; clear hl
      obtain ⟨m, hm⟩ : ∃ m, m = l.length := ⟨_, rfl⟩
      rw [← hm] at cT
      have HM := Lib.hid hm; clear hm
      have hm47 : m ≤ 140737488355000 := by rw [HM.out]; exact HL.out
      clear hlt
      go_wp2_with (go_at_call 25; refine (padding_any m _ (by omega)).mono ?_; rintro e w3 ⟨vp, rfl, hown3, hbel3⟩)
      have hF3 := F.out.later hbel3
      have hrs3 := hown3.bs.rs
      have hz3 := hbel3.size
      have hsep : Sha.pad m ≠ [] → ∀ b, vp.ownBlock = some b → b ≠ bb + 2 ∧ b ≠ bb ∧ b ≠ bb + 1 ∧ b ≠ bs := by
        intro _ b hb
        have := (hown3.lt b hb).1
        have := HZ.out
        have := HS.out
        omega
      have hd : (bb + 2 ≠ bb ∧ bb + 2 ≠ bb + 1 ∧ bb + 2 ≠ bs ∧ bb ≠ bb + 1 ∧ bb ≠ bs ∧ bb + 1 ≠ bs) ∧ w0.heap.size ≤ bb + 2 ∧ w0.heap.size ≤ bb ∧ w0.heap.size ≤ bb + 1 ∧ w0.heap.size ≤ bs := by have := HZ.out; omega
      have hpl : (Sha.pad m).length ≤ 72 := by rw [Sha.pad_length]; omega
      refine (feed_any K l (Sha.pad m) (bb + 2) bb (bb + 1) bs vp w0 _ hF3 hrs3 hsep (by rw [← HM.out]; omega) hd.1 hd.2 (HK.out.below HR.out.2)).mono ?_
      rintro e w4 ⟨rfl, hF4, hs4⟩
      have hA := hF4.whole (by rw [List.length_append, ← HM.out]; exact Sha.pad_whole m)
      have hst : (Sha.run K (l ++ Sha.pad m) ((l ++ Sha.pad m).length / 64)) = (Sha.run K (l ++ Sha.pad l.length) ((l ++ Sha.pad l.length).length / 64)) := by rw [HM.out]
      rw [hst] at hA
      have ST := Lib.hid (show Sha.digK K l = Sha.out (Sha.run K (l ++ Sha.pad l.length) ((l ++ Sha.pad l.length).length / 64)) from rfl)
      have hS32 := Sha.run_32 K (l ++ Sha.pad l.length) ((l ++ Sha.pad l.length).length / 64)
      generalize Sha.run K (l ++ Sha.pad l.length) ((l ++ Sha.pad l.length).length / 64) = s at hA ST hS32
      have hR4 : ∃ c : Array Value, w4.heap[w.heap.size]? = some (.cells c 26 (0, 0)) ∧ c.size = 32 := by
        obtain ⟨c, e1, e2⟩ := HR.out.1
        exact ⟨c, (hF4.2.2.block w.heap.size (by have := HZ.out; omega)).trans e1, e2⟩
      have hB4 : Below w.heap.size w w4 := HR.out.2.trans (hF4.2.2.mono (by have := HZ.out; omega))
      have hbs4 := hA.lt
      have S32 := Lib.hid hS32
      have B4 := Lib.hid hB4
      have R4 := Lib.hid hR4
      clear hF3 hrs3 hsep hd hpl hF4 hst hS32 hR4 hB4 cT hown3 hbel3 hz3 F
      go_upto_region 12 with fail
      generalize hV5 : w4.alloc _ = V5
      have hz5 : V5.heap.size = w4.heap.size + 1 := by rw [← hV5]; simp
      have hA5 : isArr V5 bs 32 .u32 8 s.at := by rw [← hV5]; exact hA.alloc _
      have hO5 : OutInv s w4.heap.size w4 V5 0 := by
        rw [← hV5]
        refine ⟨?_, (Below.refl _ _).alloc (Nat.le_refl _) _⟩
        exact (isArr_lit w4 _ _ _ _ (Array.replicate 32 (.int .u8 0)) (by simp) (fun i hi => zeros_get _ _ _ hi)).congr fun i _ => by rw [if_neg (Nat.not_lt_zero _)]
      have O5 := Lib.hid hO5
      have HA := Lib.hid hA; clear hA hV5 hO5
      go_wp2_with (refine wpList_load_row rfl _ _ rfl bs rfl _ _ (0, 0) _ hA5 rfl rfl (hi8 _) ?_)
      clear hA5
      go_loopw [31] (fun i wr => ∃ q : Nat, q ≤ 8 ∧ i = .int .i64 q ∧ OutInv s w4.heap.size w4 wr (4 * q)) (fun i _ => 8 - (intOf i).toNat)
      case atStart => exact ⟨0, by omega, rfl, O5.out⟩
      case round =>
        clear O5
        obtain ⟨q, hq, rfl, hO⟩ := hrel
        have O := Lib.hid hO; clear hO
        by_cases hlt : q < 8
        · have hix := fun wx => run_index_int (w := wx) (k := .i64) .u32 Tryd.underlying32 Tryd.underlying31 (by kernel_rfl) hlt (arr_get .u32 8 s.at q hlt)
          have hx32 := Sha.at_32 s S32.out q
          have HX := Lib.hid (show ∀ t, t < 4 → Sha.out s (4 * q + t) = s.at q / 2 ^ (24 - 8 * t) % 256 from fun t ht => by unfold Sha.out; rw [show (4 * q + t) / 4 = q by omega, show (4 * q + t) % 4 = t by omega])
          generalize s.at q = x at hix hx32 HX
          go_wp2_with fail
          go_loopw [35] (fun i wr => ∃ t : Nat, t ≤ 4 ∧ i = .int .i64 t ∧ OutInv s w4.heap.size w4 wr (4 * q + t)) (fun i _ => 4 - (intOf i).toNat)
          case atStart => exact ⟨0, by omega, rfl, O.out⟩
          case round =>
            clear O hix
            obtain ⟨t, ht, rfl, hO⟩ := hrel
            by_cases hlt2 : t < 4
            · have c0 := hO.1.cell (i := 4 * q + t) (by omega)
              have f0 := hO.1.frozen (4 * q + t)
              have O2 := hO.set (Nat.le_refl _)
              rw [HX.out t hlt2] at O2
              have O3 := Lib.hid O2
              clear hO O2
              go_wp2_with fail
              have e : ((x : Int) / 2 ^ (24 - 8 * t) % 256) = ((x / 2 ^ (24 - 8 * t) % 256 : Nat) : Int) := by rw [Int.natCast_emod, Int.natCast_ediv, Int.natCast_pow]; rfl
              go_roundw
              case rel => exact ⟨t + 1, by omega, by go_num, by rw [e]; exact O3.out⟩
              case measure => simp [intOf]; omega
            · obtain rfl : t = 4 := by omega
              have O2 := Lib.hid hO; clear hO
              go_wp2_with fail
              go_roundw
              case rel => exact ⟨q + 1, by omega, by go_num, O2.out⟩
              case measure => simp [intOf]; omega
        · obtain rfl : q = 8 := by omega
          obtain ⟨c, e1, e2⟩ := R4.out
          have hO := O.out
          have hrow : isArr wr w4.heap.size 26 .u8 32 (Sha.digK K l) := hO.1.congr fun t ht => by rw [ST.out]; simp [ht]
          have hres : wr.heap[w.heap.size]? = some (.cells c 26 (0, 0)) := (hO.2.block _ (lt_of_block e1)).trans e1
          have hi32 : ∀ f, ((Tryd.prog).info? 26).map (·.size) = some (arr .u8 32 f).size := by intro f; rw [arr_size]; rfl
          go_wp2_with (first | refine wpList_load_row rfl _ _ rfl (w4.heap.size) rfl _ _ (0, 0) _ hrow rfl rfl (hi32 _) ?_ | (refine wpList_store_row rfl _ _ _ rfl w.heap.size _ rfl rfl _ _ hres (hi32 _) (by rw [arr_size]; exact e2) (arr_one _ _ _) ?_))
          exact bodyPost_ret (results_cell_row rfl _ _ w.heap.size _ _ (0, 0) _ rfl (setRow_heap wr w.heap.size _ _ _ (0, 0) hres) rfl rfl (hi32 _)) rfl ⟨by rw [HLL.out], below_setRow (B4.out.trans (hO.2.mono B4.out.size)) (Nat.le_refl _) _⟩
end Go.Proofs.YtgalddnblciciaaDoor
