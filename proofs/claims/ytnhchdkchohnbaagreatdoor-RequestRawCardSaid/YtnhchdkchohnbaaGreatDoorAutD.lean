/- Layer 13: Parse of an authenticator, in the program. -/
import Derived.Test.YtnhchdkchohnbaaGreatDoorAutC
namespace Go.Proofs.YtnhchdkchohnbaaGreatDoor
open Go.RowKit Go.Deep

def aut0 : Aut.A := aut ⟨#[]⟩ [] 0 0 0
theorem au0 : (#[.string ⟨#[]⟩, .slice none 0 0, .int .i64 0, .int .u32 0, .int .u32 0] : Array Value) = au ⟨#[]⟩ (.slice none 0 0) 0 0 0 := rfl
def RetAut (w : World) (o : Option Aut.A) (e : Ending) (w' : World) : Prop :=
  Below w.heap.size w w' ∧ ∃ r u ss t m s, e = .returned (.tuple #[.agg (au r u t m s), .bool o.isSome]) ∧ OwnS w' w.heap.size u ss ∧ r.size ≤ maxLen ∧ m < 4294967296 ∧ s < 4294967296 ∧ aut r ss t m s = o.getD aut0
theorem retAut_none {w w' : World} {e : Ending} (h : Below w.heap.size w w') (he : e = .returned (.tuple #[.agg (au ⟨#[]⟩ (.slice none 0 0) 0 0 0), .bool false])) : RetAut w none e w' :=
  ⟨h, ⟨#[]⟩, .slice none 0 0, [], 0, 0, 0, he, OwnS.nil _ _, Nat.zero_le _, by omega, by omega, rfl⟩
theorem Aut.parse_not2 {l : List Nat} (h : (Wir.num ⟨l, false⟩ 1).2 ≠ 2) : Aut.parse l = none := by
  unfold Aut.parse; rw [if_pos h]
theorem Aut.parse_noname {l : List Nat} (h2 : (Nam.refRead (Wir.num ⟨l, false⟩ 1).1).2 = none) : Aut.parse l = none := by
  unfold Aut.parse
  split
  · rfl
  · rw [h2]
theorem Aut.parse_name {l : List Nat} {n : Nam.N} (h : (Wir.num ⟨l, false⟩ 1).2 = 2) (h2 : (Nam.refRead (Wir.num ⟨l, false⟩ 1).1).2 = some n) :
    Aut.parse l = if ((Wir.num (Wir.num (Wir.num (Nam.refRead (Wir.num ⟨l, false⟩ 1).1).1 8).1 4).1 4).1.bad = true ∨ (Wir.num (Wir.num (Wir.num (Nam.refRead (Wir.num ⟨l, false⟩ 1).1).1 8).1 4).1 4).1.l.length ≠ 0) ∨ 1099511627776 < (Wir.num (Nam.refRead (Wir.num ⟨l, false⟩ 1).1).1 8).2 ∨ 999999 < (Wir.num (Wir.num (Nam.refRead (Wir.num ⟨l, false⟩ 1).1).1 8).1 4).2 then none
      else some ⟨n, (Wir.num (Nam.refRead (Wir.num ⟨l, false⟩ 1).1).1 8).2, (Wir.num (Wir.num (Nam.refRead (Wir.num ⟨l, false⟩ 1).1).1 8).1 4).2, (Wir.num (Wir.num (Wir.num (Nam.refRead (Wir.num ⟨l, false⟩ 1).1).1 8).1 4).1 4).2⟩ := by
  unfold Aut.parse
  rw [if_neg (by omega), h2]
theorem Rd.all {w : World} {p : Nat} {r : Wir.R} (h : Rd w p r) : ∀ x, x ∈ r.l → x < 256 := by obtain ⟨_, _, h, _⟩ := h; exact h.all
def Pst (w wr : World) (p bf bn B2 : Nat) (q : ByteArray) (v : Value) (ss : List ByteArray) (F : Array Value) (rd : Wir.R) : Prop :=
  Rd wr p rd ∧ Hb wr bf F 110 ∧ Hb wr w.heap.size (au ⟨#[]⟩ (.slice none 0 0) 0 0 0) 32 ∧ Hb wr bn #[.string q, v] 29 ∧ OwnS wr B2 v ss ∧ w.grownBy wr none
theorem Rd.only' {w : World} {p bf : Nat} {r : Wir.R} (h : Rd w p r) (hf : p < bf) (i : Nat) (x : Value) : Rd (w.setCell ⟨bf, i, none⟩ x) p r := by
  obtain ⟨v, h1, h2, h3⟩ := h
  exact ⟨v, (Below.heap_setCell w ⟨bf, i, none⟩ x p (by show p ≠ bf; omega)).trans h1, h2.only (grown_set (p := ⟨bf, i, none⟩) x) (by
    cases hv : v.ownBlock with
    | none => exact .inl rfl
    | some g => exact .inr (fun e => by have := h3 g hv; cases e; exact absurd this (by show ¬ bf < p; omega))), h3⟩
theorem Pst.step {w wr w' : World} {p bf bn B2 : Nat} {q : ByteArray} {v : Value} {ss : List ByteArray} {F : Array Value} {rd rd' : Wir.R} (h : Pst w wr p bf bn B2 q v ss F rd) (hw : w.heap.size < p) (hp : p < B2) (hne : p ≠ bn) (hf1 : p < bf) (hf2 : bn < bf) (hown : ∀ g, v.ownBlock = some g → g < bf) (k : Rd w' p rd') (g : wr.grownBy w' (some p)) (i : Nat) (x : Value) :
    Pst w (w'.setCell ⟨bf, i, none⟩ x) p bf bn B2 q v ss (F.setIfInBounds i x) rd' := by
  obtain ⟨h1, h2, h3, h4, h5, h6⟩ := h
  have k1 := h2.keep g (by intro e; cases e; omega)
  have k2 := h3.keep g (by intro e; cases e; omega)
  have k3 := h4.keep g (by intro e; cases e; omega)
  have k4 := h5.only g (.inr (fun e => by have := (h5.lt _ e).1; omega))
  have k5 := grown_new h6 g (Nat.le_of_lt hw)
  refine ⟨?_, k1.set i x, k2.far (p := ⟨bf, i, none⟩) (by show w.heap.size ≠ bf; omega) x, k3.far (p := ⟨bf, i, none⟩) (by show bn ≠ bf; omega) x, k4.only (grown_set x) (.inr (fun e => by have := hown _ e; exact Nat.lt_irrefl _ this)), fresh_set k5 (by show w.heap.size ≤ bf; omega) x⟩
  exact k.only' hf1 i x
set_option maxRecDepth 100000 in
set_option maxHeartbeats 8000000 in
theorem auparse_any (v : Value) (l : List Nat) (w : World) (h : Rs w v l) (hb : l.length ≤ 140737488355328) :
    Calls Tryz.prog 28 #[v] w (RetAut w (Aut.parse l)) := by
  have Z0 := Hb.new w (au ⟨#[]⟩ (.slice none 0 0) 0 0 0) 32
  have G0 := only_alloc (only_refl w none) (.cells (au ⟨#[]⟩ (.slice none 0 0) 0 0 0) 32)
  have H := Lib.hid (h.below (below_of_only G0)); clear h
  obtain ⟨a, cap, rfl⟩ := H.out.form
  generalize hR : Aut.parse l = R
  have HR := Lib.hid hR; clear hR
  go_enter Tryz.func28, Tryz.ntmps28
  go_upto_region 1 with fail
  rw [au0]
  generalize w.alloc (.cells (au ⟨#[]⟩ (.slice none 0 0) 0 0 0) 32) = V0 at *
  go_wp2_with fail
  refine (new_any _ l V0 H.out hb).mono ?_
  rintro e w1 ⟨p, rfl, hp, rd, hb1⟩
  have Z1 := Z0.only (only_of_below hb1 none)
  have G1 := only_trans G0 (only_of_below hb1 none)
  have hpw := Nat.le_trans G0.size hp
  have hzp := Nat.lt_of_lt_of_le Z0.lt hp
  clear Z0 G0 hp hb1
  go_wp2_with fail
  refine (rnum_any p ⟨l, false⟩ 1 w1 rd).mono ?_
  rintro e w2 ⟨rfl, rd2, hg2⟩
  have G2 := grown_new G1 hg2 hpw
  have Z2 := Z1.keep hg2 (by intro e; cases e; omega)
  clear Z1 G1 hg2 rd
  by_cases h1 : (Wir.num ⟨l, false⟩ 1).2 = 2
  · have hl1 : (Wir.num ⟨l, false⟩ 1).1.l.length ≤ l.length := num_len _ _
    have HN := Lib.hid (fun h2 => (Aut.parse_noname (l := l) h2).symm.trans HR.out)
    have HS := Lib.hid (fun n h2 => (Aut.parse_name (l := l) (n := n) h1 h2).symm.trans HR.out)
    rw [h1]
    clear HR h1
    generalize (Wir.num ⟨l, false⟩ 1).1 = r1 at *
    go_wp2_with fail
    refine (nread_any p r1 w2 rd2 (by omega)).mono ?_
    rintro e w3 ⟨hg3, ⟨v3, ss3, q3, rfl, o3, hq3, hn3⟩, rd3⟩
    have G3 := grown_new G2 hg3 hpw
    have Z3 := Z2.keep hg3 (by intro e; cases e; omega)
    have O3 := o3
    have hp2 := rd2.lt
    have hw2 := G2.size
    obtain ⟨va3, vc3, rfl⟩ := o3.ss.form
    have F := And.intro (Hb.new w3 #[.string q3, .slice va3 ss3.length vc3] 29) (only_alloc (only_refl w3 none) (.cells #[.string q3, .slice va3 ss3.length vc3] 29))
    clear Z2 G2 hg3 rd2 o3
    generalize w2.heap.size = B2 at *
    cases hr : (Nam.refRead r1).2 with
    | none =>
      have E1 := Lib.hid (show R = none from (HN.out hr).symm)
      have Z4 := Z3.only F.2
      have G4 := only_trans G3 F.2
      rw [hr] at hn3
      clear HN HS hr rd3 O3 Z3 G3
      go_upto_region 6 with fail
      generalize w3.alloc (.cells #[.string q3, .slice va3 ss3.length vc3] 29) = V at *
      clear F
      go_wp2_with (first | refine wpList_buildTo rfl 32 _ rfl _ rfl (au ⟨#[]⟩ (.slice none 0 0) 0 0 0) (by kernel_rfl) ?_ | refine wpList_store_rowTo rfl _ _ _ rfl rfl w.heap.size _ rfl rfl _ _ Z4 (info_au _ _ _ _ _) (by simp only [au_size]) (au_one _ _ _ _ _ rfl) ?_)
      all_goals first | omega | skip
      try simp only [Exit.inBlock, Exit.then, Exit.noGoto_ret]
      refine bodyPost_ret (results_row_tmp rfl _ _ w.heap.size _ _ (0, 0) _ rfl (Z4.row _).1 rfl rfl (info_au _ _ _ _ _)) rfl ?_
      rw [E1.out]
      exact retAut_none (row_own _ Z4 G4 (Nat.le_refl _)) rfl
    | some n =>
      have HS := Lib.hid (HS.out n hr)
      have rd3 := rd3 (by rw [hr]; rfl)
      rw [hr] at hn3
      have hn3 : nm q3 ss3 = n := hn3
      have hn4 : p ≠ w3.heap.size := Nat.ne_of_lt rd3.lt
      have hp3 := rd3.lt
      have A4 := only_trans F.2 (only_alloc (only_refl _ none) (.cells #[.int .u64 0, .int .u64 0, .int .u64 0] 110))
      have F4 := Hb.new (w3.alloc (.cells #[.string q3, .slice va3 ss3.length vc3] 29)) #[.int .u64 0, .int .u64 0, .int .u64 0] 110
      rw [World.size_alloc] at F4
      have rd4 := rd3.below (below_of_only A4)
      have Z4 := Z3.only A4
      have G4 := only_trans G3 A4
      have N4 := F.1.alloc (.cells #[.int .u64 0, .int .u64 0, .int .u64 0] 110)
      have O4 := O3.below (below_of_only A4)
      have hown : ∀ g, (Value.slice va3 ss3.length vc3).ownBlock = some g → g < w3.heap.size + 1 := fun g e => by have := (O3.lt g e).2; omega
      have HOWN := Lib.hid hown
      clear HN hr rd3 O3 Z3 G3 F A4 hown
      generalize (Nam.refRead r1).1 = r2 at *
      go_upto_region 8 with fail
      generalize (w3.alloc (.cells #[.string q3, .slice va3 ss3.length vc3] 29)).alloc (.cells #[.int .u64 0, .int .u64 0, .int .u64 0] 110) = V at *
      obtain ⟨bf, hbf⟩ : ∃ x, x = w3.heap.size + 1 := ⟨_, rfl⟩
      rw [← hbf] at F4 HOWN ⊢
      have hf2 : w3.heap.size < bf := by omega
      have hf1 : p < bf := by omega
      clear hbf
      generalize hbn : w3.heap.size = bn at *
      clear hbn
      go_wp2_with fail
      refine (sizes_any V).mono ?_
      rintro e w5 ⟨rfl, g5⟩
      have ST5 := Lib.hid (show Pst w w5 p bf bn B2 q3 (.slice va3 ss3.length vc3) ss3 #[.int .u64 0, .int .u64 0, .int .u64 0] r2 from ⟨rd4.below (below_of_only g5), F4.only g5, Z4.only g5, N4.only g5, O4.below (below_of_only g5), only_trans G4 g5⟩)
      clear rd4 F4 Z4 N4 O4 G4 g5 hl1
      generalize hX : Wir.num r2 8 = X at HS
      generalize hY : Wir.num X.1 4 = Y at HS
      generalize hZ : Wir.num Y.1 4 = Zn at HS
      have HX := Lib.hid hX
      have HY := Lib.hid hY
      have HZ := Lib.hid hZ
      clear hX hY hZ
      go_wp2_with fail
      go_loopw [25] (fun x wr => ∃ (j : Int) (F : Array Value) (rd : Wir.R), x = .int .i64 j ∧ ((j = 0 ∧ F = #[.int .u64 0, .int .u64 0, .int .u64 0] ∧ rd = r2) ∨ (j = 1 ∧ F = #[.int .u64 (X.2 : Int), .int .u64 0, .int .u64 0] ∧ rd = X.1) ∨ (j = 2 ∧ F = #[.int .u64 (X.2 : Int), .int .u64 (Y.2 : Int), .int .u64 0] ∧ rd = Y.1) ∨ (j = 3 ∧ F = #[.int .u64 (X.2 : Int), .int .u64 (Y.2 : Int), .int .u64 (Zn.2 : Int)] ∧ rd = Zn.1 ∧ Zn.2 < 4294967296)) ∧ Pst w wr p bf bn B2 q3 (.slice va3 ss3.length vc3) ss3 F rd) (fun x _ => 4 - (intOf x).toNat)
      case atStart => exact ⟨0, _, _, rfl, .inl ⟨rfl, rfl, rfl⟩, ST5.out⟩
      case round =>
        obtain ⟨j, F, rd, rfl, hj, st⟩ := hrel
        clear ST5
        have ST := Lib.hid st
        have hF := st.2.1
        have hrd := st.1
        clear st
        rcases hj with ⟨rfl, rfl, rfl⟩ | ⟨rfl, rfl, rfl⟩ | ⟨rfl, rfl, rfl⟩ | ⟨rfl, rfl, rfl, hz⟩
        · have hix := ix_sizes0
          go_wp2_with (go_at_call 57; refine (rnum_any p rd 8 wr hrd).mono ?_)
          rintro e w6 ⟨rfl, rd6, g6⟩
          have hs := Pst.step ST.out hzp hp2 hn4 hf1 hf2 HOWN.out rd6 g6 0 (.int .u64 (X.2 : Int))
          have hF6 := hF.keep g6 (by intro e; cases e; omega)
          have c0 := hF6.cell (i := 0) rfl
          have f0 := hF6.frozen 0
          rw [HX.out] at hs ⊢
          go_wp2_with fail
          go_roundw
          case rel => exact ⟨1, _, _, by go_num, .inr (.inl ⟨rfl, rfl, rfl⟩), hs⟩
          case measure => decide
        · have hix := ix_sizes1
          go_wp2_with (go_at_call 57; refine (rnum_any p X.1 4 wr hrd).mono ?_)
          rintro e w6 ⟨rfl, rd6, g6⟩
          have hs := Pst.step ST.out hzp hp2 hn4 hf1 hf2 HOWN.out rd6 g6 1 (.int .u64 (Y.2 : Int))
          have hF6 := hF.keep g6 (by intro e; cases e; omega)
          have c0 := hF6.cell (i := 1) rfl
          have f0 := hF6.frozen 1
          rw [HY.out] at hs ⊢
          go_wp2_with fail
          go_roundw
          case rel => exact ⟨2, _, _, by go_num, .inr (.inr (.inl ⟨rfl, rfl, rfl⟩)), hs⟩
          case measure => decide
        · have hix := ix_sizes2
          have hlt := Wir.num_lt (r := Y.1) (k := 4) (by omega) hrd.all
          have e4 : ((4 : Nat) : Int) = 4 := rfl
          rw [e4, HZ.out] at hlt
          have HLT := Lib.hid (show Zn.2 < 4294967296 by omega)
          clear hlt e4
          go_wp2_with (go_at_call 57; refine (rnum_any p Y.1 4 wr hrd).mono ?_)
          rintro e w6 ⟨rfl, rd6, g6⟩
          have hs := Pst.step ST.out hzp hp2 hn4 hf1 hf2 HOWN.out rd6 g6 2 (.int .u64 (Zn.2 : Int))
          have hF6 := hF.keep g6 (by intro e; cases e; omega)
          have c0 := hF6.cell (i := 2) rfl
          have f0 := hF6.frozen 2
          rw [HZ.out] at hs ⊢
          go_wp2_with fail
          go_roundw
          case rel => exact ⟨3, _, _, by go_num, .inr (.inr (.inr ⟨rfl, rfl, rfl, HLT.out⟩)), hs⟩
          case measure => decide
        · obtain ⟨xr, x⟩ := X
          obtain ⟨yr, y⟩ := Y
          obtain ⟨kb, z⟩ := Zn
          dsimp only at HS hz hF hrd ST ⊢
          have f0 := hF.cell (i := 0) rfl
          have f1 := hF.cell (i := 1) rfl
          have f2 := hF.cell (i := 2) rfl
          obtain ⟨_, _, ZZ, NN, OO, GG⟩ := ST.out
          have rd := hrd
          clear ST hF hrd HX HY HZ
          generalize hD : (!kb.bad && kb.l.length == 0) = D
          cases D
          · have hbad : kb.bad = true ∨ kb.l.length ≠ 0 := by
              cases hk : kb.bad
              · right; intro h0; rw [hk, h0] at hD; cases hD
              · left; rfl
            have E1 := Lib.hid (show R = none by rw [← HS.out, if_pos (.inl hbad)])
            clear HS hbad
            go_upto_region 14 with (go_at_call 59; refine (done_any p kb wr rd).mono ?_; rintro e w8 ⟨rfl, rfl⟩; rw [hD])
            all_goals first | omega | skip
            go_wp2_with (first | refine wpList_buildTo rfl 32 _ rfl _ rfl (au ⟨#[]⟩ (.slice none 0 0) 0 0 0) (by kernel_rfl) ?_ | refine wpList_store_rowTo rfl _ _ _ rfl rfl w.heap.size _ rfl rfl _ _ ZZ (info_au _ _ _ _ _) (by simp only [au_size]) (au_one _ _ _ _ _ rfl) ?_)
            all_goals first | omega | skip
            try simp only [Exit.inBlock, Exit.then, Exit.noGoto_ret]
            refine bodyPost_ret (results_row_tmp rfl _ _ w.heap.size _ _ (0, 0) _ rfl (ZZ.row _).1 rfl rfl (info_au _ _ _ _ _)) rfl ?_
            rw [E1.out]
            exact retAut_none (row_own _ ZZ GG (Nat.le_refl _)) rfl
          · have hkb : kb.bad = false ∧ kb.l.length = 0 := by
              cases hk : kb.bad
              · rw [hk] at hD; exact ⟨rfl, by simpa using hD⟩
              · rw [hk] at hD; cases hD
            have HKB := Lib.hid hkb
            clear hkb
            by_cases hx : 1099511627776 < x
            · have E1 := Lib.hid (show R = none by rw [← HS.out, if_pos (.inr (.inl hx))])
              clear HS
              go_upto_region 14 with (go_at_call 59; refine (done_any p kb wr rd).mono ?_; rintro e w8 ⟨rfl, rfl⟩; rw [hD])
              all_goals first | omega | skip
              go_wp2_with (first | refine wpList_buildTo rfl 32 _ rfl _ rfl (au ⟨#[]⟩ (.slice none 0 0) 0 0 0) (by kernel_rfl) ?_ | refine wpList_store_rowTo rfl _ _ _ rfl rfl w.heap.size _ rfl rfl _ _ ZZ (info_au _ _ _ _ _) (by simp only [au_size]) (au_one _ _ _ _ _ rfl) ?_)
              all_goals first | omega | skip
              try simp only [Exit.inBlock, Exit.then, Exit.noGoto_ret]
              refine bodyPost_ret (results_row_tmp rfl _ _ w.heap.size _ _ (0, 0) _ rfl (ZZ.row _).1 rfl rfl (info_au _ _ _ _ _)) rfl ?_
              rw [E1.out]
              exact retAut_none (row_own _ ZZ GG (Nat.le_refl _)) rfl
            by_cases hy : 999999 < y
            · have E1 := Lib.hid (show R = none by rw [← HS.out, if_pos (.inr (.inr hy))])
              clear HS
              go_upto_region 14 with (go_at_call 59; refine (done_any p kb wr rd).mono ?_; rintro e w8 ⟨rfl, rfl⟩; rw [hD])
              all_goals first | omega | skip
              go_wp2_with (first | refine wpList_buildTo rfl 32 _ rfl _ rfl (au ⟨#[]⟩ (.slice none 0 0) 0 0 0) (by kernel_rfl) ?_ | refine wpList_store_rowTo rfl _ _ _ rfl rfl w.heap.size _ rfl rfl _ _ ZZ (info_au _ _ _ _ _) (by simp only [au_size]) (au_one _ _ _ _ _ rfl) ?_)
              all_goals first | omega | skip
              try simp only [Exit.inBlock, Exit.then, Exit.noGoto_ret]
              refine bodyPost_ret (results_row_tmp rfl _ _ w.heap.size _ _ (0, 0) _ rfl (ZZ.row _).1 rfl rfl (info_au _ _ _ _ _)) rfl ?_
              rw [E1.out]
              exact retAut_none (row_own _ ZZ GG (Nat.le_refl _)) rfl
            have E1 := Lib.hid (show R = some ⟨n, x, y, z⟩ by
              rw [← HS.out, if_neg]
              rintro ((h | h) | h | h)
              · rw [HKB.out.1] at h; cases h
              · exact h HKB.out.2
              · exact hx h
              · exact hy h)
            clear HS
            have hwx : IntKind.i64.wrap (x : Int) = (x : Int) := by simp only [IntKind.wrap_i64]; omega
            have hwy : IntKind.u32.wrap (y : Int) = (y : Int) := by simp only [IntKind.wrap_u32]; omega
            have hwz : IntKind.u32.wrap (z : Int) = (z : Int) := by simp only [IntKind.wrap_u32]; omega
            have n0 := NN.cell (i := 0) rfl
            have n1 := NN.cell (i := 1) rfl
            go_upto_region 15 with (go_at_call 59; refine (done_any p kb wr rd).mono ?_; rintro e w8 ⟨rfl, rfl⟩; rw [hD])
            all_goals first | omega | skip
            go_wp2_with (first | refine wpList_buildTo rfl 32 _ rfl _ rfl (au q3 (.slice va3 ss3.length vc3) x y z) (by kernel_rfl) ?_ | refine wpList_store_rowTo rfl _ _ _ rfl rfl w.heap.size _ rfl rfl _ _ ZZ (info_au _ _ _ _ _) (by simp only [au_size]) (au_one _ _ _ _ _ rfl) ?_)
            all_goals first | omega | skip
            try simp only [Exit.inBlock, Exit.then, Exit.noGoto_ret]
            refine bodyPost_ret (results_row_tmp rfl _ _ w.heap.size _ _ (0, 0) _ rfl (ZZ.row _).1 rfl rfl (info_au _ _ _ _ _)) rfl ?_
            rw [E1.out]
            refine ⟨row_own _ ZZ GG (Nat.le_refl _), q3, _, ss3, x, y, z, rfl, ?_, hq3, by omega, hz, ?_⟩
            · exact (OO.only (ZZ.row _).2 (.inr (fun e => by have := (OO.lt _ e).1; omega))).mono hw2
            · show aut q3 ss3 x y z = _
              unfold aut
              rw [hn3]; rfl
  · have E1 := Lib.hid (show R = none by rw [← HR.out]; exact Aut.parse_not2 h1)
    have hne : (((Wir.num ⟨l, false⟩ 1).2 : Int) != 2) = true := by rw [bne_iff_ne]; omega
    generalize (Wir.num ⟨l, false⟩ 1).2 = x1 at *
    go_wp2_with (first | refine wpList_buildTo rfl 32 _ rfl _ rfl (au ⟨#[]⟩ (.slice none 0 0) 0 0 0) (by kernel_rfl) ?_ | refine wpList_store_rowTo rfl _ _ _ rfl rfl w.heap.size _ rfl rfl _ _ Z2 (info_au _ _ _ _ _) (by simp only [au_size]) (au_one _ _ _ _ _ rfl) ?_)
    all_goals first | omega | skip
    try simp only [Exit.inBlock, Exit.then, Exit.noGoto_ret]
    refine bodyPost_ret (results_row_tmp rfl _ _ w.heap.size _ _ (0, 0) _ rfl (Z2.row _).1 rfl rfl (info_au _ _ _ _ _)) rfl ?_
    rw [E1.out]
    exact retAut_none (row_own _ Z2 G2 (Nat.le_refl _)) rfl
end Go.Proofs.YtnhchdkchohnbaaGreatDoor
