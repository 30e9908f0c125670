/- Layer 14: Open, in the program. -/
import Derived.Test.YtnhchdkchohnbaaGreatDoorReqE
namespace Go.Proofs.YtnhchdkchohnbaaGreatDoor
open Go.RowKit Go.Deep

/-- The key of a ticket, as a function. -/
def tkey (t : Tic.T) : Nat → Nat := fun i => t.key.getD i 0
theorem arr_tkey (q : ByteArray) (ss : List ByteArray) (s e : Int) (k : Nat → Nat) : arr .u8 16 k = arr .u8 16 (tkey (tic q ss s e k)) :=
  arr_congr _ _ _ _ fun i hi => (Sea.nl_get 16 k i hi).symm
theorem tkey_b8 {q : ByteArray} {ss : List ByteArray} {s e : Int} {k : Nat → Nat} (h : Aes.B8 k) : Aes.B8 (tkey (tic q ss s e k)) := fun i => by
  unfold tkey tic
  by_cases hi : i < 16
  · dsimp only
    rw [Sea.nl_get 16 k i hi]; exact h i
  · dsimp only
    rw [List.getD, List.getElem?_eq_none (by rw [Sea.nl_length]; omega)]; decide
def Req.opn (key : Nat → Nat) (b : List Nat) : Tic.T × Aut.A × Int :=
  match Req.parse b with
  | none => (tic0, aut0, 1)
  | some p => if (Tic.opn key p.1).2 ≠ 0 then (tic0, aut0, (Tic.opn key p.1).2) else
    if (Aut.opn (tkey (Tic.opn key p.1).1) p.2).2 ≠ 0 then (tic0, aut0, (Aut.opn (tkey (Tic.opn key p.1).1) p.2).2) else ((Tic.opn key p.1).1, (Aut.opn (tkey (Tic.opn key p.1).1) p.2).1, 0)
/-- What Open returns. -/
def RetOpn (w : World) (o : Tic.T × Aut.A × Int) (e : Ending) (w' : World) : Prop :=
  Below w.heap.size w w' ∧ ∃ q u ss s x kt r v tt t m z, e = .returned (.tuple #[.agg (tk q u s x kt), .agg (au r v t m z), .int .i64 o.2.2]) ∧ OwnS w' w.heap.size u ss ∧ OwnS w' w.heap.size v tt ∧ q.size ≤ maxLen ∧ Aes.B8 kt ∧ r.size ≤ maxLen ∧ m < 4294967296 ∧ z < 4294967296 ∧ tic q ss s x kt = o.1 ∧ aut r tt t m z = o.2.1
theorem retOpn_zero {w w' : World} {e : Ending} {c : Int} (h : Below w.heap.size w w') (he : e = .returned (.tuple #[.agg (tk ⟨#[]⟩ (.slice none 0 0) 0 0 (fun _ => 0)), .agg (au ⟨#[]⟩ (.slice none 0 0) 0 0 0), .int .i64 c])) : RetOpn w (tic0, aut0, c) e w' :=
  ⟨h, ⟨#[]⟩, .slice none 0 0, [], 0, 0, fun _ => 0, ⟨#[]⟩, .slice none 0 0, [], 0, 0, 0, he, OwnS.nil _ _, OwnS.nil _ _, Nat.zero_le _, fun _ => (by decide : 0 < 256), Nat.zero_le _, by omega, by omega, rfl, rfl⟩
set_option maxRecDepth 100000 in
set_option maxHeartbeats 4000000 in
theorem rqfail_any (c : Int) (w : World) : Calls Tryz.prog 45 #[.int .i64 c] w fun e w' => e = .returned (.tuple #[.agg (tk ⟨#[]⟩ (.slice none 0 0) 0 0 (fun _ => 0)), .agg (au ⟨#[]⟩ (.slice none 0 0) 0 0 0), .int .i64 c]) ∧ w.grownBy w' none := by
  have z0 := (Hb.new w (tk ⟨#[]⟩ (.slice none 0 0) 0 0 (fun _ => 0)) 41).alloc (.cells (au ⟨#[]⟩ (.slice none 0 0) 0 0 0) 32)
  have y0 := Hb.new (w.alloc (.cells (tk ⟨#[]⟩ (.slice none 0 0) 0 0 (fun _ => 0)) 41)) (au ⟨#[]⟩ (.slice none 0 0) 0 0 0) 32
  simp only [World.size_alloc] at y0
  have G0 := only_alloc (only_alloc (only_refl w none) (.cells (tk ⟨#[]⟩ (.slice none 0 0) 0 0 (fun _ => 0)) 41)) (.cells (au ⟨#[]⟩ (.slice none 0 0) 0 0 0) 32)
  go_enter Tryz.func45, Tryz.ntmps45
  go_upto_region 1 with fail
  rw [tk0, au0]
  generalize (w.alloc (.cells (tk ⟨#[]⟩ (.slice none 0 0) 0 0 (fun _ => 0)) 41)).alloc (.cells (au ⟨#[]⟩ (.slice none 0 0) 0 0 0) 32) = V at *
  obtain ⟨ba, hb⟩ : ∃ n, n = w.heap.size + 1 := ⟨_, rfl⟩
  rw [← hb] at y0 ⊢
  have hne : ba ≠ w.heap.size := by omega
  have hba : w.heap.size ≤ ba := by omega
  clear hb
  have y1 := y0.keep (z0.row (tk ⟨#[]⟩ (.slice none 0 0) 0 0 (fun _ => 0))).2 (by simp; omega)
  go_wp2_with (first | refine wpList_buildTo rfl 41 _ rfl _ rfl (tk ⟨#[]⟩ (.slice none 0 0) 0 0 (fun _ => 0)) (by kernel_rfl) ?_ | refine wpList_buildTo rfl 32 _ rfl _ rfl (au ⟨#[]⟩ (.slice none 0 0) 0 0 0) (by kernel_rfl) ?_ | refine wpList_store_rowTo rfl _ _ _ rfl rfl w.heap.size _ rfl rfl _ _ z0 (info_tk _ _ _ _ _) (by simp only [tk_size]) (tk_one _ _ _ _ _ rfl) ?_ | refine wpList_store_rowTo rfl _ _ _ rfl rfl ba _ rfl rfl _ _ y1 (info_au _ _ _ _ _) (by simp only [au_size]) (au_one _ _ _ _ _ rfl) ?_)
  try simp only [Exit.inBlock, Exit.then, Exit.noGoto_ret]
  refine bodyPost_ret (results_rows_tmp rfl _ _ w.heap.size ba _ _ _ _ (0, 0) (0, 0) _ _ rfl ((z0.row _).1.keep (y1.row _).2 (by simp; omega)) rfl rfl (info_tk _ _ _ _ _) rfl (y1.row _).1 rfl rfl (info_au _ _ _ _ _)) rfl ?_
  exact ⟨rfl, grown_new (grown_new G0 (z0.row _).2 (Nat.le_refl _)) (y1.row _).2 hba⟩
theorem setRow_same {w : World} {b : Nat} {cs : Array Value} {t : TypeId} (h : Hb w b cs t) : w.setRow b cs = w := by
  have e : (w.setRow b cs).heap = w.heap := Array.ext_getElem? fun k => by
    by_cases e : k = b
    · subst e; exact (setRow_heap _ _ _ _ _ _ h).trans h.symm
    · simp [World.setRow, Array.getElem?_modify, Ne.symm e]
  unfold World.setRow at e ⊢
  dsimp only at e
  rw [e]
/-- A store of the row that is there already. -/
theorem reg_store_same {ops : Array Oper} {S : World → Prop} {K : Act → World → Prop} {n : Nat} {listed : Array Bool} {a : Act} {w : World} (i : Nat) (hr : Region.ready .any ops listed = [i]) (h1 : Nat.blt i ops.size = true) (hw : Region.wanted (opn ops i) (yielded ops a.tmps) = true) (ty : TypeId) (x y : Operand)
    (ho : (opn ops i).op = .store ty x y) (hd : (opn ops i).dst = none) (g : Nat) (cells : Array Value) (hx : a.eval x = .pointer (some ⟨g, 0, none⟩)) (hy : a.eval y = .agg cells) (t : TypeId) (hg : Hb w g cells t) (hi : (Tryz.prog.info? ty).map (·.size) = some cells.size) (hone : cells.all (·.oneCell') = true) (hS : S w)
    (h : wpAnyH Tryz.prog .any ops (nq K) S n (listed.setIfInBounds i true) a w) : wpAnyH Tryz.prog .any ops (nq K) S (n + 1) listed a w :=
  reg_one i hr h1 (HStep.of_law #[] hw fun K' hK => wpList_store_rowTo rfl ty x y ho hd g cells hx hy t cells hg hi rfl hone (lawQ_done (by rw [setRow_same hg]; exact hK _ _ hS h)))
theorem open_boxes (w : World) (f : Nat → Nat) : ∃ W : World, W = ((w.alloc (.cells (arr .u8 16 f) 22)).alloc (.cells (tk ⟨#[]⟩ (.slice none 0 0) 0 0 (fun _ => 0)) 41)).alloc (.cells (au ⟨#[]⟩ (.slice none 0 0) 0 0 0) 32) ∧
    isArr W w.heap.size 22 .u8 16 f ∧ Hb W (w.heap.size + 1) (tk ⟨#[]⟩ (.slice none 0 0) 0 0 (fun _ => 0)) 41 ∧ Hb W (w.heap.size + 1 + 1) (au ⟨#[]⟩ (.slice none 0 0) 0 0 0) 32 ∧ w.grownBy W none := by
  have a := isArr_new w 22 .u8 16 f
  have b := Hb.new (w.alloc (.cells (arr .u8 16 f) 22)) (tk ⟨#[]⟩ (.slice none 0 0) 0 0 (fun _ => 0)) 41
  have c := Hb.new ((w.alloc (.cells (arr .u8 16 f) 22)).alloc (.cells (tk ⟨#[]⟩ (.slice none 0 0) 0 0 (fun _ => 0)) 41)) (au ⟨#[]⟩ (.slice none 0 0) 0 0 0) 32
  simp only [World.size_alloc] at b c
  exact ⟨_, rfl, (a.alloc _).alloc _, b.alloc _, c, only_alloc (only_alloc (only_alloc (only_refl w none) _) _) _⟩
set_option maxRecDepth 100000 in
set_option maxHeartbeats 8000000 in
theorem rqopen_any (key : Nat → Nat) (v : Value) (l : List Nat) (w : World) (hk : Aes.B8 key) (hv : Rs w v l) (hl : l.length ≤ 1000000) (hK : Consts w Sha.tab) :
    Calls Tryz.prog 18 #[.agg (arr .u8 16 key), v] w (RetOpn w (Req.opn key l)) := by
  have HK := Lib.hid hK; clear hK
  obtain ⟨a, cap, rfl⟩ := hv.form
  have HV := Lib.hid hv; clear hv
  have s1 := arr_size .u8 16 key
  obtain ⟨V, hV, a0, t0, z0, G0⟩ := open_boxes w key
  generalize hR : Req.opn key l = R
  have HR := Lib.hid hR; clear hR
  go_enter Tryz.func18, Tryz.ntmps18
  go_upto_region 1 with fail
  rw [tk0, au0, ← hV]
  clear hV
  obtain ⟨ba, hba0⟩ : ∃ n, n = w.heap.size + 1 + 1 := ⟨_, rfl⟩
  rw [← hba0] at z0 ⊢
  obtain ⟨bt, hbt0⟩ : ∃ n, n = w.heap.size + 1 := ⟨_, rfl⟩
  rw [← hbt0] at t0 ⊢
  have hbt : w.heap.size ≤ bt := by omega
  have hba : w.heap.size ≤ ba := by omega
  have hlt : bt < ba := by omega
  have hkb : w.heap.size < bt := by omega
  have hza := z0.lt
  clear hba0 hbt0
  go_wp2_with fail
  refine (rqparse_any _ l V (HV.out.below (below_of_only G0)) (by omega)).mono ?_
  rintro e w1 ⟨hb1, u1, v1, x, y, rfl, ox, oy, hxy⟩
  obtain ⟨ua, uc, rfl⟩ := ox.form
  obtain ⟨va, vc, rfl⟩ := oy.form
  have F := fresh_row w1 #[.slice none 0 0, .slice none 0 0] #[.slice ua x.length uc, .slice va y.length vc] 59
  have F1 := only_trans (only_of_below hb1 none) F.2
  have a2 := isArr.only a0 F1
  have t2 := t0.only F1
  have z2 := z0.only F1
  have G2 := only_trans G0 F1
  have Q2 := F.1
  have ox2 := ox.below (below_of_only F.2)
  have oy2 := oy.below (below_of_only F.2)
  have hbq := hb1.size
  clear a0 t0 z0 G0 F1 hb1 ox oy
  go_upto_region 3 with (refine wpList_store_rowTo rfl _ _ _ rfl rfl w1.heap.size _ rfl rfl _ _ (heap_alloc_new _ _) (info_rq _ _) (by rfl) (rq_one _ _ rfl rfl) ?_)
  generalize World.setRow _ w1.heap.size _ = W2 at *
  generalize w1.heap.size = bq at *
  clear F
  generalize V.heap.size = B at *
  cases hp : Req.parse l with
  | none =>
    have E1 := Lib.hid (show R = (tic0, aut0, 1) by rw [← HR.out]; unfold Req.opn; rw [hp])
    clear HR hxy hp a2 Q2 ox2 oy2
    go_wp2_with fail
    refine (rqfail_any 1 _).mono ?_
    rintro e wf ⟨rfl, gf⟩
    have zf := t2.only gf
    have yf := (z2.only gf).keep (zf.row (tk ⟨#[]⟩ (.slice none 0 0) 0 0 (fun _ => 0))).2 (by simp; omega)
    have Gf := only_trans G2 gf
    go_wp2_with (first | refine wpList_store_rowTo rfl _ _ _ rfl rfl bt _ rfl rfl _ _ zf (info_tk _ _ _ _ _) (by simp only [tk_size]) (tk_one _ _ _ _ _ rfl) ?_ | refine wpList_store_rowTo rfl _ _ _ rfl rfl ba _ rfl rfl _ _ yf (info_au _ _ _ _ _) (by simp only [au_size]) (au_one _ _ _ _ _ rfl) ?_)
    try simp only [Exit.inBlock, Exit.then, Exit.noGoto_ret]
    refine bodyPost_ret (results_rows_tmp rfl _ _ bt ba _ _ _ _ (0, 0) (0, 0) _ _ rfl ((zf.row _).1.keep (yf.row _).2 (by simp; omega)) rfl rfl (info_tk _ _ _ _ _) rfl (yf.row _).1 rfl rfl (info_au _ _ _ _ _)) rfl ?_
    rw [E1.out]
    exact retOpn_zero (below_of_only (grown_new (grown_new Gf (zf.row _).2 hbt) (yf.row _).2 hba)) rfl
  | some p =>
    have hps := Req.bytes_some (Req.parse_some HV.out.1 (show Req.parse l = some (p.1, p.2) by rw [hp]))
    rw [hp] at hxy
    obtain rfl : (x, y) = p := hxy
    dsimp only at hps
    have HL := Lib.hid (show x.length ≤ 1000000 ∧ y.length ≤ 1000000 by omega)
    have HR2 := Lib.hid (show (if (Tic.opn key x).2 ≠ 0 then (tic0, aut0, (Tic.opn key x).2) else if (Aut.opn (tkey (Tic.opn key x).1) y).2 ≠ 0 then (tic0, aut0, (Aut.opn (tkey (Tic.opn key x).1) y).2) else ((Tic.opn key x).1, (Aut.opn (tkey (Tic.opn key x).1) y).1, 0)) = R by
      rw [← HR.out]; unfold Req.opn; rw [hp])
    clear HR hp hps
    have c0 : W2.cell? ⟨bq, 0, none⟩ = some (.slice ua x.length uc) := Q2.cell (i := 0) rfl
    go_wp2_with (refine wpList_load_row rfl _ _ rfl w.heap.size rfl _ _ (0, 0) _ a2 rfl rfl (info16s _) ?_)
    refine (tkopen_any key _ x W2 hk ox2.bs.rs HL.out.1 (HK.out.below (below_of_only G2))).mono ?_
    rintro e w3 ⟨hb3, q, u, ss, s, xx, kt, rfl, o3, hq, hkt, htt⟩
    obtain ⟨u3, c3, rfl⟩ := o3.ss.form
    have g3 := only_of_below hb3 none
    have t3 := t2.only g3
    have z3 := z2.only g3
    have G3 := only_trans G2 g3
    have hgs : (tk q (.slice u3 ss.length c3) s xx kt).size = 20 := tk_size _ _ _ _ _
    have hw2 := G2.size
    have hta := t2.lt
    have hza2 := z2.lt
    have T4 := t3.row (tk q (.slice u3 ss.length c3) s xx kt)
    have z4 := z3.keep T4.2 (by simp; omega)
    have G4 := grown_new G3 T4.2 hbt
    have O4 := Lib.hid (o3.only T4.2 (.inr (fun e => by have := (o3.lt bt e).1; omega)))
    have HO4 := Lib.hid (show ∀ g, (Value.slice u3 ss.length c3).ownBlock = some g → ba < g from fun g e => by have := (o3.lt g e).1; omega)
    have ox4 := (ox2.below hb3).only T4.2 (.inr (fun e => by have := (ox2.lt bt e).1; omega))
    have oy4 := (oy2.below hb3).only T4.2 (.inr (fun e => by have := (oy2.lt bt e).1; omega))
    have Q4 := (Q2.only g3).keep T4.2 (by simp; omega)
    clear a2 z2 G2 Q2 c0 hb3 o3 g3 z3 G3 ox2 oy2
    generalize Tic.opn key x = C at *
    obtain ⟨tv, tc⟩ := C
    dsimp only at htt HR2 ⊢
    go_upto_region 6 with refine wpList_store_rowTo rfl _ _ _ rfl rfl bt _ rfl rfl _ _ t3 (info_tk _ _ _ _ _) (by simp only [tk_size]) (tk_one _ _ _ _ _ rfl) ?_
    generalize hW4 : World.setRow _ bt _ = W4 at *
    clear hW4
    by_cases hc : tc = 0
    rotate_left
    · have E1 := Lib.hid (show R = (tic0, aut0, tc) by rw [← HR2.out, if_pos hc])
      have hne : (tc != 0) = true := by rw [bne_iff_ne]; exact hc
      have tz := T4.1
      clear HR2 htt Q4 O4 ox4 oy4 T4
      go_wp2_with fail
      refine (rqfail_any tc _).mono ?_
      rintro e wf ⟨rfl, gf⟩
      have zf := tz.only gf
      have yf := (z4.only gf).keep (zf.row (tk ⟨#[]⟩ (.slice none 0 0) 0 0 (fun _ => 0))).2 (by simp; omega)
      have Gf := only_trans G4 gf
      go_wp2_with (first | refine wpList_store_rowTo rfl _ _ _ rfl rfl bt _ rfl rfl _ _ zf (info_tk _ _ _ _ _) (by simp only [tk_size]) (tk_one _ _ _ _ _ rfl) ?_ | refine wpList_store_rowTo rfl _ _ _ rfl rfl ba _ rfl rfl _ _ yf (info_au _ _ _ _ _) (by simp only [au_size]) (au_one _ _ _ _ _ rfl) ?_)
      try simp only [Exit.inBlock, Exit.then, Exit.noGoto_ret]
      refine bodyPost_ret (results_rows_tmp rfl _ _ bt ba _ _ _ _ (0, 0) (0, 0) _ _ rfl ((zf.row _).1.keep (yf.row _).2 (by simp; omega)) rfl rfl (info_tk _ _ _ _ _) rfl (yf.row _).1 rfl rfl (info_au _ _ _ _ _)) rfl ?_
      rw [E1.out]
      exact retOpn_zero (below_of_only (grown_new (grown_new Gf (zf.row _).2 hbt) (yf.row _).2 hba)) rfl
    subst hc
    have HR3 := Lib.hid (show (if (Aut.opn (tkey tv) y).2 ≠ 0 then (tic0, aut0, (Aut.opn (tkey tv) y).2) else (tv, (Aut.opn (tkey tv) y).1, 0)) = R by rw [← HR2.out]; exact (if_neg (fun h : (0 : Int) ≠ 0 => h rfl)).symm)
    have hkk : arr .u8 16 kt = arr .u8 16 (tkey tv) := by rw [← htt]; exact arr_tkey _ _ _ _ _
    have hk8 : Aes.B8 (tkey tv) := by rw [← htt]; exact tkey_b8 hkt
    have ck : ∀ j v, (arr .u8 16 (tkey tv))[j]? = some v → W4.cell? ((⟨bt, 4, none⟩ : Addr).add j) = some v := fun j v hj => by
      rw [← hkk] at hj
      rw [Addr.add_lit]
      exact T4.1.cell ((tk_key _ _ _ _ _ j).trans hj)
    have CK := Lib.hid ck
    have HTT := Lib.hid htt
    have s2 := arr_size .u8 16 (tkey tv)
    have T5 := T4.1
    clear HR2 hkk ck htt T4
    generalize tkey tv = kk at *
    have c1 : W4.cell? ⟨bq, 1, none⟩ = some (.slice va y.length vc) := Q4.cell (i := 1) rfl
    go_wp2_with (refine wpList_load_arrG (by kernel_rfl) _ _ rfl ⟨bt, 4, none⟩ rfl _ _ CK.out rfl rfl (info16s _) ?_)
    refine (auopen_any kk _ y W4 hk8 oy4.bs.rs HL.out.2 (HK.out.below (below_of_only G4))).mono ?_
    rintro e w5 ⟨hb5, r, v, tt, t, m, z, rfl, o5, hr, hm, hz, hat⟩
    obtain ⟨u5, c5, rfl⟩ := o5.ss.form
    have g5 := only_of_below hb5 none
    have t5 := T5.only g5
    have z5 := z4.only g5
    have G5 := only_trans G4 g5
    have hgs2 : (au r (.slice u5 tt.length c5) t m z).size = 5 := au_size _ _ _ _ _
    have hw4 := G4.size
    have hz4 := z4.lt
    have Z6 := z5.row (au r (.slice u5 tt.length c5) t m z)
    have t6 := t5.keep Z6.2 (by simp; omega)
    have G6 := grown_new G5 Z6.2 hba
    have P6 := o5.only Z6.2 (.inr (fun e => by have := (o5.lt ba e).1; omega))
    have HP6 := Lib.hid (show ∀ g, (Value.slice u5 tt.length c5).ownBlock = some g → W4.heap.size ≤ g from fun g e => (o5.lt g e).1)
    have O6 := (O4.out.below hb5).only Z6.2 (.inr (fun e => by have := HO4.out ba e; omega))
    clear c1 z4 G4 Q4 O4 ox4 oy4 hb5 o5 g5 G5 T5 t5 CK
    generalize Aut.opn kk y = D at *
    obtain ⟨av, ac⟩ := D
    dsimp only at hat HR3 ⊢
    go_upto_region 9 with refine wpList_store_rowTo rfl _ _ _ rfl rfl ba _ rfl rfl _ _ z5 (info_au _ _ _ _ _) (by simp only [au_size]) (au_one _ _ _ _ _ rfl) ?_
    generalize hW6 : World.setRow _ ba _ = W6 at *
    clear hW6
    by_cases hc : ac = 0
    rotate_left
    · have E1 := Lib.hid (show R = (tic0, aut0, ac) by rw [← HR3.out, if_pos hc])
      have hne : (ac != 0) = true := by rw [bne_iff_ne]; exact hc
      have az := Z6.1
      clear HR3 hat O6 P6 HP6 Z6
      go_wp2_with fail
      refine (rqfail_any ac _).mono ?_
      rintro e wf ⟨rfl, gf⟩
      have zf := t6.only gf
      have yf := (az.only gf).keep (zf.row (tk ⟨#[]⟩ (.slice none 0 0) 0 0 (fun _ => 0))).2 (by simp; omega)
      have Gf := only_trans G6 gf
      go_wp2_with (first | refine wpList_store_rowTo rfl _ _ _ rfl rfl bt _ rfl rfl _ _ zf (info_tk _ _ _ _ _) (by simp only [tk_size]) (tk_one _ _ _ _ _ rfl) ?_ | refine wpList_store_rowTo rfl _ _ _ rfl rfl ba _ rfl rfl _ _ yf (info_au _ _ _ _ _) (by simp only [au_size]) (au_one _ _ _ _ _ rfl) ?_)
      try simp only [Exit.inBlock, Exit.then, Exit.noGoto_ret]
      refine bodyPost_ret (results_rows_tmp rfl _ _ bt ba _ _ _ _ (0, 0) (0, 0) _ _ rfl ((zf.row _).1.keep (yf.row _).2 (by simp; omega)) rfl rfl (info_tk _ _ _ _ _) rfl (yf.row _).1 rfl rfl (info_au _ _ _ _ _)) rfl ?_
      rw [E1.out]
      exact retOpn_zero (below_of_only (grown_new (grown_new Gf (zf.row _).2 hbt) (yf.row _).2 hba)) rfl
    subst hc
    have E1 := Lib.hid (show R = (tv, av, 0) by rw [← HR3.out]; exact if_neg (fun h : (0 : Int) ≠ 0 => h rfl))
    have Z7 := Z6.1
    clear HR3 Z6
    go_upto_region 11 with fail
    have t7 : Hb (W6.drewN 1) bt (tk q (.slice u3 ss.length c3) s xx kt) 41 := t6
    have z7 : Hb (W6.drewN 1) ba (au r (.slice u5 tt.length c5) t m z) 32 := Z7
    have G7 : w.grownBy (W6.drewN 1) none := only_drewN G6 1
    have O7 : OwnS (W6.drewN 1) W2.heap.size (.slice u3 ss.length c3) ss := O6
    have P7 : OwnS (W6.drewN 1) W4.heap.size (.slice u5 tt.length c5) tt := P6
    generalize hV7 : W6.drewN 1 = V7 at *
    refine wp_reg Tryz.f18 11 5 (fun w' => w' = V7) (by kernel_rfl) (by kernel_rfl) (by kernel_rfl) hV7 (fun K hK h0 => ?_)
    refine reg_cast (listed' := #[false, false, false, false, false]) (by kernel_rfl) rfl ?_
    have HF := Lib.hid hK; clear hK
    rw [hV7]
    have h0 : V7 = V7 := rfl
    refine reg_load 0 53 (by kernel_rfl) 41 (.tmp 4) (by kernel_rfl) ⟨bt, 0, none⟩ (by kernel_rfl) (tk q (.slice u3 ss.length c3) s xx kt) _ (fun w' hw' j v hj => by subst hw'; rw [Addr.add_lit, Nat.zero_add]; exact t7.cell hj) Tryz.underlying41 rfl (by kernel_rfl) h0 ?_
    simp only [Act.put, List.setIfInBounds_toArray, List.set_cons_zero, List.set_cons_succ]
    refine reg_load 1 54 (by kernel_rfl) 32 (.tmp 5) (by kernel_rfl) ⟨ba, 0, none⟩ (by kernel_rfl) (au r (.slice u5 tt.length c5) t m z) _ (fun w' hw' j v hj => by subst hw'; rw [Addr.add_lit, Nat.zero_add]; exact z7.cell hj) Tryz.underlying32 rfl (by kernel_rfl) h0 ?_
    simp only [Act.put, List.setIfInBounds_toArray, List.set_cons_zero, List.set_cons_succ]
    refine reg_store_same 2 (by kernel_rfl) (by kernel_rfl) (by kernel_rfl) 41 (.tmp 4) (.tmp 53) (by kernel_rfl) (by kernel_rfl) bt _ (by kernel_rfl) (by kernel_rfl) _ t7 (info_tk _ _ _ _ _) (tk_one _ _ _ _ _ rfl) h0 ?_
    refine reg_store_same 3 (by kernel_rfl) (by kernel_rfl) (by kernel_rfl) 32 (.tmp 5) (.tmp 54) (by kernel_rfl) (by kernel_rfl) ba _ (by kernel_rfl) (by kernel_rfl) _ z7 (info_au _ _ _ _ _) (au_one _ _ _ _ _ rfl) h0 ?_
    simp only [List.setIfInBounds_toArray, List.set_cons_zero, List.set_cons_succ]
    refine reg_take 4 6 (.int .i64 0) (by kernel_rfl) (fun _ _ => by kernel_rfl) h0 ?_
    simp only [Act.put, List.setIfInBounds_toArray, List.set_cons_zero, List.set_cons_succ]
    refine reg_done (by kernel_rfl) (HF.out _ _ ?_)
    go_wp2_with fail
    try simp only [Exit.inBlock, Exit.then, Exit.noGoto_ret]
    refine bodyPost_ret (results_rows_tmp rfl _ _ bt ba _ _ _ _ (0, 0) (0, 0) _ _ rfl t7 rfl rfl (info_tk _ _ _ _ _) rfl z7 rfl rfl (info_au _ _ _ _ _)) rfl ?_
    rw [E1.out]
    exact ⟨below_of_only G7, q, _, ss, s, xx, kt, r, _, tt, t, m, z, rfl, O7.mono hw2, P7.mono hw4, hq, hkt, hr, hm, hz, HTT.out, hat⟩
end Go.Proofs.YtnhchdkchohnbaaGreatDoor
