/- Layers 12 to 14: Make and Few of the reference; what the laws' awake of layer 12 answers. -/
import Derived.Test.YtnhchdkchohnbaaGreatDoorTicF
import Derived.Test.YtnhchdkchohnbaaGreatDoorAwkMath
import Derived.Test.YtnhchdkchohnbaaGreatDoorTN6
namespace Go.Proofs.YtnhchdkchohnbaaGreatDoor
open Go.RowKit Go.Deep

theorem wpList_buildG {P : Program} {ops : Array Oper} {rest : List Oper} {o : Oper} {a : Act} {w : World} {Q : Exit → Act → World → Prop} (hw : Region.wanted o (yielded ops a.tmps) = true) (t : TypeId) (parts : Array (Nat × Operand)) (ho : o.op = .build t parts)
    (d : Option Tmp) (hd : o.dst = d) (cells : Array Value) (hf : P.built t (parts.map fun (i, x) => (i, a.eval x)).toList = some cells)
    (h : wpList P ops Q rest (a.put d (.agg cells)) w) : wpList P ops Q (o :: rest) a w := by
  subst hd
  refine wpList_step fun K hK => ?_
  rw [if_pos hw]
  unfold Oper.wp execOp
  simp only [ho, Sem.run_bind, run_build w _ _ _ hf, Result.andThen_ok, Sem.run_pure]
  exact hK _ _ h
def wordsC : Array Value := #[.string ⟨#[104, 111, 115, 116]⟩, .string ⟨#[97, 47, 98]⟩, .string ⟨#[120]⟩, .string ⟨#[64]⟩, .string ⟨#[97, 108, 105, 99, 101]⟩, .string ⟨#[102, 116, 112]⟩, .string ⟨#[92]⟩, .string ⟨#[119, 119, 119, 46, 101, 120, 97, 109, 112, 108, 101]⟩]
set_option maxRecDepth 100000 in
set_option maxHeartbeats 4000000 in
theorem make4_any (w : World) : Calls Tryz.prog 26 #[.int .i64 4] w fun e w' => ∃ v, e = .returned (.agg #[.string aliceS, v]) ∧ OwnS w' w.heap.size v [hostS] ∧ w.grownBy w' none := by
  have z0 := ((Hb.new w #[.string ⟨#[]⟩, .slice none 0 0] 29).alloc (.cells wordsC 9)).alloc (.cells #[.string aliceS, .slice none 0 0] 29)
  have k0 := (Hb.new (w.alloc (.cells #[.string ⟨#[]⟩, .slice none 0 0] 29)) wordsC 9).alloc (.cells #[.string aliceS, .slice none 0 0] 29)
  have n0 := Hb.new ((w.alloc (.cells #[.string ⟨#[]⟩, .slice none 0 0] 29)).alloc (.cells wordsC 9)) #[.string aliceS, .slice none 0 0] 29
  have G0 := only_alloc (only_alloc (only_alloc (only_refl w none) (.cells #[.string ⟨#[]⟩, .slice none 0 0] 29)) (.cells wordsC 9)) (.cells #[.string aliceS, .slice none 0 0] 29)
  have hs0 : (((w.alloc (.cells #[.string ⟨#[]⟩, .slice none 0 0] 29)).alloc (.cells wordsC 9)).alloc (.cells #[.string aliceS, .slice none 0 0] 29)).heap.size = w.heap.size + 1 + 1 + 1 := by simp
  simp only [World.size_alloc] at z0 k0 n0
  go_enter Tryz.func26, Tryz.ntmps26
  go_wp2_with fail
  generalize hV : ((w.alloc (.cells #[.string ⟨#[]⟩, .slice none 0 0] 29)).alloc (.cells wordsC 9)).alloc (.cells #[.string aliceS, .slice none 0 0] 29) = V at *
  rw [show ((w.alloc (.cells #[.string ⟨#[]⟩, .slice none 0 0] 29)).alloc (.cells #[.string ⟨#[104, 111, 115, 116]⟩, .string ⟨#[97, 47, 98]⟩, .string ⟨#[120]⟩, .string ⟨#[64]⟩, .string ⟨#[97, 108, 105, 99, 101]⟩, .string ⟨#[102, 116, 112]⟩, .string ⟨#[92]⟩, .string ⟨#[119, 119, 119, 46, 101, 120, 97, 109, 112, 108, 101]⟩] 9)).alloc (.cells #[.string ⟨#[97, 108, 105, 99, 101]⟩, .slice none 0 0] 29) = V from hV]
  clear hV
  go_loopw [5] (fun x wr => ∃ (j : Int) (v : Value) (ss : List ByteArray), x = .int .i64 j ∧ ((j = 0 ∧ v = .slice none 0 0 ∧ ss = []) ∨ (j = 1 ∧ ss = [hostS])) ∧ Hb wr w.heap.size #[.string ⟨#[]⟩, .slice none 0 0] 29 ∧ Hb wr (w.heap.size + 1) wordsC 9 ∧ Hb wr (w.heap.size + 1 + 1) #[.string aliceS, v] 29 ∧ OwnS wr (w.heap.size + 1 + 1 + 1) v ss ∧ w.grownBy wr none ∧ w.heap.size + 1 + 1 + 1 ≤ wr.heap.size) (fun x _ => 2 - (intOf x).toNat)
  case atStart => exact ⟨0, _, [], rfl, .inl ⟨rfl, rfl, rfl⟩, z0, k0, n0, OwnS.nil _ _, G0, Nat.le_of_eq hs0.symm⟩
  case round =>
    obtain ⟨j, v, ss, rfl, hj, hz, hk, hn, ho, hg, hsz⟩ := hrel
    clear z0 k0 n0 G0 hs0
    rcases hj with ⟨rfl, rfl, rfl⟩ | ⟨rfl, rfl⟩
    · have m1 := hn.cell (i := 1) rfl
      have c0 := hk.cell (i := 0) rfl
      have hnd : Hb wr.drew (w.heap.size + 1 + 1) #[.string aliceS, .slice none 0 0] 29 := hn
      have m1d : wr.drew.cell? ⟨w.heap.size + 1 + 1, 1, none⟩ = some (.slice none 0 0) := m1
      have c0d : wr.drew.cell? ⟨w.heap.size + 1, 0, none⟩ = some (.string ⟨#[104, 111, 115, 116]⟩) := c0
      have m1e : (wr.alloc (.cells #[.string ⟨#[104, 111, 115, 116]⟩] 9)).cell? ⟨w.heap.size + 1 + 1, 1, none⟩ = some (.slice none 0 0) := (hn.alloc _).cell (i := 1) rfl
      have w0 : IntKind.i64.wrap 0 = 0 := by decide
      have w8 : IntKind.i64.wrap 8 = 8 := by decide
      go_wp2_with fail
      go_region_law (refine law_if rfl ?_; refine wpList_append_one rfl _ _ rfl (w.heap.size + 1 + 1 + 1) (.slice none 0 0) [] rfl (OwnS.nil _ _) wr.heap.size hostS (by decide) rfl (cell_new wr.drew #[.string hostS] 9 0 _ rfl) (by simp) (Nat.le_trans hsz (by simp)) ?_; intro a3 c3 w5 hown5 hgr5; have q1 := (hnd.alloc (.cells #[.string hostS] 9)).keep hgr5 (by simp [Value.ownBlock]); have x5 := q1.cell (i := 1) rfl; have y5 := q1.frozen 1; refine lawQ_done ?_)
      all_goals (
        go_wp2_with fail
        go_roundw
        case rel =>
          have gd : w.grownBy (wr.drew.alloc (.cells #[.string hostS] 9)) none := only_alloc (w := wr.drew) ⟨hg.os, hg.tape, hg.output, hg.size, hg.block⟩ _
          have hzd : Hb (wr.drew.alloc (.cells #[.string hostS] 9)) w.heap.size #[.string ⟨#[]⟩, .slice none 0 0] 29 := Hb.alloc (w := wr.drew) hz _
          have hkd : Hb (wr.drew.alloc (.cells #[.string hostS] 9)) (w.heap.size + 1) wordsC 9 := Hb.alloc (w := wr.drew) hk _
          have hgr5 : (wr.drew.alloc (.cells #[.string hostS] 9)).grownBy w5 none := hgr5
          refine ⟨1, _, [hostS], rfl, .inr ⟨rfl, rfl⟩, (hzd.only hgr5).far (p := ⟨w.heap.size + 1 + 1, 1, none⟩) (by show w.heap.size ≠ w.heap.size + 1 + 1; omega) _, (hkd.only hgr5).far (p := ⟨w.heap.size + 1 + 1, 1, none⟩) (by show w.heap.size + 1 ≠ w.heap.size + 1 + 1; omega) _, q1.set 1 _, hown5.setCell (p := ⟨w.heap.size + 1 + 1, 1, none⟩) (Nat.lt_succ_self _) _, fresh_set (only_trans gd hgr5) (by show w.heap.size ≤ w.heap.size + 1 + 1; omega) _, ?_⟩
          have h5 := hgr5.size
          simp at h5 ⊢
          omega
        case measure => decide)
    · have m0 := hn.cell (i := 0) rfl
      have m1 := hn.cell (i := 1) rfl
      obtain ⟨va, vc, rfl⟩ := ho.ss.form
      obtain ⟨x0, x1, x2, x3, x4, x5⟩ := hz.two (.string aliceS)
      go_wp2_with fail
      try simp only [Exit.inBlock, Exit.then, Exit.noGoto_ret]
      refine bodyPost_ret (results_cell_row rfl _ _ w.heap.size _ _ (0, 0) _ rfl ((hz.set 0 _).set 1 _) rfl rfl info_name) rfl ?_
      exact ⟨_, rfl, ((ho.setCell (p := ⟨w.heap.size, 0, none⟩) (by show w.heap.size < w.heap.size + 1 + 1 + 1; omega) _).setCell (p := ⟨w.heap.size, 1, none⟩) (by show w.heap.size < w.heap.size + 1 + 1 + 1; omega) _).mono (by omega), fresh_set (fresh_set hg (Nat.le_refl _) _) (Nat.le_refl _) _⟩

theorem tk_set2 (r : ByteArray) (u : Value) (s e s' : Int) (key : Nat → Nat) : (tk r u s e key).setIfInBounds 2 (.int .i64 s') = tk r u s' e key := by
  unfold tk
  rw [Array.setIfInBounds_append_left (by simp)]; rfl
theorem Ss.far {w : World} {v : Value} {ss : List ByteArray} (h : Ss w v ss) {p : Addr} (hp : ∀ g, v.ownBlock = some g → g ≠ p.block) (x : Value) : Ss (w.setCell p x) v ss := by
  obtain ⟨h0, h1, h | ⟨ad, cap, rfl, hcap, hc⟩⟩ := h
  · exact ⟨h0, h1, .inl h⟩
  · refine ⟨h0, h1, .inr ⟨ad, cap, rfl, hcap, fun i hi => ?_⟩⟩
    have hb : (ad.add i).block = ad.block := by unfold Addr.add; split <;> rfl
    exact (World.cell?_of_block (Below.heap_setCell w p x (ad.add i).block (by rw [hb]; exact hp ad.block rfl))).trans (hc i hi)
theorem Tb.far {W : World} {b : Nat} {r : ByteArray} {u : Value} {ss : List ByteArray} {s e : Int} {key : Nat → Nat} (h : Tb W b r u ss s e key) {p : Addr} (hb : b ≠ p.block) (hu : ∀ g, u.ownBlock = some g → g ≠ p.block) (x : Value) : Tb (W.setCell p x) b r u ss s e key := ⟨h.1.far hb x, h.2.1.far hu x, h.2.2⟩
theorem Tb.start {W : World} {b : Nat} {r : ByteArray} {u : Value} {ss : List ByteArray} {s e : Int} {key : Nat → Nat} (h : Tb W b r u ss s e key) (hu : ∀ g, u.ownBlock = some g → g ≠ b) (s' : Int) : Tb (W.setCell ⟨b, 2, none⟩ (.int .i64 s')) b r u ss s' e key := by
  refine ⟨?_, h.2.1.far hu _, h.2.2⟩
  have := h.1.set 2 (.int .i64 s')
  rwa [tk_set2] at this
theorem Tic.opn_no {key : Nat → Nat} {s : List Nat} (h : Sea.op key 2 s = none) : Tic.opn key s = (tic0, 2) := by unfold Tic.opn; rw [h]
theorem Tic.opn_yes {key : Nat → Nat} {s b : List Nat} {t : Tic.T} (h : Sea.op key 2 s = some b) (h2 : Tic.parse b = some t) : Tic.opn key s = (t, 0) := by unfold Tic.opn; rw [h]; dsimp only; rw [h2]
end Go.Proofs.YtnhchdkchohnbaaGreatDoor
