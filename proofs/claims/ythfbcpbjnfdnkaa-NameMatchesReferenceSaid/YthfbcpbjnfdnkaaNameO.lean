/- Layer 11: Read of the reference. -/
import Derived.Test.YthfbcpbjnfdnkaaNameN
namespace Go.Proofs.Ythfbcpbjnfdnkaa
open Go.RowKit Go.Deep

theorem results_rows_tmp {P : Program} {fn : Func} {p q u : Tmp} {ty tz : TypeId} (h : fn.results = #[.cell p ty, .cell q tz, .tmp u]) (tmps : Array Value) (w : World) (g k : Nat) (t t' : TypeId) (cs ds : Array Value) (fr fs : Nat × Nat) (d d' : TypeDesc)
    (hp : tmps.getD p undef = .pointer (some ⟨g, 0, none⟩)) (hg : w.heap[g]? = some (.cells cs t fr))
    (hu : P.underlying ty = some d) (hd : (match d with | .struct _ | .array _ _ => true | _ => false) = true) (hi : (P.info? ty).map (·.size) = some cs.size)
    (hq : tmps.getD q undef = .pointer (some ⟨k, 0, none⟩)) (hk : w.heap[k]? = some (.cells ds t' fs))
    (hu' : P.underlying tz = some d') (hd' : (match d' with | .struct _ | .array _ _ => true | _ => false) = true) (hi' : (P.info? tz).map (·.size) = some ds.size) :
    (results fn tmps).run P w = .ok (.tuple #[.agg cs, .agg ds, tmps.getD u undef]) w := by
  have hp' : tmps[p]?.getD undef = .pointer (some ⟨g, 0, none⟩) := by simpa using hp
  have hq' : tmps[q]?.getD undef = .pointer (some ⟨k, 0, none⟩) := by simpa using hq
  simp [results, h, hp', hq', asAddr, run_loadVar_row w g t ty cs fr d hg hu hd hi, run_loadVar_row w k t' tz ds fs d' hk hu' hd' hi']
/-- What the reference's Read returns. -/
def RetRR (w0 : World) (x : Wir.R × Option Nam.N) (w : World) (e : Ending) (w' : World) : Prop :=
  w.grownBy w' none ∧ ∃ u v ss q, e = .returned (.tuple #[rdv u x.1.bad, .agg #[.string q, v], .bool x.2.isSome]) ∧ Rs w0 u x.1.l ∧ OwnS w' w.heap.size v ss ∧ q.size ≤ maxLen ∧ nm q ss = x.2.getD Nam.none0
theorem Hb.sets {w : World} {b : Nat} {x y : Value} {t : TypeId} (h : Hb w b #[x, y] t) (u v : Value) : Hb ((w.setCell ⟨b, 0, none⟩ u).setCell ⟨b, 1, none⟩ v) b #[u, v] t := (h.set 0 u).set 1 v
theorem loopR_len : ∀ (k : Nat) (r : Wir.R) (ps : List Nam.W), (Nam.loopR k r ps).1.l.length ≤ r.l.length
  | 0, _, _ => Nat.le_refl _
  | k + 1, r, ps => Nat.le_trans (loopR_len k _ _) string_le

theorem below_more {w0 w w' : World} (h : Below w0.heap.size w0 w) (k : w.grownBy w' none) : Below w0.heap.size w0 w' := h.trans ((below_of_only k).mono h.size)
/-- The blocks of the reference's Read: its reader, its results. -/
def Rst (w W : World) (u : Value) (bad : Bool) : Prop := Hb W w.heap.size #[u, .bool bad] 40 ∧ Hb W (w.heap.size + 1) #[.slice none 0 0, .bool false] 40 ∧ Hb W (w.heap.size + 1 + 1) #[.string ⟨#[]⟩, .slice none 0 0] 53 ∧ w.grownBy W none
theorem Rst.grow {w W W' : World} {u : Value} {bad : Bool} {o : Option Nat} (h : Rst w W u bad) (k : W.grownBy W' o) (ho : ∀ g, o = some g → w.heap.size + 1 + 1 < g) : Rst w W' u bad :=
  ⟨h.1.keep k (fun e => by have := ho _ e.symm; omega), h.2.1.keep k (fun e => by have := ho _ e.symm; omega), h.2.2.1.keep k (fun e => by have := ho _ e.symm; omega), grown_own h.2.2.2 k (fun g hg => by have := ho _ hg; omega)⟩
theorem Rst.only {w W W' : World} {u : Value} {bad : Bool} (h : Rst w W u bad) (k : W.grownBy W' none) : Rst w W' u bad := h.grow k (fun _ e => by cases e)
theorem Rst.alloc {w W : World} {u : Value} {bad : Bool} (h : Rst w W u bad) (o : Obj) : Rst w (W.alloc o) u bad := h.only (only_alloc (only_refl W none) o)
theorem Rst.store {w W : World} {u : Value} {bad : Bool} (h : Rst w W u bad) (u' : Value) (bad' : Bool) : Rst w ((W.setCell ⟨w.heap.size, 0, none⟩ u').setCell ⟨w.heap.size, 1, none⟩ (.bool bad')) u' bad' :=
  ⟨h.1.sets _ _, (h.2.1.far (p := ⟨w.heap.size, 0, none⟩) (Nat.succ_ne_self _) _).far (p := ⟨w.heap.size, 1, none⟩) (Nat.succ_ne_self _) _, (h.2.2.1.far (p := ⟨w.heap.size, 0, none⟩) (by show w.heap.size + 1 + 1 ≠ w.heap.size; omega) _).far (p := ⟨w.heap.size, 1, none⟩) (by show w.heap.size + 1 + 1 ≠ w.heap.size; omega) _, fresh_set (fresh_set h.2.2.2 (Nat.le_refl _) _) (Nat.le_refl _) _⟩
theorem Rst.set {w W : World} {u : Value} {bad : Bool} (h : Rst w W u bad) {p : Addr} (hp : w.heap.size + 1 + 1 < p.block) (x : Value) : Rst w (W.setCell p x) u bad :=
  h.grow (grown_set x) (fun g e => by cases e; exact hp)

/-- What the stores of the two results ask, and what they leave. -/
theorem Rst.fin {w W : World} {u : Value} {bad : Bool} (h : Rst w W u bad) (u' : Value) (b' : Value) (x y : Value) :
    (W.cell? ⟨w.heap.size + 1, 0, none⟩ = some (.slice none 0 0) ∧ W.cell? ⟨w.heap.size + 1, 1, none⟩ = some (.bool false) ∧ W.frozen? ⟨w.heap.size + 1, 0, none⟩ = false ∧ W.frozen? ⟨w.heap.size + 1, 1, none⟩ = false ∧ (W.setCell ⟨w.heap.size + 1, 0, none⟩ u').cell? ⟨w.heap.size + 1, 1, none⟩ = some (.bool false) ∧ (W.setCell ⟨w.heap.size + 1, 0, none⟩ u').frozen? ⟨w.heap.size + 1, 1, none⟩ = false) ∧
    (((W.setCell ⟨w.heap.size + 1, 0, none⟩ u').setCell ⟨w.heap.size + 1, 1, none⟩ b').cell? ⟨w.heap.size + 1 + 1, 0, none⟩ = some (.string ⟨#[]⟩) ∧ ((W.setCell ⟨w.heap.size + 1, 0, none⟩ u').setCell ⟨w.heap.size + 1, 1, none⟩ b').cell? ⟨w.heap.size + 1 + 1, 1, none⟩ = some (.slice none 0 0) ∧ ((W.setCell ⟨w.heap.size + 1, 0, none⟩ u').setCell ⟨w.heap.size + 1, 1, none⟩ b').frozen? ⟨w.heap.size + 1 + 1, 0, none⟩ = false ∧ ((W.setCell ⟨w.heap.size + 1, 0, none⟩ u').setCell ⟨w.heap.size + 1, 1, none⟩ b').frozen? ⟨w.heap.size + 1 + 1, 1, none⟩ = false ∧ (((W.setCell ⟨w.heap.size + 1, 0, none⟩ u').setCell ⟨w.heap.size + 1, 1, none⟩ b').setCell ⟨w.heap.size + 1 + 1, 0, none⟩ x).cell? ⟨w.heap.size + 1 + 1, 1, none⟩ = some (.slice none 0 0) ∧ (((W.setCell ⟨w.heap.size + 1, 0, none⟩ u').setCell ⟨w.heap.size + 1, 1, none⟩ b').setCell ⟨w.heap.size + 1 + 1, 0, none⟩ x).frozen? ⟨w.heap.size + 1 + 1, 1, none⟩ = false) ∧
    (Hb ((((W.setCell ⟨w.heap.size + 1, 0, none⟩ u').setCell ⟨w.heap.size + 1, 1, none⟩ b').setCell ⟨w.heap.size + 1 + 1, 0, none⟩ x).setCell ⟨w.heap.size + 1 + 1, 1, none⟩ y) (w.heap.size + 1) #[u', b'] 40 ∧
    Hb ((((W.setCell ⟨w.heap.size + 1, 0, none⟩ u').setCell ⟨w.heap.size + 1, 1, none⟩ b').setCell ⟨w.heap.size + 1 + 1, 0, none⟩ x).setCell ⟨w.heap.size + 1 + 1, 1, none⟩ y) (w.heap.size + 1 + 1) #[x, y] 53 ∧
    w.grownBy ((((W.setCell ⟨w.heap.size + 1, 0, none⟩ u').setCell ⟨w.heap.size + 1, 1, none⟩ b').setCell ⟨w.heap.size + 1 + 1, 0, none⟩ x).setCell ⟨w.heap.size + 1 + 1, 1, none⟩ y) none) := by
  have A3 := (h.2.2.1.far (p := ⟨w.heap.size + 1, 0, none⟩) (Nat.succ_ne_self _) u').far (p := ⟨w.heap.size + 1, 1, none⟩) (Nat.succ_ne_self _) b'
  refine ⟨h.2.1.two u', A3.two x, ?_, A3.sets x y, ?_⟩
  · exact ((h.2.1.sets u' b').far (p := ⟨w.heap.size + 1 + 1, 0, none⟩) (by show w.heap.size + 1 ≠ w.heap.size + 1 + 1; omega) x).far (p := ⟨w.heap.size + 1 + 1, 1, none⟩) (by show w.heap.size + 1 ≠ w.heap.size + 1 + 1; omega) y
  · exact fresh_set (fresh_set (fresh_set (fresh_set h.2.2.2 (Nat.le_succ _) _) (Nat.le_succ _) _) (by show w.heap.size ≤ w.heap.size + 1 + 1; omega) _) (by show w.heap.size ≤ w.heap.size + 1 + 1; omega) _
theorem Rst.drew {w W : World} {u : Value} {bad : Bool} (h : Rst w W u bad) : Rst w W.drew u bad := ⟨h.1, h.2.1, h.2.2.1, ⟨h.2.2.2.os, h.2.2.2.tape, h.2.2.2.output, h.2.2.2.size, h.2.2.2.block⟩⟩

set_option maxRecDepth 100000 in
set_option maxHeartbeats 4000000 in
theorem refread_any (w0 : World) (v : Value) (r : Wir.R) (w : World) (h : Rs w0 v r.l) (hbw : Below w0.heap.size w0 w) (hl : r.l.length ≤ 1000000) :
    Calls Try.prog 42 #[rdv v r.bad] w (RetRR w0 (Nam.refRead r) w) := by
  obtain ⟨a, cap, rfl⟩ := h.form
  have ST : ∀ (x : Value) (rr : Wir.R) (w1 : World), Rs w0 x rr.l → Below w0.heap.size w0 w1 → rr.l.length ≤ 1000000 → Calls Try.prog 27 #[rdv x rr.bad, .int .i64 1] w1 (RetT w0 (Wir.string rr 1) w1) := fun x rr w1 h1 h2 h3 => refstr_any w0 x rr 1 w1 h1 h2 (by omega)
  have H := Lib.hid h; clear h
  generalize hR : Nam.refRead r = R
  have HR := Lib.hid hR; clear hR
  have b0 := ((Hb.new w #[.slice a r.l.length cap, .bool r.bad] 40).alloc (.cells #[.slice none 0 0, .bool false] 40)).alloc (.cells #[.string ⟨#[]⟩, .slice none 0 0] 53)
  have b1 := (Hb.new (w.alloc (.cells #[.slice a r.l.length cap, .bool r.bad] 40)) #[.slice none 0 0, .bool false] 40).alloc (.cells #[.string ⟨#[]⟩, .slice none 0 0] 53)
  have b2 := Hb.new ((w.alloc (.cells #[.slice a r.l.length cap, .bool r.bad] 40)).alloc (.cells #[.slice none 0 0, .bool false] 40)) #[.string ⟨#[]⟩, .slice none 0 0] 53
  simp only [World.size_alloc] at b1 b2
  have R0 : Rst w _ (.slice a r.l.length cap) r.bad := ⟨b0, b1, b2, only_alloc (only_alloc (only_alloc (only_refl w none) _) _) _⟩
  have hs0 : w.heap.size + 1 + 1 < (((w.alloc (.cells #[.slice a r.l.length cap, .bool r.bad] 40)).alloc (.cells #[.slice none 0 0, .bool false] 40)).alloc (.cells #[.string ⟨#[]⟩, .slice none 0 0] 53)).heap.size := by simp
  clear b0 b1 b2
  go_enter Try.func42, Try.ntmps42
  go_wp2_with (go_at_call 27; refine (ST _ r _ H.out (below_more hbw R0.2.2.2) hl).mono ?_)
  rintro e w1 ⟨u1, y1, rfl, rs1, o1, h1⟩
  obtain ⟨a1, cp1, rfl⟩ := rs1.form
  have R1 := R0.only (only_of_below h1 none)
  have O1 := o1.mono hs0
  clear o1 hs0 R0 h1
  have hl1 : (Wir.string r 1).1.l.length ≤ r.l.length := string_le
  have HE1 := Lib.hid (show Nam.refRead r = ((Nam.loopR (min (Wir.num (Wir.string r 1).1 1).2 9) (Wir.num (Wir.string r 1).1 1).1 []).1,
    if (Nam.loopR (min (Wir.num (Wir.string r 1).1 1).2 9) (Wir.num (Wir.string r 1).1 1).1 []).1.bad = true ∨ Nam.valid ⟨Nam.fromN (Wir.string r 1).2, (Nam.loopR (min (Wir.num (Wir.string r 1).1 1).2 9) (Wir.num (Wir.string r 1).1 1).1 []).2⟩ = false then none
    else some ⟨Nam.fromN (Wir.string r 1).2, (Nam.loopR (min (Wir.num (Wir.string r 1).1 1).2 9) (Wir.num (Wir.string r 1).1 1).1 []).2⟩) from rfl)
  generalize Wir.string r 1 = p1 at *
  obtain ⟨c0, c1, f0, f1, d1, e1⟩ := R1.1.two (.slice a1 p1.1.l.length cp1)
  have R1s := R1.store (.slice a1 p1.1.l.length cp1) p1.1.bad
  have m0 := R1s.1.cell (i := 0) rfl
  have m1 := R1s.1.cell (i := 1) rfl
  have O1s := (O1.setCell (p := ⟨w.heap.size, 0, none⟩) (show w.heap.size < w.heap.size + 1 + 1 + 1 by omega) (.slice a1 p1.1.l.length cp1)).setCell (p := ⟨w.heap.size, 1, none⟩) (show w.heap.size < w.heap.size + 1 + 1 + 1 by omega) (.bool p1.1.bad)
  go_wp2_with (go_at_call 26; refine (refnum_any w0 (.slice a1 p1.1.l.length cp1) p1.1 1 _ rs1 (below_more hbw R1s.2.2.2) (by omega)).mono ?_)
  rintro e w2 ⟨u2, rfl, rs2, h2⟩
  obtain ⟨a2, cp2, rfl⟩ := rs2.form
  have R2 := R1s.only (only_of_below h2 none)
  have O2 := O1s.below h2
  clear c0 c1 f0 f1 d1 e1 m0 m1 R1 R1s O1 O1s h2
  have hl2 : (Wir.num p1.1 1).1.l.length ≤ p1.1.l.length := num_len _ _
  generalize Wir.num p1.1 1 = p2 at *
  obtain ⟨c0, c1, f0, f1, d1, e1⟩ := R2.1.two (.slice a2 p2.1.l.length cp2)
  have R2s := R2.store (.slice a2 p2.1.l.length cp2) p2.1.bad
  have O2s := (O2.setCell (p := ⟨w.heap.size, 0, none⟩) (show w.heap.size < w.heap.size + 1 + 1 + 1 by omega) (.slice a2 p2.1.l.length cp2)).setCell (p := ⟨w.heap.size, 1, none⟩) (show w.heap.size < w.heap.size + 1 + 1 + 1 by omega) (.bool p2.1.bad)
  have hcv := str_run O2s.bs
  have hqz : (⟨(Nam.fromN p1.2).toArray⟩ : ByteArray).size ≤ maxLen := by
    have := O2s.bs.len
    show (Nam.fromN p1.2).toArray.size ≤ _
    unfold maxLen; simp [Nam.fromN_length]; omega
  have hqb : bl ⟨(Nam.fromN p1.2).toArray⟩ = Nam.fromN p1.2 := rfl
  rw [← hqb] at HE1
  generalize (⟨(Nam.fromN p1.2).toArray⟩ : ByteArray) = q at *
  have n0 := Hb.new ((w2.setCell ⟨w.heap.size, 0, none⟩ (.slice a2 p2.1.l.length cp2)).setCell ⟨w.heap.size, 1, none⟩ (.bool p2.1.bad)) #[.string ⟨#[]⟩, .slice none 0 0] 53
  have n1 := Hb.new ((w2.setCell ⟨w.heap.size, 0, none⟩ (.slice a2 p2.1.l.length cp2)).setCell ⟨w.heap.size, 1, none⟩ (.bool p2.1.bad)) #[.string q, .slice none 0 0] 53
  have R3 := R2s.alloc (.cells #[.string q, .slice none 0 0] 53)
  have hbn := R2.2.2.1.lt
  have hsz : w2.heap.size + 1 ≤ (((w2.setCell ⟨w.heap.size, 0, none⟩ (.slice a2 p2.1.l.length cp2)).setCell ⟨w.heap.size, 1, none⟩ (.bool p2.1.bad)).alloc (.cells #[.string q, .slice none 0 0] 53)).heap.size := by simp
  simp only [World.size_setCell] at n0 n1
  obtain ⟨x0, x1, y0, y1', z0, z1⟩ := n0.two (.string q)
  go_wp2_with fail
  clear c0 c1 f0 f1 d1 e1 x0 x1 y0 y1' z0 z1 n0 hcv O2 O2s R2 R2s
  generalize hbe : w2.heap.size = bn at *
  clear hbe
  have H1 := Lib.hid hqb; clear hqb
  have N1 := Lib.hid n1; clear n1
  have R3' := Lib.hid R3; clear R3
  have HZ := Lib.hid hsz; clear hsz
  have RS2 := Lib.hid rs2; clear rs2 rs1
  go_loopw [8] (fun x wr => ∃ (j : Nat) (ua : Option Addr) (uc : Nat) (v : Value) (ss : List ByteArray), x = .int .u64 j ∧ (j ≤ p2.2 ∧ j ≤ 9) ∧ ss.length = j ∧ Rst w wr (.slice ua (Nam.loopR j p2.1 []).1.l.length uc) (Nam.loopR j p2.1 []).1.bad ∧ Rs w0 (.slice ua (Nam.loopR j p2.1 []).1.l.length uc) (Nam.loopR j p2.1 []).1.l ∧ Hb wr bn #[.string q, v] 53 ∧ OwnS wr (bn + 1) v ss ∧ bn + 1 ≤ wr.heap.size ∧ ss.map bl = (Nam.loopR j p2.1 []).2) (fun x _ => 9 - (intOf x).toNat)
  case atStart => exact ⟨0, _, _, _, [], rfl, ⟨Nat.zero_le _, Nat.zero_le _⟩, rfl, R3'.out, RS2.out, N1.out, OwnS.nil _ _, HZ.out, rfl⟩
  case round =>
    obtain ⟨j, ua, uc, v, ss, rfl, hj, hss, rst, rsu, hn, os, hsz, hm⟩ := hrel
    subst hss
    obtain ⟨va, vc, rfl⟩ := os.ss.form
    clear N1 R3' HZ RS2
    have hLl := loopR_len ss.length p2.1 []
    have m0 := rst.1.cell (i := 0) rfl
    have m1 := rst.1.cell (i := 1) rfl
    by_cases hjc : ss.length < p2.2 ∧ ss.length < 9
    · obtain ⟨hj1, hj2⟩ := hjc
      have HSN := Lib.hid (Nam.loopR_snoc ss.length p2.1 [])
      have HM := Lib.hid hm; clear hm
      generalize hL : Nam.loopR ss.length p2.1 [] = L at *
      clear hL
      go_wp2_with (go_at_call 27; refine (ST _ L.1 _ rsu (below_more hbw rst.2.2.2) (by omega)).mono ?_)
      all_goals first | omega | skip
      rintro e w4 ⟨u4, y4, rfl, rs4, o4, h4⟩
      obtain ⟨a4, cp4, rfl⟩ := rs4.form
      have R4 := rst.only (only_of_below h4 none)
      have n4 := hn.only (only_of_below h4 none)
      have os4 := os.below h4
      have hs4 := h4.size
      have hsl : (Wir.string L.1 1).1.l.length ≤ L.1.l.length := string_le
      generalize Wir.string L.1 1 = p4 at *
      clear m0 m1 rst rsu hn os h4
      have k0 := Hb.new w4 #[.slice none 0 0, .bool false] 40
      obtain ⟨x0, x1, y0, y1', z0, z1⟩ := k0.two (.slice a4 p4.1.l.length cp4)
      have k1 := Hb.new w4 #[.slice a4 p4.1.l.length cp4, .bool p4.1.bad] 40
      have R5 := R4.alloc (.cells #[.slice a4 p4.1.l.length cp4, .bool p4.1.bad] 40)
      have n5 := n4.alloc (.cells #[.slice a4 p4.1.l.length cp4, .bool p4.1.bad] 40)
      have os5 := os4.alloc (.cells #[.slice a4 p4.1.l.length cp4, .bool p4.1.bad] 40)
      have hcv := str_run (o4.alloc (.cells #[.slice a4 p4.1.l.length cp4, .bool p4.1.bad] 40)).bs
      have htz : (⟨(Nam.fromN p4.2).toArray⟩ : ByteArray).size ≤ maxLen := by
        have := o4.bs.len
        show (Nam.fromN p4.2).toArray.size ≤ _
        unfold maxLen; simp [Nam.fromN_length]; omega
      have HTB := Lib.hid (show bl ⟨(Nam.fromN p4.2).toArray⟩ = Nam.fromN p4.2 from rfl)
      generalize (⟨(Nam.fromN p4.2).toArray⟩ : ByteArray) = t at *
      have u1 := n5.cell (i := 1) rfl
      have hBB : bn + 1 ≤ w4.heap.size := by omega
      go_wp2_with (at_builtin; go_must (refine wpList_append_one rfl _ _ rfl (bn + 1) (.slice va ss.length vc) ss rfl (os5.alloc _) (w4.heap.size + 1) t htz rfl (by have := cell_new (w4.alloc (.cells #[.slice a4 p4.1.l.length cp4, .bool p4.1.bad] 40)) #[.string t] 9 0 _ rfl; rwa [World.size_alloc] at this) (by omega) (Nat.le_trans hBB (by simp; omega)) ?_; intro a6 c6 w6 hown6 hgr6; have q1 := (n5.alloc (.cells #[.string t] 9)).keep hgr6 (os5.apart (Nat.lt_succ_self _)); have R6 := (R5.alloc (.cells #[.string t] 9)).grow hgr6 (fun g hg => by have := (os5.lt g hg).1; omega); have k6 := (k1.alloc (.cells #[.string t] 9)).keep hgr6 (fun e => by have := (os4.lt _ e.symm).2; omega); have x6 := q1.cell (i := 1) rfl; have y6 := q1.frozen 1; have k7 := k6.far (p := ⟨bn, 1, none⟩) (show w4.heap.size ≠ bn by omega) (.slice a6 (ss.length + 1) c6); have t0 := k7.cell (i := 0) rfl; have t1 := k7.cell (i := 1) rfl; have R7 := R6.set (p := ⟨bn, 1, none⟩) hbn (.slice a6 (ss.length + 1) c6); have TW := R7.1.two (.slice a4 p4.1.l.length cp4); have TW0 := TW.1; have TW1 := TW.2.1; have TW2 := TW.2.2.1; have TW3 := TW.2.2.2.1; have TW4 := TW.2.2.2.2.1; have TW5 := TW.2.2.2.2.2; clear TW; have hs6 := hgr6.size))
      all_goals first | omega | skip
      have R8 := R7.store (.slice a4 p4.1.l.length cp4) p4.1.bad
      go_roundw
      case rel =>
        have e1 : Nam.loopR (ss.length + 1) p2.1 [] = (p4.1, L.2 ++ [Nam.fromN p4.2]) := HSN.out
        refine ⟨ss.length + 1, a4, cp4, .slice a6 (ss.length + 1) c6, ss ++ [t], by go_num, by omega, by simp, ?_, ?_, ?_, ?_, ?_, ?_⟩
        · rw [e1]; exact R8
        · rw [e1]; exact rs4
        · exact ((q1.set 1 _).far (p := ⟨w.heap.size, 0, none⟩) (show bn ≠ w.heap.size by omega) _).far (p := ⟨w.heap.size, 1, none⟩) (show bn ≠ w.heap.size by omega) _
        · exact ((hown6.setCell (p := ⟨bn, 1, none⟩) (Nat.lt_succ_self _) _).setCell (p := ⟨w.heap.size, 0, none⟩) (show w.heap.size < bn + 1 by omega) _).setCell (p := ⟨w.heap.size, 1, none⟩) (show w.heap.size < bn + 1 by omega) _
        · simp only [World.size_setCell]
          exact Nat.le_trans (Nat.le_trans hBB (by simp; omega)) hs6
        · rw [e1, List.map_append, HM.out, ← HTB.out]; rfl
      case measure => simp [intOf]; omega
    · have hj0 : ss.length = min p2.2 9 := by omega
      have HEQ := Lib.hid (show R = ((Nam.loopR ss.length p2.1 []).1, if (Nam.loopR ss.length p2.1 []).1.bad = true ∨ Nam.valid (nm q ss) = false then none else some (nm q ss)) by
        rw [← HR.out, HE1.out, ← hj0]
        unfold nm
        rw [hm])
      clear HE1 HR hm hj0
      generalize hL : Nam.loopR ss.length p2.1 [] = L at *
      clear hL
      have hcase : p2.2 ≤ ss.length ∨ (ss.length < p2.2 ∧ 9 ≤ ss.length) := by omega
      clear hjc
      obtain ⟨⟨Ll, Lb⟩, Lp⟩ := L
      dsimp only at rst rsu hLl m0 m1 HEQ
      have n0 := hn.cell (i := 0) rfl
      have n1 := hn.cell (i := 1) rfl
      cases Lb
      · rcases hcase with hc | hc
        all_goals (
          go_wp2_with (go_at_call 36; refine (refvalid_any q hqz _ ss _ os.ss).mono ?_)
          all_goals first | omega | skip
          rintro e w4 ⟨rfl, h4⟩
          have R4 := rst.only h4
          have n4 := hn.only h4
          have os4 := os.below (below_of_only h4)
          clear m0 m1 n0 n1 rst hn os h4
          cases hv : Nam.valid (nm q ss)
          · have HF := Lib.hid (show R = (⟨Ll, false⟩, none) by rw [HEQ.out, if_pos (.inr hv)])
            clear hv HEQ
            obtain ⟨⟨c0, c1, f0, f1, d1, e1⟩, ⟨c0', c1', f0', f1', d1', e1'⟩, F⟩ := R4.fin (.slice ua Ll.length uc) (.bool false) (.string ⟨#[]⟩) (.slice none 0 0)
            have F := Lib.hid F
            have m0 := R4.1.cell (i := 0) rfl
            have m1 := R4.1.cell (i := 1) rfl
            go_wp2_with fail
            try simp only [Exit.inBlock, Exit.then, Exit.noGoto_ret]
            refine bodyPost_ret (results_rows_tmp rfl _ _ (w.heap.size + 1) (w.heap.size + 1 + 1) _ _ _ _ (0, 0) (0, 0) _ _ rfl F.out.1 rfl rfl infoRd rfl F.out.2.1 rfl rfl info_name) rfl ?_
            rw [HF.out]
            exact ⟨F.out.2.2, _, _, [], ⟨#[]⟩, rfl, rsu, OwnS.nil _ _, Nat.zero_le _, rfl⟩
          · have HF := Lib.hid (show R = (⟨Ll, false⟩, some (nm q ss)) by rw [HEQ.out, if_neg (by rw [hv]; simp)])
            clear hv HEQ
            obtain ⟨⟨c0, c1, f0, f1, d1, e1⟩, ⟨c0', c1', f0', f1', d1', e1'⟩, _⟩ := R4.fin (.slice ua Ll.length uc) (.bool false) (.string q) (.slice va ss.length vc)
            have F := Lib.hid (R4.drew.fin (.slice ua Ll.length uc) (.bool false) (.string q) (.slice va ss.length vc)).2.2
            have n4d := n4
            have m0 := R4.1.cell (i := 0) rfl
            have m1 := R4.1.cell (i := 1) rfl
            have n0 := n4d.cell (i := 0) rfl
            have n1 := n4d.cell (i := 1) rfl
            have n5 := (n4d.far (p := ⟨w.heap.size + 1, 0, none⟩) (show bn ≠ w.heap.size + 1 by omega) (.slice ua Ll.length uc)).far (p := ⟨w.heap.size + 1, 1, none⟩) (show bn ≠ w.heap.size + 1 by omega) (.bool false)
            have n0' := n5.cell (i := 0) rfl
            have n1' := n5.cell (i := 1) rfl
            have hos : OwnS ((((w4.drew.setCell ⟨w.heap.size + 1, 0, none⟩ (.slice ua Ll.length uc)).setCell ⟨w.heap.size + 1, 1, none⟩ (.bool false)).setCell ⟨w.heap.size + 1 + 1, 0, none⟩ (.string q)).setCell ⟨w.heap.size + 1 + 1, 1, none⟩ (.slice va ss.length vc)) (bn + 1) (.slice va ss.length vc) ss := (((OwnS.setCell (w := w4.drew) os4 (p := ⟨w.heap.size + 1, 0, none⟩) (show w.heap.size + 1 < bn + 1 by omega) _).setCell (p := ⟨w.heap.size + 1, 1, none⟩) (show w.heap.size + 1 < bn + 1 by omega) _).setCell (p := ⟨w.heap.size + 1 + 1, 0, none⟩) (show w.heap.size + 1 + 1 < bn + 1 by omega) _).setCell (p := ⟨w.heap.size + 1 + 1, 1, none⟩) (show w.heap.size + 1 + 1 < bn + 1 by omega) _
            have HO := Lib.hid (hos.mono (base' := w.heap.size) (by omega))
            clear hos n5
            go_wp2_with fail
            go_region
            all_goals (
              go_wp2_with fail
              try simp only [Exit.inBlock, Exit.then, Exit.noGoto_ret]
              refine bodyPost_ret (results_rows_tmp rfl _ _ (w.heap.size + 1) (w.heap.size + 1 + 1) _ _ _ _ (0, 0) (0, 0) _ _ rfl F.out.1 rfl rfl infoRd rfl F.out.2.1 rfl rfl info_name) rfl ?_
              rw [HF.out]
              exact ⟨F.out.2.2, _, _, ss, q, rfl, rsu, HO.out, hqz, rfl⟩))
      · have HF := Lib.hid (show R = (⟨Ll, true⟩, none) by rw [HEQ.out, if_pos (.inl rfl)])
        clear HEQ
        obtain ⟨⟨c0, c1, f0, f1, d1, e1⟩, ⟨c0', c1', f0', f1', d1', e1'⟩, F⟩ := rst.fin (.slice ua Ll.length uc) (.bool true) (.string ⟨#[]⟩) (.slice none 0 0)
        have F := Lib.hid F
        rcases hcase with hc | hc
        all_goals (
          go_wp2_with fail
          all_goals first | omega | skip
          try simp only [Exit.inBlock, Exit.then, Exit.noGoto_ret]
          refine bodyPost_ret (results_rows_tmp rfl _ _ (w.heap.size + 1) (w.heap.size + 1 + 1) _ _ _ _ (0, 0) (0, 0) _ _ rfl F.out.1 rfl rfl infoRd rfl F.out.2.1 rfl rfl info_name) rfl ?_
          rw [HF.out]
          exact ⟨F.out.2.2, _, _, [], ⟨#[]⟩, rfl, rsu, OwnS.nil _ _, Nat.zero_le _, rfl⟩)
end Go.Proofs.Ythfbcpbjnfdnkaa
