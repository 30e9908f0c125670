/- Layer 12: a ticket in memory; Valid and Same, in the program and in the reference. -/
import Derived.Test.YtnhchdkchohnbaaDoorTP1
namespace Go.Proofs.YtnhchdkchohnbaaDoor
open Go.RowKit Go.Deep

/-- The cells of a ticket. -/
def tk (r : ByteArray) (u : Value) (s e : Int) (key : Nat → Nat) : Array Value := #[.string r, u, .int .i64 s, .int .i64 e] ++ arr .u8 16 key
theorem tk_size (r : ByteArray) (u : Value) (s e : Int) (key : Nat → Nat) : (tk r u s e key).size = 20 := by
  unfold tk; rw [Array.size_append, arr_size]; rfl
theorem tk_0 (r : ByteArray) (u : Value) (s e : Int) (key : Nat → Nat) : (tk r u s e key)[0]? = some (.string r) := by
  unfold tk; rw [Array.getElem?_append_left (by simp)]; rfl
theorem tk_1 (r : ByteArray) (u : Value) (s e : Int) (key : Nat → Nat) : (tk r u s e key)[1]? = some u := by
  unfold tk; rw [Array.getElem?_append_left (by simp)]; rfl
theorem tk_2 (r : ByteArray) (u : Value) (s e : Int) (key : Nat → Nat) : (tk r u s e key)[2]? = some (.int .i64 s) := by
  unfold tk; rw [Array.getElem?_append_left (by simp)]; rfl
theorem tk_3 (r : ByteArray) (u : Value) (s e : Int) (key : Nat → Nat) : (tk r u s e key)[3]? = some (.int .i64 e) := by
  unfold tk; rw [Array.getElem?_append_left (by simp)]; rfl
theorem tk_key (r : ByteArray) (u : Value) (s e : Int) (key : Nat → Nat) (j : Nat) : (tk r u s e key)[4 + j]? = (arr .u8 16 key)[j]? := by
  unfold tk; rw [Array.getElem?_append_right (by simp)]; simp
set_option maxRecDepth 100000 in
theorem info_tk (r : ByteArray) (u : Value) (s e : Int) (key : Nat → Nat) : (Tryd.prog.info? 27).map (·.size) = some (tk r u s e key).size := by rw [tk_size]; kernel_rfl
/-- A ticket in a block of its own. -/
def Tb (W : World) (b : Nat) (r : ByteArray) (u : Value) (ss : List ByteArray) (s e : Int) (key : Nat → Nat) : Prop := Hb W b (tk r u s e key) 27 ∧ Ss W u ss ∧ r.size ≤ maxLen ∧ Aes.B8 key
section
variable {W : World} {b : Nat} {r : ByteArray} {u : Value} {ss : List ByteArray} {s e : Int} {key : Nat → Nat}
theorem Tb.new (h : Ss W u ss) (hr : r.size ≤ maxLen) (hk : Aes.B8 key) : Tb (W.alloc (.cells (tk r u s e key) 27)) W.heap.size r u ss s e key := ⟨Hb.new _ _ _, h.only (only_alloc (only_refl W none) _), hr, hk⟩
theorem Tb.below {W' : World} (h : Tb W b r u ss s e key) (k : Below W.heap.size W W') : Tb W' b r u ss s e key := ⟨(k.block b h.1.lt).trans h.1, h.2.1.below k, h.2.2⟩
theorem Tb.only {W' : World} (h : Tb W b r u ss s e key) (k : W.grownBy W' none) : Tb W' b r u ss s e key := h.below (below_of_only k)
theorem Tb.alloc (h : Tb W b r u ss s e key) (o : Obj) : Tb (W.alloc o) b r u ss s e key := h.only (only_alloc (only_refl W none) o)
theorem Tb.c0 (h : Tb W b r u ss s e key) : W.cell? ⟨b, 0, none⟩ = some (.string r) := h.1.cell (tk_0 _ _ _ _ _)
theorem Tb.c1 (h : Tb W b r u ss s e key) : W.cell? ⟨b, 1, none⟩ = some u := h.1.cell (tk_1 _ _ _ _ _)
theorem Tb.c2 (h : Tb W b r u ss s e key) : W.cell? ⟨b, 2, none⟩ = some (.int .i64 s) := h.1.cell (tk_2 _ _ _ _ _)
theorem Tb.c3 (h : Tb W b r u ss s e key) : W.cell? ⟨b, 3, none⟩ = some (.int .i64 e) := h.1.cell (tk_3 _ _ _ _ _)
theorem Tb.ck (h : Tb W b r u ss s e key) : ∀ j v, (arr .u8 16 key)[j]? = some v → W.cell? ((⟨b, 4, none⟩ : Addr).add j) = some v := fun j v hj => by
  rw [Addr.add_lit]
  exact h.1.cell ((tk_key _ _ _ _ _ j).trans hj)
end
def tic (r : ByteArray) (ss : List ByteArray) (s e : Int) (key : Nat → Nat) : Tic.T := ⟨nm r ss, s, e, Sea.nl 16 key⟩
theorem wpList_load_arrG {P : Program} {ops : Array Oper} {rest : List Oper} {o : Oper} {a : Act} {w : World} {Q : Exit → Act → World → Prop} (hw : Region.wanted o (yielded ops a.tmps) = true) (ty : TypeId) (x : Operand) (ho : o.op = .load ty x)
    (ad : Addr) (hx : a.eval x = .pointer (some ad)) (cs : Array Value) (d : TypeDesc) (hc : ∀ j v, cs[j]? = some v → w.cell? (ad.add j) = some v)
    (hu : P.underlying ty = some d) (hd : (match d with | .struct _ | .array _ _ => true | _ => false) = true) (hi : (P.info? ty).map (·.size) = some cs.size)
    (h : wpList P ops Q rest (a.put o.dst (.agg cs)) w) : wpList P ops Q (o :: rest) a w := by
  refine wpList_step fun K hK => ?_
  rw [if_pos hw]
  unfold Oper.wp execOp
  simp only [ho, hx, Instr.loadAt, Instr.sureAddr, Sem.run_bind, Sem.run_pure, Result.andThen_ok, run_loadVar_arr w ad ty cs d hc hu hd hi]
  exact hK _ _ h
/-- The fields are the same. -/
def tsame (r : ByteArray) (ss : List ByteArray) (s e : Int) (key : Nat → Nat) (q : ByteArray) (tt : List ByteArray) (s' e' : Int) (key' : Nat → Nat) : Bool := decide (r = q ∧ ss = tt) && decide (s = s') && decide (e = e') && sameArr 16 key key'
theorem tsame_refl (r : ByteArray) (ss : List ByteArray) (s e : Int) (key : Nat → Nat) : tsame r ss s e key r ss s e key = true := by
  unfold tsame; simp [sameArr_refl]
theorem tsame_of {r q : ByteArray} {ss tt : List ByteArray} {s e s' e' : Int} {key key' : Nat → Nat} (h : tic r ss s e key = tic q tt s' e' key') : tsame r ss s e key q tt s' e' key' = true := by
  unfold tic at h
  simp only [Tic.T.mk.injEq] at h
  obtain ⟨h1, rfl, rfl, h4⟩ := h
  obtain ⟨rfl, rfl⟩ := nm_inj.1 h1
  unfold tsame
  simp only [and_self, decide_true, Bool.true_and]
  refine sameArr_yes fun i hi => ?_
  have : (Sea.nl 16 key).getD i 0 = (Sea.nl 16 key').getD i 0 := congrArg (fun l : List Nat => l.getD i 0) h4
  rwa [Sea.nl_get _ _ _ hi, Sea.nl_get _ _ _ hi] at this

set_option maxRecDepth 100000 in
set_option maxHeartbeats 2000000 in
theorem tkvalid_any (r : ByteArray) (u : Value) (ss : List ByteArray) (s e : Int) (key : Nat → Nat) (w : World) (hr : r.size ≤ maxLen) (h : Ss w u ss) :
    Calls Tryd.prog 15 #[.agg (tk r u s e key)] w fun x w' => x = .returned (.bool (Tic.valid (tic r ss s e key))) ∧ w.grownBy w' none := by
  have hsz := tk_size r u s e key
  have hb := Hb.new w (tk r u s e key) 27
  have c0 := hb.cell (tk_0 r u s e key)
  have c1 := hb.cell (tk_1 r u s e key)
  have G0 := only_alloc (only_refl w none) (.cells (tk r u s e key) 27)
  obtain ⟨ua, uc, rfl⟩ := h.form
  have H := Lib.hid h; clear h
  generalize hR : Tic.valid (tic r ss s e key) = R
  have HR := Lib.hid (show (Nam.valid (nm r ss) && decide (0 ≤ s) && decide (s ≤ e) && decide (e ≤ 1099511627776)) = R from hR)
  clear hR
  go_enter Tryd.func15, Tryd.ntmps15
  go_wp2_with fail
  refine (valid_any r hr _ ss _ (H.out.only G0)).mono ?_
  rintro x w1 ⟨rfl, g1⟩
  have G1 := only_trans G0 g1
  have h1 := hb.only g1
  have c2 := h1.cell (tk_2 _ _ _ _ _)
  have c3 := h1.cell (tk_3 _ _ _ _ _)
  clear hb c0 c1
  cases hv : Nam.valid (nm r ss)
  all_goals (
    rw [hv] at HR
    go_wp2_with fail
    all_goals (
      go_ret
      refine ⟨?_, G1⟩
      rw [← HR.out]
      first | rfl | (congr 2; done) | (congr 2; simp; done) | (congr 2; simp; omega) | (congr 2; simp; intros; omega)))

set_option maxRecDepth 100000 in
set_option maxHeartbeats 2000000 in
theorem reftkvalid_any (r : ByteArray) (u : Value) (ss : List ByteArray) (s e : Int) (key : Nat → Nat) (w : World) (hr : r.size ≤ maxLen) (h : Ss w u ss) :
    Calls Tryd.prog 16 #[.agg (tk r u s e key)] w fun x w' => x = .returned (.bool (Tic.valid (tic r ss s e key))) ∧ w.grownBy w' none := by
  have hsz := tk_size r u s e key
  have hb := Hb.new w (tk r u s e key) 27
  have c0 := hb.cell (tk_0 r u s e key)
  have c1 := hb.cell (tk_1 r u s e key)
  have G0 := only_alloc (only_refl w none) (.cells (tk r u s e key) 27)
  obtain ⟨ua, uc, rfl⟩ := h.form
  have H := Lib.hid h; clear h
  generalize hR : Tic.valid (tic r ss s e key) = R
  have HR := Lib.hid (show (Nam.valid (nm r ss) && decide (0 ≤ s) && decide (s ≤ e) && decide (e ≤ 1099511627776)) = R from hR)
  clear hR
  go_enter Tryd.func16, Tryd.ntmps16
  go_wp2_with fail
  refine (refvalid_any r hr _ ss _ (H.out.only G0)).mono ?_
  rintro x w1 ⟨rfl, g1⟩
  have G1 := only_trans G0 g1
  have h1 := hb.only g1
  have c2 := h1.cell (tk_2 _ _ _ _ _)
  have c3 := h1.cell (tk_3 _ _ _ _ _)
  clear hb c0 c1
  cases hv : Nam.valid (nm r ss)
  all_goals (
    rw [hv] at HR
    go_wp2_with fail
    all_goals (
      go_ret
      refine ⟨?_, G1⟩
      rw [← HR.out]
      first | rfl | (congr 2; done) | (congr 2; simp; done) | (congr 2; simp; omega) | (congr 2; simp; intros; omega)))

set_option maxRecDepth 100000 in
set_option maxHeartbeats 2000000 in
theorem tksame_any (r q : ByteArray) (u v : Value) (ss tt : List ByteArray) (s e s' e' : Int) (key key' : Nat → Nat) (w : World) (hr : r.size ≤ maxLen) (hq : q.size ≤ maxLen) (hk : Aes.B8 key) (hk' : Aes.B8 key') (hu : Ss w u ss) (hv : Ss w v tt) :
    Calls Tryd.prog 21 #[.agg (tk r u s e key), .agg (tk q v s' e' key')] w fun x w' => x = .returned (.bool (tsame r ss s e key q tt s' e' key')) ∧ w.grownBy w' none := by
  have hsz := tk_size r u s e key
  have hsz' := tk_size q v s' e' key'
  have TA := (Tb.new (s := s) (e := e) hu hr hk).alloc (.cells (tk q v s' e' key') 27)
  have G0 := only_alloc (only_refl w none) (.cells (tk r u s e key) 27)
  have TB := Tb.new (s := s') (e := e') (hv.only G0) hq hk'
  have G1 := only_alloc G0 (.cells (tk q v s' e' key') 27)
  simp only [World.size_alloc] at TB
  obtain ⟨ua, uc, rfl⟩ := hu.form
  obtain ⟨va, vc, rfl⟩ := hv.form
  generalize hR : tsame r ss s e key q tt s' e' key' = R
  have HR := Lib.hid (show (decide (r = q ∧ ss = tt) && decide (s = s') && decide (e = e') && sameArr 16 key key') = R from hR)
  clear hu hv hR
  have c0 := TA.c0
  have c1 := TA.c1
  have d0 := TB.c0
  have d1 := TB.c1
  go_enter Tryd.func21, Tryd.ntmps21
  go_wp2_with fail
  refine (same_name r q _ _ ss tt _ TA.2.1 TB.2.1).mono ?_
  rintro x w1 ⟨rfl, g1⟩
  have G2 := only_trans G1 g1
  have TA1 := TA.only g1
  have TB1 := TB.only g1
  have c2 := TA1.c2
  have c3 := TA1.c3
  have d2 := TB1.c2
  have d3 := TB1.c3
  have CK := Lib.hid TA1.ck
  have DK := Lib.hid TB1.ck
  clear TA TB TA1 TB1 c0 c1 d0 d1
  have heq : ∀ W : World, (Op.equalIn 10000 25 (.agg (arr .u8 16 key)) (.agg (arr .u8 16 key'))).run Tryd.prog W = .ok (sameArr 16 key key') W := fun W => run_equalIn_arr (P := Tryd.prog) (k := .u8) (n := 16) W key key' Tryd.underlying25 Tryd.underlying5 (by kernel_rfl)
  generalize sameArr 16 key key' = b at heq HR
  cases hd : decide (r = q ∧ ss = tt)
  all_goals (
    rw [hd] at HR
    go_wp2_with (first | refine wpList_load_arrG (by kernel_rfl) _ _ rfl ⟨w.heap.size, 4, none⟩ rfl _ _ CK.out rfl rfl (info16s _) ?_ | refine wpList_load_arrG (by kernel_rfl) _ _ rfl ⟨w.heap.size + 1, 4, none⟩ rfl _ _ DK.out rfl rfl (info16s _) ?_)
    all_goals (
      go_ret
      refine ⟨?_, G2⟩
      rw [← HR.out]
      first | rfl | (congr 2; done) | (congr 2; simp; done) | (congr 2; simp_all; done) | (congr 2; simp; omega) | (congr 2; simp; intros; omega)))

set_option maxRecDepth 100000 in
set_option maxHeartbeats 2000000 in
theorem reftksame_any (r q : ByteArray) (u v : Value) (ss tt : List ByteArray) (s e s' e' : Int) (key key' : Nat → Nat) (w : World) (hr : r.size ≤ maxLen) (hq : q.size ≤ maxLen) (hk : Aes.B8 key) (hk' : Aes.B8 key') (hu : Ss w u ss) (hv : Ss w v tt) :
    Calls Tryd.prog 18 #[.agg (tk r u s e key), .agg (tk q v s' e' key')] w fun x w' => x = .returned (.bool (tsame r ss s e key q tt s' e' key')) ∧ w.grownBy w' none := by
  have hsz := tk_size r u s e key
  have hsz' := tk_size q v s' e' key'
  have TA := (Tb.new (s := s) (e := e) hu hr hk).alloc (.cells (tk q v s' e' key') 27)
  have G0 := only_alloc (only_refl w none) (.cells (tk r u s e key) 27)
  have TB := Tb.new (s := s') (e := e') (hv.only G0) hq hk'
  have G1 := only_alloc G0 (.cells (tk q v s' e' key') 27)
  simp only [World.size_alloc] at TB
  obtain ⟨ua, uc, rfl⟩ := hu.form
  obtain ⟨va, vc, rfl⟩ := hv.form
  generalize hR : tsame r ss s e key q tt s' e' key' = R
  have HR := Lib.hid (show (decide (r = q ∧ ss = tt) && decide (s = s') && decide (e = e') && sameArr 16 key key') = R from hR)
  clear hu hv hR
  have c0 := TA.c0
  have c1 := TA.c1
  have d0 := TB.c0
  have d1 := TB.c1
  go_enter Tryd.func18, Tryd.ntmps18
  go_wp2_with fail
  refine (refsame_name r q _ _ ss tt _ TA.2.1 TB.2.1).mono ?_
  rintro x w1 ⟨rfl, g1⟩
  have G2 := only_trans G1 g1
  have TA1 := TA.only g1
  have TB1 := TB.only g1
  have c2 := TA1.c2
  have c3 := TA1.c3
  have d2 := TB1.c2
  have d3 := TB1.c3
  have CK := Lib.hid TA1.ck
  have DK := Lib.hid TB1.ck
  clear TA TB TA1 TB1 c0 c1 d0 d1
  have heq : ∀ W : World, (Op.equalIn 10000 25 (.agg (arr .u8 16 key)) (.agg (arr .u8 16 key'))).run Tryd.prog W = .ok (sameArr 16 key key') W := fun W => run_equalIn_arr (P := Tryd.prog) (k := .u8) (n := 16) W key key' Tryd.underlying25 Tryd.underlying5 (by kernel_rfl)
  generalize sameArr 16 key key' = b at heq HR
  cases hd : decide (r = q ∧ ss = tt)
  all_goals (
    rw [hd] at HR
    go_wp2_with (first | refine wpList_load_arrG (by kernel_rfl) _ _ rfl ⟨w.heap.size, 4, none⟩ rfl _ _ CK.out rfl rfl (info16s _) ?_ | refine wpList_load_arrG (by kernel_rfl) _ _ rfl ⟨w.heap.size + 1, 4, none⟩ rfl _ _ DK.out rfl rfl (info16s _) ?_)
    all_goals (
      go_ret
      refine ⟨?_, G2⟩
      rw [← HR.out]
      first | rfl | (congr 2; done) | (congr 2; simp; done) | (congr 2; simp_all; done) | (congr 2; simp; omega) | (congr 2; simp; intros; omega)))
end Go.Proofs.YtnhchdkchohnbaaDoor
