/- Layer 12: a ticket in memory; Valid and Same, in the program and in the reference. -/
import Derived.Test.YtnhchdkchohnbaaGreatDoorTP1
namespace Go.Proofs.YtnhchdkchohnbaaGreatDoor
open Go.RowKit Go.Deep

def tk (r : ByteArray) (u : Value) (s e : Int) (key : Nat → Nat) : Array Value := #[.string r, u, .int .i64 s, .int .i64 e] ++ arr .u8 16 key
theorem tk_size (r : ByteArray) (u : Value) (s e : Int) (key : Nat → Nat) : (tk r u s e key).size = 20 := by
  unfold tk; rw [Array.size_append, arr_size]; rfl
theorem tk_0 (r : ByteArray) (u : Value) (s e : Int) (key : Nat → Nat) : (tk r u s e key)[0]? = some (.string r) := by
  unfold tk; rw [Array.getElem?_append_left (by simp)]; rfl
theorem tk_1 (r : ByteArray) (u : Value) (s e : Int) (key : Nat → Nat) : (tk r u s e key)[1]? = some u := by
  unfold tk; rw [Array.getElem?_append_left (by simp)]; rfl
theorem tk_2 (r : ByteArray) (u : Value) (s e : Int) (key : Nat → Nat) : (tk r u s e key)[2]? = some (.int .i64 s) := by
  unfold tk; rw [Array.getElem?_append_left (by simp)]; rfl
theorem tk_3 (r : ByteArray) (u : Value) (s e : Int) (key : Nat → Nat) : (tk r u s e key)[3]? = some (.int .i64 e) := by
  unfold tk; rw [Array.getElem?_append_left (by simp)]; rfl
theorem tk_key (r : ByteArray) (u : Value) (s e : Int) (key : Nat → Nat) (j : Nat) : (tk r u s e key)[4 + j]? = (arr .u8 16 key)[j]? := by
  unfold tk; rw [Array.getElem?_append_right (by simp)]; simp
set_option maxRecDepth 100000 in
theorem info_tk (r : ByteArray) (u : Value) (s e : Int) (key : Nat → Nat) : (Tryz.prog.info? 41).map (·.size) = some (tk r u s e key).size := by rw [tk_size]; kernel_rfl
def Tb (W : World) (b : Nat) (r : ByteArray) (u : Value) (ss : List ByteArray) (s e : Int) (key : Nat → Nat) : Prop := Hb W b (tk r u s e key) 41 ∧ Ss W u ss ∧ r.size ≤ maxLen ∧ Aes.B8 key
section
variable {W : World} {b : Nat} {r : ByteArray} {u : Value} {ss : List ByteArray} {s e : Int} {key : Nat → Nat}
theorem Tb.new (h : Ss W u ss) (hr : r.size ≤ maxLen) (hk : Aes.B8 key) : Tb (W.alloc (.cells (tk r u s e key) 41)) W.heap.size r u ss s e key := ⟨Hb.new _ _ _, h.only (only_alloc (only_refl W none) _), hr, hk⟩
theorem Tb.below {W' : World} (h : Tb W b r u ss s e key) (k : Below W.heap.size W W') : Tb W' b r u ss s e key := ⟨(k.block b h.1.lt).trans h.1, h.2.1.below k, h.2.2⟩
theorem Tb.only {W' : World} (h : Tb W b r u ss s e key) (k : W.grownBy W' none) : Tb W' b r u ss s e key := h.below (below_of_only k)
theorem Tb.alloc (h : Tb W b r u ss s e key) (o : Obj) : Tb (W.alloc o) b r u ss s e key := h.only (only_alloc (only_refl W none) o)
theorem Tb.c0 (h : Tb W b r u ss s e key) : W.cell? ⟨b, 0, none⟩ = some (.string r) := h.1.cell (tk_0 _ _ _ _ _)
theorem Tb.c1 (h : Tb W b r u ss s e key) : W.cell? ⟨b, 1, none⟩ = some u := h.1.cell (tk_1 _ _ _ _ _)
theorem Tb.c2 (h : Tb W b r u ss s e key) : W.cell? ⟨b, 2, none⟩ = some (.int .i64 s) := h.1.cell (tk_2 _ _ _ _ _)
theorem Tb.c3 (h : Tb W b r u ss s e key) : W.cell? ⟨b, 3, none⟩ = some (.int .i64 e) := h.1.cell (tk_3 _ _ _ _ _)
theorem Tb.ck (h : Tb W b r u ss s e key) : ∀ j v, (arr .u8 16 key)[j]? = some v → W.cell? ((⟨b, 4, none⟩ : Addr).add j) = some v := fun j v hj => by
  rw [Addr.add_lit]
  exact h.1.cell ((tk_key _ _ _ _ _ j).trans hj)
end
def tic (r : ByteArray) (ss : List ByteArray) (s e : Int) (key : Nat → Nat) : Tic.T := ⟨nm r ss, s, e, Sea.nl 16 key⟩
theorem wpList_load_arrG {P : Program} {ops : Array Oper} {rest : List Oper} {o : Oper} {a : Act} {w : World} {Q : Exit → Act → World → Prop} (hw : Region.wanted o (yielded ops a.tmps) = true) (ty : TypeId) (x : Operand) (ho : o.op = .load ty x)
    (ad : Addr) (hx : a.eval x = .pointer (some ad)) (cs : Array Value) (d : TypeDesc) (hc : ∀ j v, cs[j]? = some v → w.cell? (ad.add j) = some v)
    (hu : P.underlying ty = some d) (hd : (match d with | .struct _ | .array _ _ => true | _ => false) = true) (hi : (P.info? ty).map (·.size) = some cs.size)
    (h : wpList P ops Q rest (a.put o.dst (.agg cs)) w) : wpList P ops Q (o :: rest) a w := by
  refine wpList_step fun K hK => ?_
  rw [if_pos hw]
  unfold Oper.wp execOp
  simp only [ho, hx, Instr.loadAt, Instr.sureAddr, Sem.run_bind, Sem.run_pure, Result.andThen_ok, run_loadVar_arr w ad ty cs d hc hu hd hi]
  exact hK _ _ h
set_option maxRecDepth 100000 in
set_option maxHeartbeats 2000000 in
theorem tkvalid_any (r : ByteArray) (u : Value) (ss : List ByteArray) (s e : Int) (key : Nat → Nat) (w : World) (hr : r.size ≤ maxLen) (h : Ss w u ss) :
    Calls Tryz.prog 108 #[.agg (tk r u s e key)] w fun x w' => x = .returned (.bool (Tic.valid (tic r ss s e key))) ∧ w.grownBy w' none := by
  have hsz := tk_size r u s e key
  have hb := Hb.new w (tk r u s e key) 41
  have c0 := hb.cell (tk_0 r u s e key)
  have c1 := hb.cell (tk_1 r u s e key)
  have G0 := only_alloc (only_refl w none) (.cells (tk r u s e key) 41)
  obtain ⟨ua, uc, rfl⟩ := h.form
  have H := Lib.hid h; clear h
  generalize hR : Tic.valid (tic r ss s e key) = R
  have HR := Lib.hid (show (Nam.valid (nm r ss) && decide (0 ≤ s) && decide (s ≤ e) && decide (e ≤ 1099511627776)) = R from hR)
  clear hR
  go_enter Tryz.func108, Tryz.ntmps108
  go_wp2_with fail
  refine (valid_any r hr _ ss _ (H.out.only G0)).mono ?_
  rintro x w1 ⟨rfl, g1⟩
  have G1 := only_trans G0 g1
  have h1 := hb.only g1
  have c2 := h1.cell (tk_2 _ _ _ _ _)
  have c3 := h1.cell (tk_3 _ _ _ _ _)
  clear hb c0 c1
  cases hv : Nam.valid (nm r ss)
  all_goals (
    rw [hv] at HR
    go_wp2_with fail
    all_goals (
      go_ret
      refine ⟨?_, G1⟩
      rw [← HR.out]
      first | rfl | (congr 2; done) | (congr 2; simp; done) | (congr 2; simp; omega) | (congr 2; simp; intros; omega)))

end Go.Proofs.YtnhchdkchohnbaaGreatDoor
