/- Layer 13: an authenticator in memory; Valid and Same, in the program and in the reference. -/
import Derived.Test.YtnhchdkchohnbaaGreatDoorTicG
namespace Go.Proofs.YtnhchdkchohnbaaGreatDoor
open Go.RowKit Go.Deep

def au (r : ByteArray) (u : Value) (t : Int) (m s : Nat) : Array Value := #[.string r, u, .int .i64 t, .int .u32 (m : Int), .int .u32 (s : Int)]
section
variable (r : ByteArray) (u : Value) (t : Int) (m s : Nat)
theorem au_size : (au r u t m s).size = 5 := rfl
theorem au_0 : (au r u t m s)[0]? = some (.string r) := rfl
theorem au_1 : (au r u t m s)[1]? = some u := rfl
theorem au_2 : (au r u t m s)[2]? = some (.int .i64 t) := rfl
theorem au_3 : (au r u t m s)[3]? = some (.int .u32 (m : Int)) := rfl
theorem au_4 : (au r u t m s)[4]? = some (.int .u32 (s : Int)) := rfl
set_option maxRecDepth 100000 in
theorem info_au : (Tryz.prog.info? 32).map (·.size) = some (au r u t m s).size := by rw [au_size]; kernel_rfl
theorem au_one (h : u.oneCell' = true) : (au r u t m s).all (·.oneCell') = true := by
  unfold au
  simp only [List.all_toArray, List.all_cons, List.all_nil, h]
  rfl
end
def Ab (W : World) (b : Nat) (r : ByteArray) (u : Value) (ss : List ByteArray) (t : Int) (m s : Nat) : Prop := Hb W b (au r u t m s) 32 ∧ Ss W u ss ∧ r.size ≤ maxLen ∧ m < 4294967296 ∧ s < 4294967296
section
variable {W : World} {b : Nat} {r : ByteArray} {u : Value} {ss : List ByteArray} {t : Int} {m s : Nat}
theorem Ab.new (h : Ss W u ss) (hr : r.size ≤ maxLen) (hm : m < 4294967296) (hs : s < 4294967296) : Ab (W.alloc (.cells (au r u t m s) 32)) W.heap.size r u ss t m s := ⟨Hb.new _ _ _, h.only (only_alloc (only_refl W none) _), hr, hm, hs⟩
theorem Ab.below {W' : World} (h : Ab W b r u ss t m s) (k : Below W.heap.size W W') : Ab W' b r u ss t m s := ⟨(k.block b h.1.lt).trans h.1, h.2.1.below k, h.2.2⟩
theorem Ab.only {W' : World} (h : Ab W b r u ss t m s) (k : W.grownBy W' none) : Ab W' b r u ss t m s := h.below (below_of_only k)
theorem Ab.alloc (h : Ab W b r u ss t m s) (o : Obj) : Ab (W.alloc o) b r u ss t m s := h.only (only_alloc (only_refl W none) o)
theorem Ab.c0 (h : Ab W b r u ss t m s) : W.cell? ⟨b, 0, none⟩ = some (.string r) := h.1.cell (au_0 _ _ _ _ _)
theorem Ab.c1 (h : Ab W b r u ss t m s) : W.cell? ⟨b, 1, none⟩ = some u := h.1.cell (au_1 _ _ _ _ _)
theorem Ab.c2 (h : Ab W b r u ss t m s) : W.cell? ⟨b, 2, none⟩ = some (.int .i64 t) := h.1.cell (au_2 _ _ _ _ _)
theorem Ab.c3 (h : Ab W b r u ss t m s) : W.cell? ⟨b, 3, none⟩ = some (.int .u32 (m : Int)) := h.1.cell (au_3 _ _ _ _ _)
theorem Ab.c4 (h : Ab W b r u ss t m s) : W.cell? ⟨b, 4, none⟩ = some (.int .u32 (s : Int)) := h.1.cell (au_4 _ _ _ _ _)
theorem Ab.cells (h : Ab W b r u ss t m s) : ∀ j v, (au r u t m s)[j]? = some v → W.cell? ((⟨b, 0, none⟩ : Addr).add j) = some v := fun j v hj => by
  rw [Addr.add_lit, Nat.zero_add]; exact h.1.cell hj
theorem Ab.cn (h : Ab W b r u ss t m s) : ∀ (j : Nat) (v : Value), (#[.string r, u] : Array Value)[j]? = some v → W.cell? ((⟨b, 0, none⟩ : Addr).add j) = some v := fun j v hj => by
  rw [Addr.add_lit, Nat.zero_add]
  match j, hj with
  | 0, hj => cases hj; exact h.c0
  | 1, hj => cases hj; exact h.c1
theorem Ab.far (h : Ab W b r u ss t m s) {p : Addr} (hb : b ≠ p.block) (hu : ∀ g, u.ownBlock = some g → g ≠ p.block) (x : Value) : Ab (W.setCell p x) b r u ss t m s := ⟨h.1.far hb x, h.2.1.far hu x, h.2.2⟩
theorem Ab.micro (h : Ab W b r u ss t m s) (hu : ∀ g, u.ownBlock = some g → g ≠ b) (m' : Nat) (hm : m' < 4294967296) : Ab (W.setCell ⟨b, 3, none⟩ (.int .u32 (m' : Int))) b r u ss t m' s :=
  ⟨h.1.set 3 (.int .u32 (m' : Int)), h.2.1.far hu _, h.2.2.1, hm, h.2.2.2.2⟩
end
def aut (r : ByteArray) (ss : List ByteArray) (t : Int) (m s : Nat) : Aut.A := ⟨nm r ss, t, m, s⟩
def asame (r : ByteArray) (ss : List ByteArray) (t : Int) (m s : Nat) (q : ByteArray) (tt : List ByteArray) (t' : Int) (m' s' : Nat) : Bool := decide (r = q ∧ ss = tt) && decide (t = t') && decide (m = m') && decide (s = s')
theorem asame_of {r q : ByteArray} {ss tt : List ByteArray} {t t' : Int} {m s m' s' : Nat} (h : aut r ss t m s = aut q tt t' m' s') : asame r ss t m s q tt t' m' s' = true := by
  unfold aut at h
  simp only [Aut.A.mk.injEq] at h
  obtain ⟨h1, rfl, rfl, rfl⟩ := h
  obtain ⟨rfl, rfl⟩ := nm_inj.1 h1
  unfold asame
  simp
set_option maxRecDepth 100000 in
set_option maxHeartbeats 2000000 in
theorem auvalid_any (r : ByteArray) (u : Value) (ss : List ByteArray) (t : Int) (m s : Nat) (w : World) (hr : r.size ≤ maxLen) (h : Ss w u ss) :
    Calls Tryz.prog 32 #[.agg (au r u t m s)] w fun x w' => x = .returned (.bool (Aut.valid (aut r ss t m s))) ∧ w.grownBy w' none := by
  have hsz := au_size r u t m s
  have hb := Hb.new w (au r u t m s) 32
  have c0 := hb.cell (au_0 r u t m s)
  have c1 := hb.cell (au_1 r u t m s)
  have G0 := only_alloc (only_refl w none) (.cells (au r u t m s) 32)
  obtain ⟨ua, uc, rfl⟩ := h.form
  have H := Lib.hid h; clear h
  generalize hR : Aut.valid (aut r ss t m s) = R
  have HR := Lib.hid (show (Nam.valid (nm r ss) && decide (0 ≤ t) && decide (t ≤ 1099511627776) && decide (m ≤ 999999)) = R from hR)
  clear hR
  go_enter Tryz.func32, Tryz.ntmps32
  go_wp2_with fail
  refine (valid_any r hr _ ss _ (H.out.only G0)).mono ?_
  rintro x w1 ⟨rfl, g1⟩
  have G1 := only_trans G0 g1
  have h1 := hb.only g1
  have c2 := h1.cell (au_2 _ _ _ _ _)
  have c3 := h1.cell (au_3 _ _ _ _ _)
  clear hb c0 c1
  cases hv : Nam.valid (nm r ss)
  all_goals (
    rw [hv] at HR
    go_wp2_with fail
    all_goals (
      go_ret
      refine ⟨?_, G1⟩
      rw [← HR.out]
      refine congrArg (fun b => Ending.returned (Value.bool b)) (?_ : (_ : Bool) = _)
      first | rfl | (simp; done) | (simp_all; done) | (simp; omega) | (simp; intros; omega) | (rw [Bool.eq_iff_iff]; simp; omega) | (rw [Bool.eq_iff_iff]; simp_all; omega) | (rw [Bool.eq_iff_iff]; simp; intros; omega)))

set_option maxRecDepth 100000 in
set_option maxHeartbeats 2000000 in
theorem ausame_any (r q : ByteArray) (u v : Value) (ss tt : List ByteArray) (t t' : Int) (m s m' s' : Nat) (w : World) (_hr : r.size ≤ maxLen) (_hq : q.size ≤ maxLen) (hu : Ss w u ss) (hv : Ss w v tt) :
    Calls Tryz.prog 31 #[.agg (au r u t m s), .agg (au q v t' m' s')] w fun x w' => x = .returned (.bool (asame r ss t m s q tt t' m' s')) ∧ w.grownBy w' none := by
  have hsz := au_size r u t m s
  have hsz' := au_size q v t' m' s'
  have TA := (Hb.new w (au r u t m s) 32).alloc (.cells (au q v t' m' s') 32)
  have G0 := only_alloc (only_refl w none) (.cells (au r u t m s) 32)
  have TB := Hb.new (w.alloc (.cells (au r u t m s) 32)) (au q v t' m' s') 32
  have G1 := only_alloc G0 (.cells (au q v t' m' s') 32)
  have HU := Lib.hid (hu.only G1)
  have HV := Lib.hid (hv.only G1)
  simp only [World.size_alloc] at TB
  obtain ⟨ua, uc, rfl⟩ := hu.form
  obtain ⟨va, vc, rfl⟩ := hv.form
  generalize hR : asame r ss t m s q tt t' m' s' = R
  have HR := Lib.hid (show (decide (r = q ∧ ss = tt) && decide (t = t') && decide (m = m') && decide (s = s')) = R from hR)
  clear hu hv hR
  have c0 := TA.cell (au_0 _ _ _ _ _)
  have c1 := TA.cell (au_1 _ _ _ _ _)
  have d0 := TB.cell (au_0 _ _ _ _ _)
  have d1 := TB.cell (au_1 _ _ _ _ _)
  go_enter Tryz.func31, Tryz.ntmps31
  go_wp2_with fail
  refine (same_name r q _ _ ss tt _ HU.out HV.out).mono ?_
  rintro x w1 ⟨rfl, g1⟩
  have G2 := only_trans G1 g1
  have TA1 := TA.only g1
  have TB1 := TB.only g1
  have c2 := TA1.cell (au_2 _ _ _ _ _)
  have c3 := TA1.cell (au_3 _ _ _ _ _)
  have c4 := TA1.cell (au_4 _ _ _ _ _)
  have d2 := TB1.cell (au_2 _ _ _ _ _)
  have d3 := TB1.cell (au_3 _ _ _ _ _)
  have d4 := TB1.cell (au_4 _ _ _ _ _)
  clear TA TB TA1 TB1 c0 c1 d0 d1
  cases hd : decide (r = q ∧ ss = tt)
  all_goals (
    rw [hd] at HR
    go_wp2_with fail
    all_goals (
      go_ret
      refine ⟨?_, G2⟩
      rw [← HR.out]
      refine congrArg (fun b => Ending.returned (Value.bool b)) (?_ : (_ : Bool) = _)
      first | rfl | (simp; done) | (simp_all; done) | (simp; omega) | (simp; intros; omega) | (rw [Bool.eq_iff_iff]; simp; omega) | (rw [Bool.eq_iff_iff]; simp_all; omega) | (rw [Bool.eq_iff_iff]; simp; intros; omega)))

set_option maxRecDepth 100000 in
set_option maxHeartbeats 2000000 in
theorem refausame_any (r q : ByteArray) (u v : Value) (ss tt : List ByteArray) (t t' : Int) (m s m' s' : Nat) (w : World) (_hr : r.size ≤ maxLen) (_hq : q.size ≤ maxLen) (hu : Ss w u ss) (hv : Ss w v tt) :
    Calls Tryz.prog 11 #[.agg (au r u t m s), .agg (au q v t' m' s')] w fun x w' => x = .returned (.bool (asame r ss t m s q tt t' m' s')) ∧ w.grownBy w' none := by
  have hsz := au_size r u t m s
  have hsz' := au_size q v t' m' s'
  have TA := (Hb.new w (au r u t m s) 32).alloc (.cells (au q v t' m' s') 32)
  have G0 := only_alloc (only_refl w none) (.cells (au r u t m s) 32)
  have TB := Hb.new (w.alloc (.cells (au r u t m s) 32)) (au q v t' m' s') 32
  have G1 := only_alloc G0 (.cells (au q v t' m' s') 32)
  have HU := Lib.hid (hu.only G1)
  have HV := Lib.hid (hv.only G1)
  simp only [World.size_alloc] at TB
  obtain ⟨ua, uc, rfl⟩ := hu.form
  obtain ⟨va, vc, rfl⟩ := hv.form
  generalize hR : asame r ss t m s q tt t' m' s' = R
  have HR := Lib.hid (show (decide (r = q ∧ ss = tt) && decide (t = t') && decide (m = m') && decide (s = s')) = R from hR)
  clear hu hv hR
  have c0 := TA.cell (au_0 _ _ _ _ _)
  have c1 := TA.cell (au_1 _ _ _ _ _)
  have d0 := TB.cell (au_0 _ _ _ _ _)
  have d1 := TB.cell (au_1 _ _ _ _ _)
  go_enter Tryz.func11, Tryz.ntmps11
  go_wp2_with fail
  refine (refsame_name r q _ _ ss tt _ HU.out HV.out).mono ?_
  rintro x w1 ⟨rfl, g1⟩
  have G2 := only_trans G1 g1
  have TA1 := TA.only g1
  have TB1 := TB.only g1
  have c2 := TA1.cell (au_2 _ _ _ _ _)
  have c3 := TA1.cell (au_3 _ _ _ _ _)
  have c4 := TA1.cell (au_4 _ _ _ _ _)
  have d2 := TB1.cell (au_2 _ _ _ _ _)
  have d3 := TB1.cell (au_3 _ _ _ _ _)
  have d4 := TB1.cell (au_4 _ _ _ _ _)
  clear TA TB TA1 TB1 c0 c1 d0 d1
  cases hd : decide (r = q ∧ ss = tt)
  all_goals (
    rw [hd] at HR
    go_wp2_with fail
    all_goals (
      go_ret
      refine ⟨?_, G2⟩
      rw [← HR.out]
      refine congrArg (fun b => Ending.returned (Value.bool b)) (?_ : (_ : Bool) = _)
      first | rfl | (simp; done) | (simp_all; done) | (simp; omega) | (simp; intros; omega) | (rw [Bool.eq_iff_iff]; simp; omega) | (rw [Bool.eq_iff_iff]; simp_all; omega) | (rw [Bool.eq_iff_iff]; simp; intros; omega)))
end Go.Proofs.YtnhchdkchohnbaaGreatDoor
