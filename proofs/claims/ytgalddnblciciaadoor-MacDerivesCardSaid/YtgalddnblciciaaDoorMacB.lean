import Derived.Test.YtgalddnblciciaaDoorMacA
import Derived.Test.YtgalddnblciciaaDoorShaS
import Derived.Test.YtgalddnblciciaaDoorHeld
namespace Go.Proofs.YtgalddnblciciaaDoor
open Go.RowKit Go.Deep

theorem setRow_grown (w : World) (g : Nat) (cs : Array Value) : w.grownBy (w.setRow g cs) (some g) := only_setRow (only_refl w (some g)) cs
/-- A copy of bytes that can be read onto the front of an array of the call's own. -/
theorem wpList_copy_rs {w : World} {ops : Array Oper} {rest : List Oper} {o : Oper} {a : Act} {Q : Exit → Act → World → Prop} (hgd : o.guard = none) (d s : Operand)
    (ho : o.op = .call { callee := .builtin .copy, args := #[d, s], argTypes := #[24, 24] }) (g n : Nat) (t : TypeId) (f : Nat → Nat) (hd : a.eval d = .slice (some ⟨g, 0, none⟩) n n) (hg : isArr w g t .u8 n f)
    (x : Value) (l : List Nat) (hs : a.eval s = x) (hx : Rs w x l)
    (h : ∀ w', isArr w' g t .u8 n (fun i => if i < l.length then l.getD i 0 else f i) → w.grownBy w' (some g) → wpList Tryd.prog ops Q rest (a.put o.dst (goInt (Nat.min l.length n))) w') : wpList Tryd.prog ops Q (o :: rest) a w := by
  obtain ⟨i0, hi, hz0, hz1, hz2⟩ := info_parts info_u8
  have hsz : (Tryd.prog.info? 5).map (·.size) = some 1 := by rw [hi]; simp [hz1]
  by_cases h0 : Nat.min l.length n = 0
  · obtain ⟨xa, xc, rfl⟩ := hx.form
    refine wpList_copy_nothing hgd d s 24 24 ho 5 Tryd.underlying24 hsz _ _ _ _ _ _ hd hs h0 ?_
    have := h w (hg.congr fun i hi => by
      rw [if_neg]
      intro hlt
      rcases Nat.le_total l.length n with h' | h'
      · have : Nat.min l.length n = l.length := Nat.min_eq_left h'
        omega
      · have : Nat.min l.length n = n := Nat.min_eq_right h'
        omega) (only_refl _ _)
    rw [h0] at this
    exact this
  · rcases hx.2.2 with ⟨rfl, rfl⟩ | ⟨ad, cap, rfl, _, hc⟩
    · simp at h0
    · obtain ⟨m, hm⟩ : ∃ m, m = Nat.min l.length n := ⟨_, rfl⟩
      have hm1 : m ≤ l.length := by rw [hm]; exact Nat.min_le_left _ _
      have hm2 : m ≤ n := by rw [hm]; exact Nat.min_le_right _ _
      have hm3 : m = l.length ∨ m = n := by rw [hm]; rcases Nat.le_total l.length n with h | h; exact .inl (Nat.min_eq_left h); exact .inr (Nat.min_eq_right h)
      have hlen : (l.take m).length = m := by rw [List.length_take]; omega
      refine wpList_copy_own hgd d s 24 24 ho 5 Tryd.underlying24 hsz g 0 n n ad l.length cap hd hs (arr .u8 n f) t hg ((l.take m).map bv) (by rw [List.length_map, hlen, hm]) ?_ (by rw [List.length_map, hlen, arr_size]; omega) ?_ ?_
      · intro j v hj
        have hjm : j < m := by
          rcases Nat.lt_or_ge j m with h' | h'
          · exact h'
          · rw [List.getElem?_eq_none (by rw [List.length_map, hlen]; exact h')] at hj; cases hj
        rw [hc j (by omega)]
        rw [List.getElem?_map, List.getElem?_take, if_pos hjm, List.getElem?_eq_getElem (by omega)] at hj
        simp [List.getD, show j < l.length by omega] at hj ⊢
        exact hj
      · intro v hv
        obtain ⟨_, _, rfl⟩ := List.mem_map.1 hv
        rfl
      · have e := arr_over n f 0 (l.take m) (by rw [hlen]; omega)
        rw [List.length_map, e, hlen, hm]
        refine h _ ((show isArr _ g t .u8 n _ from setRow_heap w g _ _ _ (0, 0) hg).congr fun i hi => ?_) (setRow_grown w g _)
        rw [← hm]
        by_cases hil : i < l.length
        · rw [if_pos hil, if_pos ⟨Nat.zero_le _, by omega⟩, Nat.sub_zero, getD_take _ _ _ (by omega)]
        · rw [if_neg hil, if_neg (by omega)]

namespace Mac
/-- The digest as a list. -/
def dl (l : List Nat) : List Nat := (List.range 32).map (Sha.dig l)
theorem dl_length (l : List Nat) : (dl l).length = 32 := by simp [dl]
theorem dl_get (l : List Nat) (i : Nat) (h : i < 32) : (dl l).getD i 0 = Sha.dig l i := by simp [dl, List.getD, h]
/-- The key that is padded. -/
def k0 (key : List Nat) : List Nat := if 64 < key.length then dl key else key
def p0 (key : List Nat) (i : Nat) : Nat := (k0 key).getD i 0
/-- The code. -/
def hm (key msg : List Nat) : Nat → Nat := Sha.dig (fr (p0 key) 92 ++ dl (fr (p0 key) 54 ++ msg))
theorem k0_all {key : List Nat} (h : AllB key) : AllB (k0 key) := by
  unfold k0
  split
  · intro x hx
    obtain ⟨i, _, rfl⟩ := List.mem_map.1 hx
    exact Sha.dig_lt _ _
  · exact h
theorem p0_lt {key : List Nat} (h : AllB key) (i : Nat) : p0 key i < 256 := (k0_all h).get i
theorem p0_pad (key : List Nat) (i : Nat) : (if i < (k0 key).length then (k0 key).getD i 0 else 0) = p0 key i := by
  unfold p0
  split
  · rfl
  · rename_i h
    simp [List.getD, List.getElem?_eq_none (show (k0 key).length ≤ i by omega)]
end Mac

theorem macjoin_at (p : Nat → Nat) (xi : Int) (x bp : Nat) (v : Value) (ll : List (List Nat)) (w : World) (e : xi = (x : Int)) (hx : x < 256) (hp : isArr w bp 33 .u8 64 p) (hp8 : ∀ i, i < 64 → p i < 256)
    (hb : Bss w v ll) (hlen : (Wir.join ll).length ≤ 140737488354000) (hn : ll.length ≤ 1000000) (hK : Consts w Sha.tab) :
    Calls Tryd.prog 44 #[.int .u8 xi, v, .pointer (some ⟨bp, 0, none⟩)] w fun e w' => e = .returned (.agg (arr .u8 32 (Sha.dig (Mac.fr p x ++ Wir.join ll)))) ∧ Below w.heap.size w w' := by
  subst e; exact macjoin_any p x bp v ll w hx hp hp8 hb hlen hn hK

attribute [local irreducible] wpAnyH in
set_option maxRecDepth 100000 in
set_option maxHeartbeats 4000000 in
theorem macsum_any (key : List Nat) (kv v : Value) (ll : List (List Nat)) (w : World) (hk : Rs w kv key) (hkl : key.length ≤ 140737488354000) (hb : Bss w v ll) (hlen : (Wir.join ll).length ≤ 140737488354000) (hn : ll.length ≤ 1000000) (hK : Consts w Sha.tab) :
    Calls Tryd.prog 29 #[kv, v] w fun e w' => e = .returned (.agg (arr .u8 32 (Mac.hm key (Wir.join ll)))) ∧ Below w.heap.size w w' := by
  have HK := Lib.hid hK; clear hK
  have HB := Lib.hid hb; clear hb
  have HQ := Lib.hid hk
  obtain ⟨ka, kcap, rfl⟩ := hk.form
  have hall := Lib.hid hk.all
  clear hk
  obtain ⟨m, hm⟩ : ∃ m, m = key.length := ⟨_, rfl⟩
  rw [← hm] at HQ hkl ⊢
  have HM := Lib.hid hm; clear hm
  have hi32 : ∀ f, ((Tryd.prog).info? 26).map (·.size) = some (arr .u8 32 f).size := by intro f; rw [arr_size]; rfl
  go_enter Tryd.func29, Tryd.ntmps29
  go_upto_region 2 with fail
  generalize hU : (w.alloc _).alloc _ = U
  have hUs : U.heap.size = w.heap.size + 2 := by rw [← hU]; simp
  have hUb : Below w.heap.size w U := by rw [← hU]; exact ((Below.refl _ _).alloc (Nat.le_refl _) _).alloc (by simp) _
  have hUr : ∃ c : Array Value, U.heap[w.heap.size]? = some (.cells c 26 (0, 0)) ∧ c.size = 32 := by
    rw [← hU]; exact ⟨_, (Below.heap_alloc _ _ _ (by simp)).trans (heap_alloc_new _ _), rfl⟩
  have hUp : isArr U (w.heap.size + 1) 33 .u8 64 (fun _ => 0) := by
    have e : w.heap.size + 1 = (w.alloc (.cells (Array.replicate 32 (.int .u8 0)) 26)).heap.size := by simp
    rw [← hU, e]
    exact isArr_lit _ _ _ _ _ (Array.replicate 64 (.int .u8 0)) (by simp) (fun i hi => zeros_get _ _ _ hi)
  clear hU
  obtain ⟨gp, hgp⟩ : ∃ gp, gp = w.heap.size + 1 := ⟨_, rfl⟩
  rw [← hgp] at hUp ⊢
  have HU := Lib.hid (And.intro hUs (And.intro hUb (And.intro hUr (And.intro hUp hgp))))
  clear hUs hUb hUr hUp hgp
  by_cases hlong : 64 < m
  · have hd : decide ((64 : Int) < (m : Int)) = true := by simp; omega
    go_upto_region 4 with (first | (go_at_call 15; go_must (refine (sum_dig _ [key] _ (bss_one (HM.out ▸ HQ.out.below HU.out.2.1)) (by simp [Wir.join]; have := HM.out; omega) (HK.out.below (HU.out.2.1.alloc HU.out.2.1.size _))).mono ?_; rintro e w1 ⟨rfl, hb1⟩)) | (refine wpList_store_rowTo rfl _ _ _ rfl rfl w1.heap.size _ rfl rfl _ _ (heap_alloc_new _ _) (hi32 _) (by rw [arr_size]; rfl) (arr_one _ _ _) ?_; generalize hV : World.setRow _ w1.heap.size _ = V))
    have hz1 := hb1.size
    have hs1 : U.heap.size ≤ w1.heap.size := by have := hb1.size; simp at this; omega
    have hbU1 : Below U.heap.size U w1 := ((Below.refl _ _).alloc (Nat.le_refl _) _).trans (hb1.mono (by simp))
    have hbUV : Below U.heap.size U V := by rw [← hV]; exact below_setRow (hbU1.alloc hs1 _) hs1 _
    have hBV : Below w.heap.size w V := HU.out.2.1.trans (hbUV.mono HU.out.2.1.size)
    have hRV : ∃ c : Array Value, V.heap[w.heap.size]? = some (.cells c 26 (0, 0)) ∧ c.size = 32 := by
      obtain ⟨c, e1, e2⟩ := HU.out.2.2.1
      exact ⟨c, (hbUV.block w.heap.size (lt_of_block e1)).trans e1, e2⟩
    have hpV : isArr V gp 33 .u8 64 (fun _ => 0) := HU.out.2.2.2.1.below hbUV HU.out.2.2.2.1.lt
    have hdV : isArr V w1.heap.size 26 .u8 32 (Sha.dig (Wir.join [key])) := by rw [← hV]; exact setRow_heap _ _ _ _ _ _ (heap_alloc_new _ _)
    have hdr : Rs V (.slice (some ⟨w1.heap.size, 0, none⟩) 32 32) (Mac.dl key) := by
      have := rs_arr hdV (fun i _ => Sha.dig_lt _ _) (by omega)
      rw [show Wir.join [key] = key from by simp [Wir.join]] at this
      exact this
    have hK0 : Mac.dl key = Mac.k0 key := by unfold Mac.k0; rw [if_pos (by have := HM.out; omega)]
    clear hV hz1 hs1 hbU1 hbUV hdV hb1
    generalize w1.heap.size = gd at hdr ⊢
    refine wp_region_held_drew (S := fun _ => True) (by kernel_rfl) trivial (fun _ => ?_)
    change wpAnyH _ _ _ _ _ 3 #[false, false, false] _ (V.drewN 1)
    refine held_take 0 (some 15) rfl rfl (by kernel_rfl) (by kernel_rfl) (by kernel_rfl) (fun _ _ _ _ h => h) (by kernel_rfl) (.slice (some ⟨gp, 0, none⟩) 64 64) (fun _ _ => by kernel_rfl) trivial ?_
    simp only [Act.put, List.setIfInBounds_toArray, List.set_cons_zero, List.set_cons_succ]
    refine held_take 1 (some 16) rfl rfl (by kernel_rfl) (by kernel_rfl) (by kernel_rfl) (fun _ _ _ _ h => h) (by kernel_rfl) (.slice (some ⟨gd, 0, none⟩) 32 32) (fun _ _ => by kernel_rfl) trivial ?_
    simp only [Act.put, List.setIfInBounds_toArray, List.set_cons_zero, List.set_cons_succ]
    refine held_one 2 (by kernel_rfl) rfl (HStep.of_law #[] (by kernel_rfl) fun K hK => ?_)
    refine wpList_copy_rs rfl (.tmp 15) (.tmp 16) rfl gp 64 _ _ rfl (hpV.drewN 1) _ _ rfl (hdr.below (below_drewN (Below.refl _ _) 1)) ?_
    intro V2 hA2 hG2
    have hG2 := only_trans (only_drewN (only_refl V (some gp)) 1) hG2
    refine hK _ _ trivial ?_
    change wpAnyH _ _ _ _ _ _ _ (Act.put _ (some 17) _) V2
    simp only [Act.put, List.setIfInBounds_toArray, List.set_cons_zero, List.set_cons_succ]
    refine wpAnyH_done (by kernel_rfl) ?_ _
    go_upto_region 6 with fail
    have hA' : isArr V2 gp 33 .u8 64 (Mac.p0 key) := hA2.congr fun i _ => (by rw [hK0]; exact Mac.p0_pad key i)
    have hB2 : Below w.heap.size w V2 := below_only hBV (Nat.le_refl _) hG2 (fun g hg => by have := HU.out.2.2.2.2; simp at hg; omega)
    have hR2 : ∃ c : Array Value, V2.heap[w.heap.size]? = some (.cells c 26 (0, 0)) ∧ c.size = 32 := by
      obtain ⟨c, e1, e2⟩ := hRV
      exact ⟨c, (hG2.block w.heap.size (lt_of_block e1) (by have := HU.out.2.2.2.2; simp; omega)).trans e1, e2⟩
    have F := Lib.hid (And.intro hA' (And.intro hB2 hR2))
    have hgp : w.heap.size < gp := by have := HU.out.2.2.2.2; omega
    have hp8 : ∀ i, i < 64 → Mac.p0 key i < 256 := fun i _ => Mac.p0_lt hall.out i
    have HP := Lib.hid hp8
    clear hA2 hG2 hBV hRV hA' hB2 hR2 hp8 hd hK0
    generalize hpk : Mac.p0 key = pk at F HP
    have HH := Lib.hid (show Mac.hm key (Wir.join ll) = Sha.dig (Mac.fr pk 92 ++ Mac.dl (Mac.fr pk 54 ++ Wir.join ll)) from by unfold Mac.hm; rw [hpk])
    clear hpk
    go_upto_region 8 with (first | (go_at_call 44; go_must (refine (macjoin_at pk _ 54 gp v ll _ rfl (by omega) F.out.1 HP.out (HB.out.below F.out.2.1) hlen hn (HK.out.below F.out.2.1)).mono ?_; rintro e w3 ⟨rfl, hb3⟩)) | (refine wpList_store_rowTo rfl _ _ _ rfl rfl w3.heap.size _ rfl rfl _ _ (heap_alloc_new _ _) (hi32 _) (by rw [arr_size]; rfl) (arr_one _ _ _) ?_; generalize hV3 : World.setRow _ w3.heap.size _ = V3))
    have hlt3 := F.out.1.lt
    have hz3 := hb3.size
    have hbV3 : Below V2.heap.size V2 V3 := by rw [← hV3]; exact below_setRow (hb3.alloc hb3.size _) hb3.size _
    have hA3 : isArr V3 w3.heap.size 26 .u8 32 (Sha.dig (Mac.fr pk 54 ++ Wir.join ll)) := by rw [← hV3]; exact setRow_heap _ _ _ _ _ _ (heap_alloc_new _ _)
    have hr3 : Rs V3 (.slice (some ⟨w3.heap.size, 0, none⟩) 32 32) (Mac.dl (Mac.fr pk 54 ++ Wir.join ll)) := rs_arr hA3 (fun i _ => Sha.dig_lt _ _) (by omega)
    have hbw3 : Below w.heap.size w V3 := F.out.2.1.trans (hbV3.mono F.out.2.1.size)
    have hA4 : isArr V3 gp 33 .u8 64 pk := F.out.1.below hbV3 hlt3
    have hR3 : ∃ c : Array Value, V3.heap[w.heap.size]? = some (.cells c 26 (0, 0)) ∧ c.size = 32 := by
      obtain ⟨c, e1, e2⟩ := F.out.2.2
      exact ⟨c, (hbV3.block w.heap.size (lt_of_block e1)).trans e1, e2⟩
    have G := Lib.hid (And.intro hr3 (And.intro hbw3 hA4))
    obtain ⟨cres, e1, e2⟩ := hR3
    have hlr := lt_of_block e1
    have E1 := Lib.hid e1
    clear hV3 hb3 hz3 hbV3 hA3 hr3 hbw3 hA4 e1
    generalize w3.heap.size = gi at G ⊢
    have hdl : (Wir.join [Mac.dl (Mac.fr pk 54 ++ Wir.join ll)]).length ≤ 140737488354000 := by simp [Wir.join, Mac.dl_length]
    have HJ := Lib.hid (show Wir.join [Mac.dl (Mac.fr pk 54 ++ Wir.join ll)] = Mac.dl (Mac.fr pk 54 ++ Wir.join ll) from by simp [Wir.join])
    have hal : ∀ o : Obj, Below V3.heap.size V3 (V3.alloc o) := fun o => (Below.refl _ _).alloc (Nat.le_refl _) o
    go_wp2_with (first | (go_at_call 44; go_must (refine (macjoin_at pk _ 92 gp _ [Mac.dl (Mac.fr pk 54 ++ Wir.join ll)] _ rfl (by omega) (G.out.2.2.alloc _) HP.out (bss_one G.out.1) hdl (by simp) (HK.out.below (G.out.2.1.trans ((hal _).mono G.out.2.1.size)))).mono ?_; rintro e w5 ⟨rfl, hb5⟩; have hk5 : Below V3.heap.size V3 w5 := (hal _).trans (hb5.mono (by simp)); have hres := (hk5.block w.heap.size hlr).trans E1.out)) | (refine wpList_store_row rfl _ _ _ rfl w.heap.size _ rfl rfl _ _ hres (hi32 _) (by rw [arr_size]; exact e2) (arr_one _ _ _) ?_))
    exact bodyPost_ret (results_cell_row rfl _ _ w.heap.size _ _ (0, 0) _ rfl (setRow_heap _ w.heap.size _ _ _ (0, 0) hres) rfl rfl (hi32 _)) rfl ⟨by rw [HH.out, HJ.out], below_setRow (G.out.2.1.trans (hk5.mono G.out.2.1.size)) (Nat.le_refl _) _⟩
  · have hd : decide ((64 : Int) < (m : Int)) = false := by simp; omega
    have hK0 : key = Mac.k0 key := by unfold Mac.k0; rw [if_neg (by have := HM.out; omega)]
    have hBV := HU.out.2.1
    have hRV := HU.out.2.2.1
    have hpV := HU.out.2.2.2.1
    have hkU := HQ.out.below hBV
    go_upto_region 6 with (refine wpList_copy_rs rfl _ _ rfl gp 64 _ _ rfl hpV _ key rfl hkU ?_; intro V2 hA2 hG2)
    clear hkU
    have hA' : isArr V2 gp 33 .u8 64 (Mac.p0 key) := hA2.congr fun i _ => (by have := Mac.p0_pad key i; rw [← hK0] at this; exact this)
    have hB2 : Below w.heap.size w V2 := below_only hBV (Nat.le_refl _) hG2 (fun g hg => by have := HU.out.2.2.2.2; simp at hg; omega)
    have hR2 : ∃ c : Array Value, V2.heap[w.heap.size]? = some (.cells c 26 (0, 0)) ∧ c.size = 32 := by
      obtain ⟨c, e1, e2⟩ := hRV
      exact ⟨c, (hG2.block w.heap.size (lt_of_block e1) (by have := HU.out.2.2.2.2; simp; omega)).trans e1, e2⟩
    have F := Lib.hid (And.intro hA' (And.intro hB2 hR2))
    have hgp : w.heap.size < gp := by have := HU.out.2.2.2.2; omega
    have hp8 : ∀ i, i < 64 → Mac.p0 key i < 256 := fun i _ => Mac.p0_lt hall.out i
    have HP := Lib.hid hp8
    clear hA2 hG2 hBV hRV hA' hB2 hR2 hp8 hd hK0
    generalize hpk : Mac.p0 key = pk at F HP
    have HH := Lib.hid (show Mac.hm key (Wir.join ll) = Sha.dig (Mac.fr pk 92 ++ Mac.dl (Mac.fr pk 54 ++ Wir.join ll)) from by unfold Mac.hm; rw [hpk])
    clear hpk
    go_upto_region 8 with (first | (go_at_call 44; go_must (refine (macjoin_at pk _ 54 gp v ll _ rfl (by omega) F.out.1 HP.out (HB.out.below F.out.2.1) hlen hn (HK.out.below F.out.2.1)).mono ?_; rintro e w3 ⟨rfl, hb3⟩)) | (refine wpList_store_rowTo rfl _ _ _ rfl rfl w3.heap.size _ rfl rfl _ _ (heap_alloc_new _ _) (hi32 _) (by rw [arr_size]; rfl) (arr_one _ _ _) ?_; generalize hV3 : World.setRow _ w3.heap.size _ = V3))
    have hlt3 := F.out.1.lt
    have hz3 := hb3.size
    have hbV3 : Below V2.heap.size V2 V3 := by rw [← hV3]; exact below_setRow (hb3.alloc hb3.size _) hb3.size _
    have hA3 : isArr V3 w3.heap.size 26 .u8 32 (Sha.dig (Mac.fr pk 54 ++ Wir.join ll)) := by rw [← hV3]; exact setRow_heap _ _ _ _ _ _ (heap_alloc_new _ _)
    have hr3 : Rs V3 (.slice (some ⟨w3.heap.size, 0, none⟩) 32 32) (Mac.dl (Mac.fr pk 54 ++ Wir.join ll)) := rs_arr hA3 (fun i _ => Sha.dig_lt _ _) (by omega)
    have hbw3 : Below w.heap.size w V3 := F.out.2.1.trans (hbV3.mono F.out.2.1.size)
    have hA4 : isArr V3 gp 33 .u8 64 pk := F.out.1.below hbV3 hlt3
    have hR3 : ∃ c : Array Value, V3.heap[w.heap.size]? = some (.cells c 26 (0, 0)) ∧ c.size = 32 := by
      obtain ⟨c, e1, e2⟩ := F.out.2.2
      exact ⟨c, (hbV3.block w.heap.size (lt_of_block e1)).trans e1, e2⟩
    have G := Lib.hid (And.intro hr3 (And.intro hbw3 hA4))
    obtain ⟨cres, e1, e2⟩ := hR3
    have hlr := lt_of_block e1
    have E1 := Lib.hid e1
    clear hV3 hb3 hz3 hbV3 hA3 hr3 hbw3 hA4 e1
    generalize w3.heap.size = gi at G ⊢
    have hdl : (Wir.join [Mac.dl (Mac.fr pk 54 ++ Wir.join ll)]).length ≤ 140737488354000 := by simp [Wir.join, Mac.dl_length]
    have HJ := Lib.hid (show Wir.join [Mac.dl (Mac.fr pk 54 ++ Wir.join ll)] = Mac.dl (Mac.fr pk 54 ++ Wir.join ll) from by simp [Wir.join])
    have hal : ∀ o : Obj, Below V3.heap.size V3 (V3.alloc o) := fun o => (Below.refl _ _).alloc (Nat.le_refl _) o
    go_wp2_with (first | (go_at_call 44; go_must (refine (macjoin_at pk _ 92 gp _ [Mac.dl (Mac.fr pk 54 ++ Wir.join ll)] _ rfl (by omega) (G.out.2.2.alloc _) HP.out (bss_one G.out.1) hdl (by simp) (HK.out.below (G.out.2.1.trans ((hal _).mono G.out.2.1.size)))).mono ?_; rintro e w5 ⟨rfl, hb5⟩; have hk5 : Below V3.heap.size V3 w5 := (hal _).trans (hb5.mono (by simp)); have hres := (hk5.block w.heap.size hlr).trans E1.out)) | (refine wpList_store_row rfl _ _ _ rfl w.heap.size _ rfl rfl _ _ hres (hi32 _) (by rw [arr_size]; exact e2) (arr_one _ _ _) ?_))
    exact bodyPost_ret (results_cell_row rfl _ _ w.heap.size _ _ (0, 0) _ rfl (setRow_heap _ w.heap.size _ _ _ (0, 0) hres) rfl rfl (hi32 _)) rfl ⟨by rw [HH.out, HJ.out], below_setRow (G.out.2.1.trans (hk5.mono G.out.2.1.size)) (Nat.le_refl _) _⟩
end Go.Proofs.YtgalddnblciciaaDoor
