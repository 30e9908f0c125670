import Derived.Test.YtgalddnblciciaaDoorShaAwake
import Derived.Deep.AppendSrc
namespace Go.Proofs.YtgalddnblciciaaDoor
open Go.RowKit Go.Deep

/-! ### append of byte slices onto a literal of one -/
theorem info_bs : (Tryd.prog.info? 24).map (fun i => (i.zero, i.size, i.bytes)) = some (some (.slice none 0 0), 1, 24) := by kernel_rfl

theorem wpList_append_lists {w : World} {ops : Array Oper} {rest : List Oper} {o : Oper} {a : Act} {Q : Exit → Act → World → Prop} (hgd : o.guard = none) (s x : Operand)
    (ho : o.op = .call { callee := .builtin .append, args := #[s, x], argTypes := #[22, 22] })
    (g : Nat) (u : Value) (l : List Nat) (hs : a.eval s = .slice (some ⟨g, 0, none⟩) 1 1) (hc : w.cell? ⟨g, 0, none⟩ = some u) (hu : Rs w u l)
    (v : Value) (ll : List (List Nat)) (hx : a.eval x = v) (hb : Bss w v ll) (hlen : ll.length ≤ 1000000)
    (h : ∀ v' w', Bss w' v' (l :: ll) → Below w.heap.size w w' → wpList Tryd.prog ops Q rest (a.put o.dst v') w') : wpList Tryd.prog ops Q (o :: rest) a w := by
  obtain ⟨i0, hi, hz0, hz1, hz2⟩ := info_parts info_bs
  obtain ⟨ad, cap, rfl, h63, hcells⟩ := hb
  by_cases hll : ll = []
  · subst hll
    have hS : Go.Src Tryd.prog i0.size 22 (.slice ad 0 cap) 0 [] w := by
      cases ad with
      | none => exact Go.Src.ofNil w (e' := 24) Tryd.underlying22 cap
      | some q => exact Go.Src.ofSlice w (e' := 24) Tryd.underlying22 q 0 cap [] (by simp) (by simp) (by simp)
    have hr := run_append_room_src (P := Tryd.prog) w 22 22 o.type 24 i0 Tryd.underlying22 hi g 0 1 1 (.slice ad 0 cap) 0 [] hS (by omega) (by simp) (by simp)
    have e0 : w.setCells g (0 + 1 * i0.size) [] = w := by simp [World.setCells]
    rw [e0] at hr
    refine wpList_plain hgd fun K hK => ?_
    unfold Oper.wp execOp
    simp only [ho, resolve, invoke, builtin, Sem.run_bind, Sem.run_pure, Result.andThen_ok, List.map_toArray, List.map_cons, List.map_nil, hs, hx, List.length_nil, hr]
    refine hK _ _ (h _ _ ⟨some ⟨g, 0, none⟩, 1, rfl, by simp, fun _ => ⟨g, 0, rfl, fun i hi' => ?_⟩⟩ (Below.refl _ _))
    obtain rfl : i = 0 := by simp at hi'; omega
    exact ⟨u, hc, hu⟩
  · obtain ⟨b, off, rfl, hcs⟩ := hcells hll
    obtain ⟨us, hus⟩ : ∃ us, us = (List.range ll.length).map fun i => (w.cell? ⟨b, off + i, none⟩).getD (.bool false) := ⟨_, rfl⟩
    have hul : us.length = ll.length := by rw [hus]; simp
    have hug : ∀ i, i < ll.length → ∃ y, us[i]? = some y ∧ w.cell? ⟨b, off + i, none⟩ = some y ∧ Rs w y (ll.getD i []) := by
      intro i hi'
      obtain ⟨y, h1, h2⟩ := hcs i hi'
      refine ⟨y, ?_, h1, h2⟩
      rw [hus]
      simp [hi', h1]
    have hnews : ∀ j y, us[j]? = some y → w.cell? ((⟨b, off, none⟩ : Addr).add j) = some y := by
      intro j y hj
      have hjl : j < ll.length := by
        rcases Nat.lt_or_ge j ll.length with h' | h'
        · exact h'
        · rw [List.getElem?_eq_none (by omega)] at hj; cases hj
      obtain ⟨y', h1, h2, _⟩ := hug j hjl
      rw [hj] at h1
      cases h1
      rw [Addr.add_lit]
      exact h2
    have hpos : 0 < ll.length := List.length_pos_iff.2 hll
    have holds : ∀ j y, [u][j]? = some y → w.cell? ((⟨g, 0, none⟩ : Addr).add j) = some y := by
      intro j y hj
      match j with
      | 0 => simp at hj; subst hj; exact hc
      | j + 1 => simp at hj
    have hr := run_append_grow (P := Tryd.prog) w 22 o.type 24 i0 (.slice none 0 0) Tryd.underlying22 hi hz0 ⟨g, 0, none⟩ 1 1 [u] (by simp [hz1]) holds ⟨b, off, none⟩ ll.length cap us (by rw [hul, hz1]; omega) hnews (by omega) (by omega) (growslice_fits (by omega) (by rw [hz2]; omega))
    refine wpList_plain hgd fun K hK => ?_
    unfold Oper.wp execOp
    simp only [ho, resolve, invoke, builtin, Sem.run_bind, Sem.run_pure, Result.andThen_ok, List.map_toArray, List.map_cons, List.map_nil, hs, hx, hr]
    generalize grownCap w (1 + ll.length) 1 24 = gc
    have hbel : ∀ o', Below w.heap.size w ((w.drewN 1).alloc o') := fun o' => (below_drewN (Below.refl _ _) 1).alloc (Nat.le_refl _) o'
    refine hK _ _ (h _ _ ⟨some ⟨w.heap.size, 0, none⟩, _, by rw [List.length_cons, Nat.add_comm], by rw [List.length_cons]; omega, fun _ => ⟨w.heap.size, 0, rfl, fun i hi' => ?_⟩⟩ (hbel _))
    rw [List.length_cons] at hi'
    rw [Nat.zero_add]
    match i with
    | 0 => exact ⟨u, cell_new (w.drewN 1) _ _ 0 u (by rw [Array.getElem?_append_left (by simp)]; simp), hu.below (hbel _)⟩
    | i + 1 =>
      obtain ⟨y, h1, h2, h3⟩ := hug i (by omega)
      refine ⟨y, cell_new (w.drewN 1) _ _ (i + 1) y ?_, h3.below (hbel _)⟩
      have : i < us.length := by omega
      rw [List.getElem?_eq_getElem this] at h1
      have h1' := Option.some.inj h1
      rw [Array.getElem?_append_left (by simp; omega)]
      simp [this, h1']

/-- An array of bytes reads as its bytes. -/
theorem rs_arr {w : World} {b n : Nat} {t : TypeId} {f : Nat → Nat} (h : isArr w b t .u8 n f) (hf : ∀ i, i < n → f i < 256) (hn : n ≤ 9223372036854775807) : Rs w (.slice (some ⟨b, 0, none⟩) n n) ((List.range n).map f) := by
  refine ⟨fun x hx => ?_, by simpa using hn, .inr ⟨⟨b, 0, none⟩, n, by rw [List.length_map, List.length_range], by rw [List.length_map, List.length_range]; exact ⟨Nat.le_refl _, hn⟩, fun i hi => ?_⟩⟩
  · obtain ⟨i, hi, rfl⟩ := List.mem_map.1 hx
    exact hf i (by simpa using hi)
  · have hi' : i < n := by simpa using hi
    rw [Addr.add_lit, Nat.zero_add, h.cell hi']
    simp [List.getD, hi', bv]

namespace Mac
/-- The front: every byte with x. -/
def fr (p : Nat → Nat) (x : Nat) : List Nat := (List.range 64).map fun i => p i ^^^ x
theorem fr_length (p : Nat → Nat) (x : Nat) : (fr p x).length = 64 := by simp [fr]
end Mac
/-- The bytes ahead of j carry x. -/
def FrInv (p : Nat → Nat) (x bf : Nat) (w wr : World) (j : Nat) : Prop := isArr wr bf 33 .u8 64 (fun t => if t < j then p t ^^^ x else p t) ∧ Below w.heap.size w wr
theorem FrInv.set {p : Nat → Nat} {x bf : Nat} {w wr : World} {j : Nat} (h : FrInv p x bf w wr j) (hb : w.heap.size ≤ bf) : FrInv p x bf w (wr.setCell ⟨bf, j, none⟩ (.int .u8 (p j ^^^ x : Nat))) (j + 1) := by
  refine ⟨(h.1.set j _).congr fun t _ => ?_, below_set h.2 hb _ _⟩
  by_cases e : t = j
  · subst e; simp
  · rw [if_neg e]
    by_cases e2 : t < j
    · rw [if_pos e2, if_pos (by omega)]
    · rw [if_neg e2, if_neg (by omega)]

set_option maxRecDepth 100000 in
set_option maxHeartbeats 4000000 in
theorem macjoin_any (p : Nat → Nat) (x bp : Nat) (v : Value) (ll : List (List Nat)) (w : World) (hx : x < 256) (hp : isArr w bp 33 .u8 64 p) (hp8 : ∀ i, i < 64 → p i < 256)
    (hb : Bss w v ll) (hlen : (Wir.join ll).length ≤ 140737488354000) (hn : ll.length ≤ 1000000) (hK : Consts w Sha.tab) :
    Calls Tryd.prog 44 #[.int .u8 x, v, .pointer (some ⟨bp, 0, none⟩)] w fun e w' => e = .returned (.agg (arr .u8 32 (Sha.dig (Mac.fr p x ++ Wir.join ll)))) ∧ Below w.heap.size w w' := by
  have HK := Lib.hid hK; clear hK
  have HB := Lib.hid hb; clear hb
  have hx8 : ∀ y : Nat, y < 256 → bits BinOp.xor IntKind.u8 ↑y ↑x = ((y ^^^ x : Nat) : Int) := fun y hy => u8_xor_nat _ _ hy hx
  have hi64 : ∀ f, ((Tryd.prog).info? 33).map (·.size) = some (arr .u8 64 f).size := by intro f; rw [arr_size]; rfl
  go_enter Tryd.func44, Tryd.ntmps44
  have hal : ∀ o1 o2 : Obj, ((w.alloc o1).alloc o2).heap[w.heap.size + 1]? = some o2 := fun o1 o2 => by
    have := heap_alloc_new (w.alloc o1) o2
    simpa using this
  go_upto_region 2 with (first | refine wpList_load_row rfl _ _ rfl bp rfl _ _ (0, 0) _ (hp.alloc _) rfl rfl (hi64 _) ?_ | (refine wpList_store_rowTo rfl _ _ _ rfl rfl (w.heap.size + 1) _ rfl rfl _ _ (hal _ _) (hi64 _) (by rw [arr_size]; rfl) (arr_one _ _ _) ?_; generalize hV : World.setRow _ (w.heap.size + 1) _ = V))
  obtain ⟨U, hUV, hUs, hUb, hUr⟩ : ∃ U : World, Below U.heap.size U V ∧ U.heap.size = w.heap.size + 1 ∧ Below w.heap.size w U ∧ ∃ c : Array Value, U.heap[w.heap.size]? = some (.cells c 26 (0, 0)) ∧ c.size = 32 := by
    rw [← hV]
    exact ⟨w.alloc _, below_setRow ((Below.refl _ _).alloc (Nat.le_refl _) _) (by simp) _, by simp, (Below.refl _ _).alloc (Nat.le_refl _) _, _, heap_alloc_new _ _, rfl⟩
  have hI : FrInv p x (w.heap.size + 1) U V 0 := by
    refine ⟨?_, hUV⟩
    rw [← hV]
    refine isArr.congr (setRow_heap _ _ _ _ _ _ (hal _ _)) fun i _ => ?_
    rw [if_neg (Nat.not_lt_zero _)]
  have I := Lib.hid hI
  have HU := Lib.hid (And.intro hUs (And.intro hUb hUr))
  have hbU : w.heap.size + 1 = U.heap.size := hUs.symm
  clear hV hI hUV hUs hUb hUr hal hp
  rw [hbU] at I ⊢
  clear hbU
  go_wp2_with fail
  go_loopw [7, 9] (fun _ i wr => ∃ j : Nat, j ≤ 64 ∧ i = .int .i64 j ∧ FrInv p x U.heap.size U wr j) (fun _ i _ => 64 - (intOf i).toNat)
  case atStart => exact ⟨0, by omega, rfl, I.out⟩
  case round =>
    clear I
    obtain ⟨j, hj, rfl, hO⟩ := hrel
    by_cases hlt : j < 64
    · have hd : decide ((j : Int) < 64) = true := by simp; omega
      have c0 := hO.1.cell (i := j) hlt
      rw [if_neg (Nat.lt_irrefl _)] at c0
      have f0 := hO.1.frozen j
      have O2 := Lib.hid (hO.set (Nat.le_refl _))
      have hpj := hp8 j hlt
      clear hO
      generalize p j = y at c0 O2 hpj
      go_wp2_with fail
      go_roundw
      case rel =>
        refine ⟨j + 1, by omega, by go_num, ?_⟩
        exact O2.out
      case measure => simp [intOf]; omega
    · obtain rfl : j = 64 := by omega
      have hd : decide (((64 : Nat) : Int) < 64) = false := by decide
      clear hlt
      have O := Lib.hid hO; clear hO
      have hwr : Below w.heap.size w wr := HU.out.2.1.trans (O.out.2.mono (by have := HU.out.1; omega))
      have hrs : Rs wr (.slice (some ⟨U.heap.size, 0, none⟩) 64 64) (Mac.fr p x) := by
        refine rs_arr (O.out.1.congr fun i hi => if_pos hi) (fun i hi => ?_) (by omega)
        exact Nat.xor_lt_two_pow (n := 8) (hp8 i hi) hx
      have HW := Lib.hid hwr
      have HR := Lib.hid hrs
      clear hwr hrs
      have hi32 : ∀ f, ((Tryd.prog).info? 26).map (·.size) = some (arr .u8 32 f).size := by intro f; rw [arr_size]; rfl
      have hj1 : Wir.join (Mac.fr p x :: ll) = Mac.fr p x ++ Wir.join ll := rfl
      have HJ := Lib.hid hj1; clear hj1
      have hal : ∀ o : Obj, Below wr.heap.size wr (wr.alloc o) := fun o => (Below.refl _ _).alloc (Nat.le_refl _) o
      obtain ⟨cres, e1, e2⟩ := HU.out.2.2
      go_wp2_with (first | (at_builtin; go_must (refine wpList_append_lists rfl _ _ rfl wr.heap.size _ (Mac.fr p x) rfl (cell_new _ _ _ 0 _ rfl) (HR.out.below (hal _)) _ ll rfl (HB.out.below (HW.out.trans ((hal _).mono HW.out.size))) hn ?_); intro v2 w2 hb2 hbel2) | (go_at_call 15; refine (sum_dig v2 (Mac.fr p x :: ll) w2 hb2 (by rw [HJ.out, List.length_append, Mac.fr_length]; omega) (HK.out.below (HW.out.trans (((hal _).trans (hbel2.mono (by simp))).mono HW.out.size)))).mono ?_; rintro e w3 ⟨rfl, hb3⟩; have hk3 : Below wr.heap.size wr w3 := ((hal _).trans (hbel2.mono (by simp))).trans (hb3.mono (by have := hbel2.size; simp at this; omega)); have hres := ((O.out.2.trans (hk3.mono O.out.2.size)).block w.heap.size (by have := HU.out.1; omega)).trans e1) | (refine wpList_store_row rfl _ _ _ rfl w.heap.size _ rfl rfl _ _ hres (hi32 _) (by rw [arr_size]; exact e2) (arr_one _ _ _) ?_))
      exact bodyPost_ret (results_cell_row rfl _ _ w.heap.size _ _ (0, 0) _ rfl (setRow_heap _ w.heap.size _ _ _ (0, 0) hres) rfl rfl (hi32 _)) rfl ⟨by rw [HJ.out], below_setRow (HW.out.trans (hk3.mono HW.out.size)) (Nat.le_refl _) _⟩
end Go.Proofs.YtgalddnblciciaaDoor
