import Derived.Test.YtgalddnblciciaaDoorShaW
import Derived.Test.YtgalddnblciciaaDoorArrB
import Derived.Test.YtgalddnblciciaaDoorSpread
import Derived.Lib.SmallJoins
namespace Go.Proofs.YtgalddnblciciaaDoor
open Go.RowKit Go.Deep

theorem bss_nil (w : World) : Bss w (.slice none 0 0) [] := ⟨none, 0, rfl, by simp, fun h => absurd rfl h⟩
theorem bss_one {w : World} {u : Value} {a : List Nat} (hu : Rs w u a) : Bss (w.alloc (.cells #[u] 24)) (.slice (some ⟨w.heap.size, 0, none⟩) 1 1) [a] :=
  bss_built w [u] [a] rfl (by simp) fun i x hx => by
    match i with
    | 0 => simp at hx; subst hx; exact hu
    | _ + 1 => simp at hx
theorem rs_built_at (w : World) (g : Nat) (hg : w.heap.size = g) (l : List Nat) (hl : AllB l) (h63 : l.length ≤ 9223372036854775807) :
    Rs (w.alloc (.cells (l.map bv).toArray 5)) (.slice (some ⟨g, 0, none⟩) l.length l.length) l := by
  subst hg
  exact (own_built w 0 l hl (Nat.zero_le _) h63).bs.rs
theorem bss_one_at {w : World} (g : Nat) (hg : w.heap.size = g) {u : Value} {a : List Nat} (hu : Rs w u a) : Bss (w.alloc (.cells #[u] 24)) (.slice (some ⟨g, 0, none⟩) 1 1) [a] := by subst hg; exact bss_one hu

theorem rs_lit_at (w : World) (g : Nat) (hg : w.heap.size = g) (l : List Nat) (fr : Nat × Nat) (hl : AllB l) (h63 : l.length ≤ 9223372036854775807) :
    Rs (w.alloc (.cells (l.map bv).toArray 5 fr)) (.slice (some ⟨g, 0, none⟩) l.length l.length) l := by
  subst hg
  refine ⟨hl, h63, .inr ⟨_, l.length, rfl, ⟨Nat.le_refl _, h63⟩, fun i hi => ?_⟩⟩
  rw [Addr.add_lit, Nat.zero_add, World.cell?_alloc_mark]
  simp [List.getD, hi]
/-- What the constant i is, and whether there is one. -/
def constV (K : Nat → Nat) (i : Int) : Nat := if 0 ≤ i ∧ i < 64 then K i.toNat else 0
def constB (i : Int) : Bool := decide (0 ≤ i ∧ i < 64)
theorem constV_in (K : Nat → Nat) (i : Nat) (h : i < 64) : constV K i = K i := by unfold constV; rw [if_pos (by omega), Int.toNat_natCast]
theorem constB_in (i : Nat) (h : i < 64) : constB i = true := by unfold constB; simp; omega
theorem constV_out (K : Nat → Nat) (i : Int) (h : i < 0 ∨ 64 ≤ i) : constV K i = 0 := by unfold constV; rw [if_neg (by omega)]
theorem constB_out (i : Int) (h : i < 0 ∨ 64 ≤ i) : constB i = false := by unfold constB; rw [decide_eq_false_iff_not]; omega
attribute [irreducible] constV constB
theorem const_any (i : Int) (K : Nat → Nat) (w : World) (hk : Consts w K) : Calls Tryd.prog 21 #[.int .i64 i] w fun e w' => e = .returned (.tuple #[.int .u32 ↑(constV K i), .bool (constB i)]) ∧ w = w' := by
  by_cases h : i < 0 ∨ 64 ≤ i
  · rw [constV_out K i h, constB_out i h]; exact const_out i w h
  · obtain ⟨n, rfl⟩ := Int.eq_ofNat_of_zero_le (show 0 ≤ i by omega)
    rw [constV_in K n (by omega), constB_in n (by omega)]
    exact const_in n K w hk (by omega)
theorem all_abc : AllB [97, 98, 99] := AllB.cons (by omega) (AllB.cons (by omega) (AllB.one (by omega)))
set_option maxRecDepth 100000 in
theorem dig_nil : Sha.dig [] 0 = 227 ∧ Sha.dig [] 1 = 176 ∧ Sha.dig [] 2 = 196 ∧ Sha.dig [] 31 = 85 := by rw [Sha.dig_eq]; decide +kernel
set_option maxRecDepth 100000 in
theorem dig_abc : Sha.dig [97, 98, 99] 0 = 186 ∧ Sha.dig [97, 98, 99] 1 = 120 ∧ Sha.dig [97, 98, 99] 2 = 22 ∧ Sha.dig [97, 98, 99] 31 = 173 := by rw [Sha.dig_eq]; decide +kernel
theorem sum_dig (v : Value) (ll : List (List Nat)) (w : World) (h : Bss w v ll) (hlen : (Wir.join ll).length ≤ 140737488355000) (hK : Consts w Sha.tab) :
    Calls Tryd.prog 15 #[v] w fun e w' => e = .returned (.agg (arr .u8 32 (Sha.dig (Wir.join ll)))) ∧ Below w.heap.size w w' := sum_any Sha.tab v ll w h hlen hK

set_option maxRecDepth 100000 in
set_option maxHeartbeats 4000000 in
theorem awake_any (w : World) (hK : Consts w Sha.tab) : Calls Tryd.prog 13 #[] w (RetBool true w) := by
  have HK := Lib.hid hK; clear hK
  have hi32 : ∀ f, ((Tryd.prog).info? 26).map (·.size) = some (arr .u8 32 f).size := by intro f; rw [arr_size]; rfl
  go_enter Tryd.func13, Tryd.ntmps13
  go_upto_region 2 with (first | (go_at_call 15; refine (sum_dig _ [] _ (bss_nil _) (by simp [Wir.join]) HK.out).mono ?_; rintro e w1 ⟨rfl, hb1⟩) | (refine wpList_store_rowTo rfl _ _ _ rfl rfl w1.heap.size _ rfl rfl _ _ (heap_alloc_new _ _) (hi32 _) (by rw [arr_size]; rfl) (arr_one _ _ _) ?_; generalize hV : World.setRow _ w1.heap.size _ = V))
  have hz1 := hb1.size
  have hVz : V.heap.size = w1.heap.size + 1 := by rw [← hV, setRow_size]; simp
  have hVb : Below w.heap.size w V := by rw [← hV]; exact below_setRow (hb1.alloc hz1 _) hz1 _
  have hVa : isArr V w1.heap.size 26 .u8 32 (Sha.dig (Wir.join [])) := by rw [← hV]; exact setRow_heap _ _ _ _ _ _ (heap_alloc_new _ _)
  clear hV hz1 hb1
  generalize w1.heap.size = ga at hVz hVa ⊢
  have VB := Lib.hid hVb; clear hVb
  have VA := Lib.hid hVa; clear hVa
  have kc := fun (C : Array Value) (n c : Nat) => Go.Joins.run_convert_bytes_const_at V 24 5 C n c (ga + 1) hVz.symm Tryd.underlying24 Tryd.underlying5
  go_upto_region 3 with (first | (go_at_call 15; go_must (refine (sum_dig _ [[97, 98, 99]] _ (bss_one_at _ (by simp [hVz]) (rs_lit_at V _ hVz [97, 98, 99] (3, 4) all_abc (by simp))) (by decide) (HK.out.below ((VB.out.alloc VB.out.size _).alloc (Nat.le_trans VB.out.size (by simp)) _))).mono ?_; rintro e w2 ⟨rfl, hb2⟩)) | (refine wpList_store_rowTo rfl _ _ _ rfl rfl w2.heap.size _ rfl rfl _ _ (heap_alloc_new _ _) (hi32 _) (by rw [arr_size]; rfl) (arr_one _ _ _) ?_; generalize hU : World.setRow _ w2.heap.size _ = U))
  have hz2 := hb2.size
  have hb0 : Below V.heap.size V ((V.alloc (.cells (List.map bv [97, 98, 99]).toArray 5 (3, 4))).alloc (.cells #[.slice (some ⟨ga + 1, 0, none⟩) [97, 98, 99].length [97, 98, 99].length] 24)) := ((Below.refl _ _).alloc (Nat.le_refl _) _).alloc (by simp) _
  have hbV : Below V.heap.size V w2 := hb0.trans (hb2.mono hb0.size)
  have hbU : Below V.heap.size V U := by rw [← hU]; exact below_setRow (hbV.alloc hbV.size _) hbV.size _
  have hUA : isArr U ga 26 .u8 32 (Sha.dig (Wir.join [])) := VA.out.below hbU (by omega)
  have hUB : isArr U w2.heap.size 26 .u8 32 (Sha.dig (Wir.join [[97, 98, 99]])) := by rw [← hU]; exact setRow_heap _ _ _ _ _ _ (heap_alloc_new _ _)
  have hbW : Below w.heap.size w U := VB.out.trans (hbU.mono VB.out.size)
  clear hU hz2 hb0 hbV hbU hb2 kc hVz
  generalize w2.heap.size = gb at hUB ⊢
  have a0 : U.cell? ⟨ga, 0, none⟩ = some (.int .u8 227) := (hUA.cell (i := 0) (by omega)).trans (by rw [show Sha.dig (Wir.join []) 0 = 227 from dig_nil.1]; rfl)
  have a1 : U.cell? ⟨ga, 1, none⟩ = some (.int .u8 176) := (hUA.cell (i := 1) (by omega)).trans (by rw [show Sha.dig (Wir.join []) 1 = 176 from dig_nil.2.1]; rfl)
  have a2 : U.cell? ⟨ga, 2, none⟩ = some (.int .u8 196) := (hUA.cell (i := 2) (by omega)).trans (by rw [show Sha.dig (Wir.join []) 2 = 196 from dig_nil.2.2.1]; rfl)
  have a31 : U.cell? ⟨ga, 31, none⟩ = some (.int .u8 85) := (hUA.cell (i := 31) (by omega)).trans (by rw [show Sha.dig (Wir.join []) 31 = 85 from dig_nil.2.2.2]; rfl)
  have b0 : U.cell? ⟨gb, 0, none⟩ = some (.int .u8 186) := (hUB.cell (i := 0) (by omega)).trans (by rw [show Sha.dig (Wir.join [[97, 98, 99]]) 0 = 186 from dig_abc.1]; rfl)
  have b1 : U.cell? ⟨gb, 1, none⟩ = some (.int .u8 120) := (hUB.cell (i := 1) (by omega)).trans (by rw [show Sha.dig (Wir.join [[97, 98, 99]]) 1 = 120 from dig_abc.2.1]; rfl)
  have b2 : U.cell? ⟨gb, 2, none⟩ = some (.int .u8 22) := (hUB.cell (i := 2) (by omega)).trans (by rw [show Sha.dig (Wir.join [[97, 98, 99]]) 2 = 22 from dig_abc.2.2.1]; rfl)
  have b31 : U.cell? ⟨gb, 31, none⟩ = some (.int .u8 173) := (hUB.cell (i := 31) (by omega)).trans (by rw [show Sha.dig (Wir.join [[97, 98, 99]]) 31 = 173 from dig_abc.2.2.2]; rfl)
  have KU := Lib.hid (HK.out.below hbW)
  have BW := Lib.hid hbW
  clear hUA hUB hbW VA VB
  have v0 : constV Sha.tab 0 = 1116352408 := (constV_in Sha.tab 0 (by omega)).trans (by decide)
  have t0 : constB 0 = true := constB_in 0 (by omega)
  have t64 : constB 64 = false := constB_out 64 (by omega)
  have hix : ∀ wx, (Instr.index 32 (.agg (arr .u32 8 Sha.start.at)) (.int .i64 0)).run Tryd.prog wx = .ok (.int .u32 1779033703) wx := fun wx => run_index_int (i := 0) .u32 Tryd.underlying32 Tryd.underlying31 (by kernel_rfl) (by omega) (arr_get .u32 8 Sha.start.at 0 (by omega))
  have hpl : (Sha.pad 0).length = 64 := by decide
  go_wp2_with (first | (go_at_call 21; refine (const_any _ Sha.tab _ KU.out).mono ?_; rintro e w' ⟨rfl, rfl⟩) | (go_at_call 24; refine (start_any _).mono ?_; rintro e w3 ⟨rfl, hb3⟩) | (go_at_call 25; refine (padding_any 0 _ (by omega)).mono ?_; rintro e w4 ⟨vp, rfl, hown4, hb4⟩; obtain ⟨pa, pc, rfl⟩ := hown4.form))
  go_ret
  have hb5 := BW.out.trans (hb3.mono BW.out.size)
  exact ⟨rfl, hb5.trans (hb4.mono hb5.size)⟩
end Go.Proofs.YtgalddnblciciaaDoor
