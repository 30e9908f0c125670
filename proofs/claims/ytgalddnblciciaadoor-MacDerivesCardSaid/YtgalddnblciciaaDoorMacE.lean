import Derived.Test.YtgalddnblciciaaDoorMacD
import Derived.Laws.IdiomStrings
namespace Go.Proofs.YtgalddnblciciaaDoor
open Go.RowKit Go.Deep

/-- A string's bytes. -/
def lb (s : ByteArray) : List Nat := s.data.toList.map UInt8.toNat
theorem lb_length (s : ByteArray) : (lb s).length = s.size := by unfold lb; rw [List.length_map]; rfl
theorem lb_all (s : ByteArray) : AllB (lb s) := fun x hx => by
  obtain ⟨b, _, rfl⟩ := List.mem_map.1 hx
  exact UInt8.toNat_lt b

theorem wpList_bytes_of {w : World} {ops : Array Oper} {rest : List Oper} {o : Oper} {a : Act} {Q : Exit → Act → World → Prop} (hgd : o.guard = none) (x : Operand)
    (ho : o.op = .convert 9 24 x) (s : ByteArray) (hx : a.eval x = .string s) (hs : s.size ≤ maxLen)
    (h : ∀ v' w', Rs w' v' (lb s) → Below w.heap.size w w' → wpList Tryd.prog ops Q rest (a.put o.dst v') w') : wpList Tryd.prog ops Q (o :: rest) a w := by
  refine wpList_plain hgd fun K hK => ?_
  have hr := run_bytes_of_string (P := Tryd.prog) w 9 24 5 s Tryd.underlying9 Tryd.underlying24 Tryd.underlying5
  have h1 := grownCap_ge w s.size 0 5
  have h2 := grownCap_le_maxLen w s.size 0 5 hs
  generalize grownCap w s.size 0 5 = gc at hr h1 h2
  unfold Oper.wp execOp
  simp only [ho, Sem.run_bind, Sem.run_pure, Result.andThen_ok, hx, hr]
  refine hK _ _ (h _ _ ⟨lb_all s, by rw [lb_length]; unfold maxLen at hs; omega, .inr ⟨⟨w.heap.size, 0, none⟩, gc, by rw [lb_length], ⟨by rw [lb_length]; exact h1, by unfold maxLen at h2; omega⟩, fun i hi => ?_⟩⟩ ((below_drewN (Below.refl _ _) 1).alloc (Nat.le_refl _) _))
  rw [lb_length] at hi
  have hi' : i < s.data.size := hi
  rw [Addr.add_lit, Nat.zero_add]
  show World.cell? ((w.drewN 1).alloc _) ⟨(w.drewN 1).heap.size, i, none⟩ = _
  rw [World.cell?_alloc_mark]
  simp [bytesRow, lb, List.getD, hi', Array.getElem?_append]
  rw [if_pos hi, Array.getElem?_eq_getElem hi']
  rfl

namespace Mac
/-- The i-th code of a derived string. -/
def bk (key lab : List Nat) (i : Nat) : List Nat := (List.range 32).map (hm key (i :: lab))
theorem bk_length (key lab : List Nat) (i : Nat) : (bk key lab i).length = 32 := by simp [bk]
/-- The first j codes. -/
def dv (key lab : List Nat) : Nat → List Nat
  | 0 => []
  | j + 1 => dv key lab j ++ bk key lab (j + 1)
theorem dv_length (key lab : List Nat) (j : Nat) : (dv key lab j).length = 32 * j := by
  induction j with
  | zero => rfl
  | succ j ih => rw [dv, List.length_append, ih, bk_length]; omega
/-- The derived string of n bytes. -/
def dn (key lab : List Nat) (n : Nat) : List Nat := (dv key lab ((n + 31) / 32)).take n
theorem dv_take (key lab : List Nat) (n d : Nat) : ∀ j, n ≤ 32 * j → (dv key lab (j + d)).take n = (dv key lab j).take n := by
  induction d with
  | zero => intro j _; rfl
  | succ d ih =>
    intro j h
    rw [show j + (d + 1) = (j + d) + 1 from rfl, dv, List.take_append_of_le_length (by rw [dv_length]; omega), ih j h]
theorem dn_of (key lab : List Nat) (n j : Nat) (h : n ≤ 32 * j) : (dv key lab j).take n = dn key lab n := by
  unfold dn
  have := dv_take key lab n (j - (n + 31) / 32) ((n + 31) / 32) (by omega)
  rw [show (n + 31) / 32 + (j - (n + 31) / 32) = j by omega] at this
  exact this
theorem dn_length (key lab : List Nat) (n : Nat) : (dn key lab n).length = n := by
  unfold dn; rw [List.length_take, dv_length]; omega
theorem dv_next (key lab : List Nat) (n j r : Nat) (h : 32 * j ≤ n) (hr : r = min 32 (n - 32 * j)) : dv key lab j ++ (bk key lab (j + 1)).take r = (dv key lab (j + 1)).take n := by
  have e1 : (dv key lab j).take n = dv key lab j := List.take_of_length_le (by rw [dv_length]; exact h)
  rw [dv, List.take_append, dv_length, e1]
  congr 1
  subst hr
  rcases Nat.le_total 32 (n - 32 * j) with h' | h'
  · rw [Nat.min_eq_left h', List.take_of_length_le (by rw [bk_length]; omega), List.take_of_length_le (by rw [bk_length]; exact h')]
  · rw [Nat.min_eq_right h']
end Mac

set_option maxRecDepth 100000 in
theorem derive_out (kv : Value) (s : ByteArray) (n : Int) (w : World) (h : n < 0 ∨ 8160 < n) : Calls Tryd.prog 33 #[kv, .string s, .int .i64 n] w (RetOwn [] w) := by
  go_enter Tryd.func33, Tryd.ntmps33
  by_cases h1 : n < 0
  · have d1 : decide (n < 0) = true := by simp; omega
    go_wp2_with fail
    go_ret
    exact ⟨_, rfl, Own.nil _ _, Below.refl _ _⟩
  · have d1 : decide (n < 0) = false := by simp; omega
    have d2 : decide (8160 < n) = true := by simp; omega
    go_wp2_with fail
    go_ret
    exact ⟨_, rfl, Own.nil _ _, Below.refl _ _⟩

set_option maxRecDepth 100000 in
set_option maxHeartbeats 4000000 in
theorem derive_in (key : List Nat) (kv : Value) (s : ByteArray) (n : Nat) (w : World) (hn : n ≤ 8160) (hk : Rs w kv key) (hkl : key.length ≤ 140737488354000) (hs : s.size ≤ 140737488353000) (hK : Consts w Sha.tab) :
    Calls Tryd.prog 33 #[kv, .string s, .int .i64 n] w (RetOwn (Mac.dn key (lb s) n) w) := by
  have HK := Lib.hid hK; clear hK
  have HQ := Lib.hid hk; clear hk
  have hi32 : ∀ f, ((Tryd.prog).info? 26).map (·.size) = some (arr .u8 32 f).size := by intro f; rw [arr_size]; rfl
  have d1 : decide ((n : Int) < 0) = false := by simp
  have d2 : decide ((8160 : Int) < (n : Int)) = false := by simp; omega
  go_enter Tryd.func33, Tryd.ntmps33
  go_upto_region 5 with (refine wpList_make_bs rfl _ _ rfl w.heap.size _ _ _ n rfl rfl rfl (by omega) (Nat.le_refl _) ?_; intro w1 ho1 hg1)
  have hb1 := below_of_only hg1
  have I := Lib.hid (And.intro ho1 hb1)
  clear ho1 hg1 hb1
  go_wp2_with fail
  go_loopw [7, 8] (fun v i wr => ∃ t : Nat, 1 ≤ t ∧ 32 * t < n + 64 ∧ i = .int .i64 t ∧ Own wr w.heap.size v ((Mac.dv key (lb s) (t - 1)).take n) ∧ Below w.heap.size w wr) (fun _ i _ => 300 - (intOf i).toNat)
  case atStart => exact ⟨1, by omega, by omega, rfl, by rw [show (Mac.dv key (lb s) (1 - 1)).take n = [] from by simp [Mac.dv]]; exact I.out.1, I.out.2⟩
  case round =>
    clear I
    obtain ⟨t, ht1, ht2, rfl, hown, hbl⟩ := hrel
    obtain ⟨j, rfl⟩ : ∃ j, t = j + 1 := ⟨t - 1, by omega⟩
    rw [Nat.add_sub_cancel] at hown
    obtain ⟨va, vcap, rfl⟩ := hown.form
    by_cases hlt : 32 * j < n
    · have e1 : (Mac.dv key (lb s) j).take n = Mac.dv key (lb s) j := List.take_of_length_le (by rw [Mac.dv_length]; omega)
      rw [e1] at hown ⊢
      rw [Mac.dv_length] at hown ⊢
      obtain ⟨q, hq⟩ : ∃ q, q = 32 * j := ⟨_, rfl⟩
      rw [← hq] at hown ⊢
      obtain ⟨t, ht⟩ : ∃ t, t = j + 1 := ⟨_, rfl⟩
      rw [← ht]
      have hqn : q < n := by omega
      have dq : decide ((q : Int) < (n : Int)) = true := by simp; omega
      have hw : (t : Int) % 256 = (t : Int) := by omega
      have htb : t < 256 := by omega
      obtain ⟨r, hr⟩ : ∃ r, r = min 32 (n - q) := ⟨_, rfl⟩
      have hr32 : r ≤ 32 := by omega
      have hrm : (if (n : Int) - (q : Int) < 32 then (n : Int) - (q : Int) else 32) = (r : Int) := by split <;> omega
      have HN := Lib.hid (show Mac.dv key (lb s) j ++ (Mac.bk key (lb s) t).take r = (Mac.dv key (lb s) t).take n from by rw [ht]; exact Mac.dv_next key (lb s) n j r (by omega) (by rw [hr, hq]))
      have HT := Lib.hid (And.intro ht hq)
      have HI := Lib.hid (And.intro hown hbl)
      have hsz := hbl.size
      clear hown hbl ht hq hr e1 ht1 ht2 hlt
      go_upto_region 8 with (first | (refine wpList_bytes_of rfl _ rfl s rfl (by unfold maxLen; omega) ?_; intro vb w2 hrb hb2; obtain ⟨vba, vbc, rfl⟩ := hrb.form) | (go_at_call 29; go_must (refine (macsum_any key kv _ [[t], lb s] _ (HQ.out.below (HI.out.2.trans ((((Below.refl _ _).alloc (Nat.le_refl _) _).trans (hb2.mono (by simp))).mono hsz |>.alloc (Nat.le_trans hsz (by have := hb2.size; simp at this; omega)) _))) hkl (bss_two ((rs_built_at wr _ rfl [t] (AllB.one htb) (by simp)).below hb2) hrb) (by simp [Wir.join, lb_length]; omega) (by simp) (HK.out.below (HI.out.2.trans ((((Below.refl _ _).alloc (Nat.le_refl _) _).trans (hb2.mono (by simp))).mono hsz |>.alloc (Nat.le_trans hsz (by have := hb2.size; simp at this; omega)) _)))).mono ?_; rintro e w3 ⟨rfl, hb3⟩)) | (refine wpList_store_rowTo rfl _ _ _ rfl rfl w3.heap.size _ rfl rfl _ _ (heap_alloc_new _ _) (hi32 _) (by rw [arr_size]; rfl) (arr_one _ _ _) ?_; generalize hV : World.setRow _ w3.heap.size _ = V))
      have hz2 := hb2.size
      have hb12 : Below wr.heap.size wr w2 := ((Below.refl _ _).alloc (Nat.le_refl _) _).trans (hb2.mono (by simp))
      have hb13 : Below wr.heap.size wr w3 := (hb12.alloc hb12.size _).trans (hb3.mono (by have := hb12.size; simp; omega))
      have hbV : Below wr.heap.size wr V := by rw [← hV]; exact below_setRow (hb13.alloc hb13.size _) hb13.size _
      have hA : isArr V w3.heap.size 26 .u8 32 (Mac.hm key (t :: lb s)) := by
        have : Wir.join [[t], lb s] = t :: lb s := by simp [Wir.join]
        rw [← hV, ← this]; exact setRow_heap _ _ _ _ _ _ (heap_alloc_new _ _)
      have hrr : Rs V (.slice (some ⟨w3.heap.size, 0, none⟩) r 32) ((Mac.bk key (lb s) t).take r) := by
        have := rs_arr_take (m := r) hA (fun i _ => Mac.hm_lt _ _ i) hr32 (by omega)
        have e : (Mac.bk key (lb s) t).take r = (List.range r).map (Mac.hm key (t :: lb s)) := by
          unfold Mac.bk; rw [← List.map_take, List.take_range, Nat.min_eq_left hr32]
        rw [e]; exact this
      have Z := Lib.hid (And.intro hrr (And.intro (HI.out.1.below hbV) (HI.out.2.trans (hbV.mono hsz))))
      have hzV := Z.out.2.2.size
      have hsl := fun wx => sl32h wx w3.heap.size r hr32
      clear hz2 hb12 hb13 hbV hV hA hrr hb3 hrb hb2
      generalize w3.heap.size = gi at Z hsl ⊢
      go_wp2_with (at_builtin; go_must (refine wpList_append_rs rfl _ _ rfl w.heap.size _ _ rfl Z.out.2.1 _ _ rfl Z.out.1 (by rw [Mac.dv_length, List.length_take, Mac.bk_length]; have := HT.out; omega) hzV ?_; intro v4 w4 h4 g4; have hb4 := below_only Z.out.2.2 (Nat.le_refl _) g4 (fun g hg => (Z.out.2.1.lt g hg).1); rw [HN.out] at h4; have Y := Lib.hid (And.intro h4 hb4); clear h4 g4 hb4))
      go_roundw
      case rel => exact ⟨t + 1, by omega, by have := HT.out; omega, by go_num, by rw [Nat.add_sub_cancel]; exact Y.out.1, Y.out.2⟩
      case measure => simp [intOf]; omega
    · rw [Mac.dn_of key (lb s) n j (by omega)] at hown ⊢
      rw [Mac.dn_length] at hown ⊢
      have dq : decide ((n : Int) < (n : Int)) = false := by simp
      have HI := Lib.hid (And.intro hown hbl)
      clear hown hbl hlt ht1 ht2
      go_wp2_with fail
      go_ret
      exact ⟨_, rfl, HI.out.1, HI.out.2⟩
end Go.Proofs.YtgalddnblciciaaDoor
