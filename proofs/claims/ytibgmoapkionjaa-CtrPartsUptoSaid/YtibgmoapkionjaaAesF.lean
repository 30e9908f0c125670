/- aes.Keys: walked. -/
import Derived.Test.YtibgmoapkionjaaAesE
import Derived.Test.YtibgmoapkionjaaRegC
import Derived.Deep.MidRow
namespace Go.Proofs.Ytibgmoapkionjaa
open Go.RowKit Go.Deep

theorem exec_xor_u8 {o : Oper} {a : Act} {w : World} (x y : Operand) (p q : Nat) (ho : o.op = .binOp .xor 5 x y 5) (hx : a.eval x = .int .u8 (p : Int)) (hy : a.eval y = .int .u8 (q : Int)) (hp : p < 256) (hq : q < 256) :
    (execOp a.eval o).run Try.prog w = .ok (.value (.int .u8 ((p ^^^ q : Nat) : Int))) w := by
  unfold execOp
  simp only [ho, hx, hy]
  have h := u8_xor_nat p q hp hq
  go_simp
theorem exec_load_u8 {o : Oper} {a : Act} {w : World} (x : Operand) (ad : Addr) (v : Int) (ho : o.op = .load 5 x) (hx : a.eval x = .pointer (some ad)) (hc : w.cell? ad = some (.int .u8 v)) :
    (execOp a.eval o).run Try.prog w = .ok (.value (.int .u8 v)) w := by
  unfold execOp
  simp only [ho, hx]
  have hz : ((Try.prog).info? 5).map (·.size) = some 1 := by obtain ⟨i0, hi, _, hz1, _⟩ := info_parts info_u8; rw [hi]; simp [hz1]
  go_simp

/-- Bytes that are stored into the middle of an array. -/
theorem isArr.setCells {w : World} {b N : Nat} {t : TypeId} : ∀ (l : List Nat) (o : Nat) (f : Nat → Nat) (w : World), isArr w b t .u8 N f → isArr (w.setCells b o (l.map bv)) b t .u8 N (fun i => if o ≤ i ∧ i < o + l.length then l.getD (i - o) 0 else f i)
  | [], o, f, w, h => h.congr fun i _ => by rw [if_neg (fun h => by have := h.2; simp at this; omega)]
  | x :: l, o, f, w, h => by
    have h1 := h.set o x
    have h2 := isArr.setCells (w := w) l (o + 1) _ _ h1
    refine h2.congr fun i _ => ?_
    simp only [List.length_cons]
    by_cases e1 : i = o
    · subst e1
      rw [if_neg (by omega), if_pos rfl, if_pos (by omega)]
      simp
    · by_cases e2 : o + 1 ≤ i ∧ i < o + 1 + l.length
      · rw [if_pos e2, if_pos (by omega), show i - o = (i - (o + 1)) + 1 by omega]
        rfl
      · rw [if_neg e2, if_neg e1, if_neg (by omega)]
theorem below_setCells {B : Nat} {a : World} {b : Nat} (hb : B ≤ b) : ∀ (l : List Value) (o : Nat) (w : World), Below B a w → Below B a (w.setCells b o l)
  | [], _, _, h => h
  | v :: l, o, w, h => below_setCells hb l (o + 1) _ (h.setCell hb v)
theorem isArr.setCellsOther {b c n : Nat} {t : TypeId} {k : IntKind} {f : Nat → Nat} (hne : b ≠ c) : ∀ (l : List Value) (o : Nat) (w : World), isArr w b t k n f → isArr (w.setCells c o l) b t k n f
  | [], _, _, h => h
  | v :: l, o, _, h => isArr.setCellsOther hne l (o + 1) _ (h.setOther hne o v)
theorem arr_list (n : Nat) (f : Nat → Nat) : (arr .u8 n f).toList = ((List.range n).map f).map bv := by simp [arr, bv]

/-- The round keys one behind the other. -/
def Aes.flat (key : Nat → Nat) (t : Nat) : Nat := Aes.ks key (t / 16) (t % 16)
theorem Aes.flat_b8 {key : Nat → Nat} (h : Aes.B8 key) : Aes.B8 (Aes.flat key) := fun _ => Aes.ks_b8 h _ _
/-- The first m of them. -/
def Aes.some_ (key : Nat → Nat) (m t : Nat) : Nat := if t < m then Aes.flat key t else 0
theorem Aes.some_next (key : Nat → Nat) (m t v : Nat) (hv : v = Aes.flat key m) : (if t = m then v else Aes.some_ key m t) = Aes.some_ key (m + 1) t := by
  unfold Aes.some_
  by_cases e : t = m
  · subst e; rw [if_pos rfl, if_pos (by omega), hv]
  · rw [if_neg e]
    by_cases e2 : t < m
    · rw [if_pos e2, if_pos (by omega)]
    · rw [if_neg e2, if_neg (by omega)]
/-- The column after j bytes. -/
def Aes.cv (b : Nat → Nat) (p j r : Nat) : Nat := if r < j then Aes.kc b p (r + 4 * ((j - 1 - r) / 4)) else Aes.c0 b p r
theorem Aes.cv_step (b : Nat → Nat) (p j : Nat) (hj : j < 16) : Aes.cv b p j (j % 4) ^^^ b j = Aes.kc b p j := by
  unfold Aes.cv
  by_cases h : j < 4
  · rw [if_neg (by omega), Aes.kc_low b p j h, show j % 4 = j by omega]
  · rw [if_pos (by omega), Aes.kc_high b p j (by omega) hj, show j % 4 + 4 * ((j - 1 - j % 4) / 4) = j - 4 by omega]
theorem Aes.cv_next (b : Nat → Nat) (p j r : Nat) (hr : r < 4) : (if r = j % 4 then Aes.kc b p j else Aes.cv b p j r) = Aes.cv b p (j + 1) r := by
  unfold Aes.cv
  by_cases e : r = j % 4
  · rw [if_pos e, if_pos (by omega), show r + 4 * ((j + 1 - 1 - r) / 4) = j by omega]
  · rw [if_neg e]
    by_cases e2 : r < j
    · rw [if_pos e2, if_pos (by omega), show (j + 1 - 1 - r) / 4 = (j - 1 - r) / 4 by omega]
    · rw [if_neg e2, if_neg (by omega)]
theorem Aes.cv_lt {b : Nat → Nat} (hb : Aes.B8 b) {p : Nat} (hp : p < 256) (j r : Nat) : Aes.cv b p j r < 256 := by
  unfold Aes.cv
  split
  · exact Aes.kc_b8 hb hp _
  · exact Aes.c0_lt hb hp _

theorem mul_two (p : Nat) (wr : World) (hp : p < 256) : Calls Try.prog 40 #[.int .u8 (p : Int), .slice (some ⟨wr.heap.size, 0, none⟩) 1 1] (wr.alloc (.cells #[.int .u8 2] 5)) fun e w' => e = .returned (.int .u8 ((Fld.gm p 2 : Nat) : Int)) ∧ Below wr.heap.size wr w' := by
  have h := mul_any (p : Int) [2] wr.heap.size 0 1 (wr.alloc (.cells #[.int .u8 2] 5)) (by omega) (fun i hi => by
    obtain rfl : i = 0 := by simpa using hi
    exact cell_new _ _ _ 0 _ rfl) (fun i => by
    match i with
    | 0 => decide
    | _ + 1 => simp [List.getD]) (by simp)
  refine h.mono ?_
  rintro e w' ⟨rfl, rfl⟩
  rw [Int.toNat_natCast]
  exact ⟨by unfold Fld.gml; rfl, (Below.refl _ _).alloc (Nat.le_refl _) _⟩
def KI (key : Nat → Nat) (m : Nat) (w wr : World) : Prop :=
  Below w.heap.size w wr ∧ isArr wr (w.heap.size + 1) 32 .u8 176 (fun _ => 0) ∧ isArr wr (w.heap.size + 2) 32 .u8 176 (Aes.some_ key m)
theorem KI.below {key : Nat → Nat} {m : Nat} {w wr w' : World} (h : KI key m w wr) (e : Below wr.heap.size wr w') : KI key m w w' := ⟨h.1.trans (e.mono h.1.size), h.2.1.below e h.2.1.lt, h.2.2.below e h.2.2.lt⟩
theorem KI.other {key : Nat → Nat} {m : Nat} {w wr : World} (h : KI key m w wr) {g : Nat} (hg : w.heap.size + 2 < g) (i : Nat) (v : Value) : KI key m w (wr.setCell ⟨g, i, none⟩ v) :=
  ⟨below_set h.1 (by omega) _ _, h.2.1.setOther (by omega) _ _, h.2.2.setOther (by omega) _ _⟩
theorem KI.set {key : Nat → Nat} {m : Nat} {w wr : World} (h : KI key m w wr) (v : Nat) (hv : v = Aes.flat key m) : KI key (m + 1) w (wr.setCell ⟨w.heap.size + 2, m, none⟩ (.int .u8 (v : Int))) :=
  ⟨below_set h.1 (by omega) _ _, h.2.1.setOther (by omega) _ _, (h.2.2.set m v).congr fun t _ => Aes.some_next _ _ _ _ hv⟩
theorem KI.drewN {key : Nat → Nat} {m : Nat} {w wr : World} (h : KI key m w wr) (n : Nat) : KI key m w (wr.drewN n) := ⟨below_drewN h.1 n, h.2.1, h.2.2⟩
theorem info176 (f : Nat → Nat) : ((Try.prog).info? 32).map (·.size) = some (arr .u8 176 f).size := by rw [arr_size]; rfl
theorem zeros_lit {w : World} (t : TypeId) (cs : Array Value) (n : Nat) (hs : cs.size = n) (h : (cs.toList.all fun v => match v with | .int .u8 0 => true | _ => false) = true) : isArr (w.alloc (.cells cs t)) w.heap.size t .u8 n (fun _ => 0) :=
  zero_lit _ _ _ hs fun i hi => by
    have hi' : i < cs.toList.length := by simpa [hs] using hi
    have := List.all_eq_true.1 h cs.toList[i] (List.getElem_mem hi')
    have e : cs[i]? = some cs.toList[i] := by
      rw [← Array.getElem?_toList, List.getElem?_eq_getElem hi']
    rw [e]
    split at this
    · rename_i e2; rw [e2]
    · cases this

set_option maxRecDepth 100000 in
set_option maxHeartbeats 8000000 in
theorem aeskeys_any (key : Nat → Nat) (w : World) (hkey : Aes.B8 key) : Calls Try.prog 19 #[.agg (arr .u8 16 key)] w fun e w' => e = .returned (.agg (arr .u8 176 (Aes.flat key))) ∧ Below w.heap.size w w' := by
  have hsz := arr_size .u8 16 key
  have HK := Lib.hid hkey; clear hkey
  have hz32 : ∀ w, (zeroValue 32).run Try.prog w = .ok (.agg (Array.replicate 176 (.int .u8 0))) w := fun _ => by kernel_rfl
  go_enter Try.func19, Try.ntmps19
  go_upto_region 2 with fail
  generalize hW : ((World.alloc _ _).alloc _ : World) = W
  have INV : KI key 0 w W ∧ isArr W w.heap.size 22 .u8 16 key := by
    rw [← hW]
    have z1 : w.heap.size + 1 = (w.alloc (Obj.cells (arr IntKind.u8 16 key) 22)).heap.size := by simp
    have z2 : ∀ o : Obj, w.heap.size + 2 = ((w.alloc (Obj.cells (arr IntKind.u8 16 key) 22)).alloc o).heap.size := fun _ => by simp
    refine ⟨⟨(((Below.refl _ _).alloc (Nat.le_refl _) _).alloc (by simp) _).alloc (by simp; omega) _, ?_, ?_⟩, ?_⟩
    · rw [z1]; exact (zeros_lit _ _ _ (by first | rfl | simp) (by first | rfl | decide +kernel)).alloc _
    · rw [z2]; exact (zeros_lit _ _ _ (by first | rfl | simp) (by first | rfl | decide +kernel)).congr fun t _ => by unfold Aes.some_; rw [if_neg (by omega)]
    · exact ((isArr_new w _ _ _ _).alloc _).alloc _
  have k1 := INV.2
  have I0 := Lib.hid INV.1
  have ht : W.there (w.heap.size + 2) 0 (arr .u8 16 key).size := fun j hj => by
    rw [arr_size] at hj
    rw [Nat.zero_add, INV.1.2.2.cell (by omega)]
    exact ⟨rfl, INV.1.2.2.frozen _⟩
  have HT := Lib.hid ht
  clear hW INV ht
  go_upto_region 3 with (first | refine wpList_load_row rfl _ _ rfl w.heap.size rfl _ _ (0, 0) _ k1 rfl rfl (info16 _) ?_ | refine wpList_store_mid rfl _ _ _ rfl (w.heap.size + 2) 0 _ rfl rfl HT.out (info16 _) (arr_one _ _ _) ?_)
  have hI : KI key 16 w (W.setCells (w.heap.size + 2) 0 (arr .u8 16 key).toList) := by
    rw [arr_list]
    refine ⟨below_setCells (by omega) _ _ _ I0.out.1, isArr.setCellsOther (by omega) _ _ _ I0.out.2.1, (isArr.setCells (w := W) _ _ _ _ I0.out.2.2).congr fun t _ => ?_⟩
    simp only [List.length_map, List.length_range, Nat.zero_add, Nat.zero_le, true_and, Nat.sub_zero]
    unfold Aes.some_ Aes.flat
    by_cases e : t < 16
    · rw [if_pos e, if_pos e, show t / 16 = 0 by omega, show t % 16 = t by omega]
      simp [List.getD, e, Aes.ks]
    · rw [if_neg e, if_neg e, if_neg (by omega)]
  have I1 := Lib.hid hI
  clear hI I0 HT k1
  generalize W.setCells (w.heap.size + 2) 0 (arr .u8 16 key).toList = W1 at I1 ⊢
  go_wp2_with fail
  go_loopw [4, 5, 6, 7, 8, 34] (fun p i _ _ _ _ wr => ∃ m : Nat, m ≤ 10 ∧ i = .int .i64 ((m + 1 : Nat) : Int) ∧ p = .int .u8 (Aes.pwr m : Nat) ∧ KI key (16 * (m + 1)) w wr) (fun _ i _ _ _ _ _ => 11 - (intOf i).toNat)
  case atStart => exact ⟨0, by omega, rfl, rfl, I1.out⟩
  case round =>
    clear I1
    obtain ⟨m, hm, rfl, rfl, hki⟩ := hrel
    have KK := Lib.hid hki
    clear hki
    obtain ⟨p, hp⟩ : ∃ p, p = Aes.pwr m := ⟨_, rfl⟩
    rw [← hp]
    have hp8 : p < 256 := by rw [hp]; exact Aes.pwr_lt _
    obtain ⟨b, hb⟩ : ∃ b, b = Aes.ks key m := ⟨_, rfl⟩
    have hb8 : Aes.B8 b := by rw [hb]; exact Aes.ks_b8 HK.out _
    obtain ⟨i, hi⟩ : ∃ i, i = m + 1 := ⟨_, rfl⟩
    rw [← hi]
    by_cases hlt : m < 10
    · have hd : decide ((i : Int) < 11) = true := by simp; omega
      have li : (i : Int) < 11 := by omega
      have ni : 1 ≤ (i : Int) := by omega
      have hks : ∀ j, j < 16 → Aes.flat key (i * 16 + j) = Aes.kc b p j := fun j hj => by
        unfold Aes.flat
        rw [show (i * 16 + j) / 16 = m + 1 by omega, show (i * 16 + j) % 16 = j by omega, hb, hp]
        rfl
      have hpn : Fld.gm p 2 = Aes.pwr i := by rw [hi, hp]; rfl
      have hcb : ∀ j v, (arr .u8 16 b)[j]? = some v → wr.cell? ((⟨w.heap.size + 2, (i - 1) * 16, none⟩ : Addr).add j) = some v := fun j v hj => by
        have hj16 : j < 16 := by
          rcases Nat.lt_or_ge j 16 with h | h
          · exact h
          · rw [Array.getElem?_eq_none (by rw [arr_size]; exact h)] at hj; cases hj
        rw [arr_get _ _ _ _ hj16] at hj
        rw [Addr.add_lit, KK.out.2.2.cell (by omega), ← hj]
        unfold Aes.some_ Aes.flat
        rw [if_pos (by omega), show ((i - 1) * 16 + j) / 16 = m by omega, show ((i - 1) * 16 + j) % 16 = j by omega, hb]
      have HCB := Lib.hid hcb
      have HKS := Lib.hid (And.intro hks hpn)
      have HI := Lib.hid (And.intro hi (And.intro hp hb))
      have HB8 := Lib.hid hb8
      have Z := KK.out.2.2.lt
      have KK2 := Lib.hid (show KI key (i * 16) w wr by rw [hi, Nat.mul_comm]; exact KK.out)
      clear hcb hks hpn hi hp hb hb8 KK hlt hm
      go_upto_region 8 with (first | refine wpList_load_arr rfl _ _ rfl ⟨w.heap.size + 2, (i - 1) * 16, none⟩ rfl _ _ HCB.out rfl rfl (info16 _) ?_ | (refine wpList_store_rowTo rfl _ _ _ rfl rfl wr.heap.size _ rfl rfl _ _ (heap_alloc_new _ _) (info16 _) (by rw [arr_size]; rfl) (arr_one _ _ _) ?_; generalize hV : World.setRow _ wr.heap.size _ = V))
      have hbV : Below wr.heap.size wr V := by rw [← hV]; exact below_setRow ((Below.refl _ _).alloc (Nat.le_refl _) _) (Nat.le_refl _) _
      have hA : isArr V wr.heap.size 22 .u8 16 b := by rw [← hV]; exact setRow_heap _ _ _ _ _ _ (heap_alloc_new _ _)
      have KV := Lib.hid (KK2.out.below hbV)
      have VA := Lib.hid hA
      clear hV hbV hA KK2 HCB
      generalize wr.heap.size = gb at VA Z ⊢
      have LC : ∀ j, j < 16 → ∀ w', Below V.heap.size V w' → w'.cell? ⟨gb, j, none⟩ = some (.int .u8 ((b j : Nat) : Int)) := fun j hj w' h => (VA.out.below h VA.out.lt).cell hj
      have L12 := LC 12 (by omega)
      have L13 := LC 13 (by omega)
      have L14 := LC 14 (by omega)
      have L15 := LC 15 (by omega)
      have QS : ∀ j w', Calls Try.prog 39 #[.int .u8 ((b j : Nat) : Int)] w' fun e w'' => e = .returned (.int .u8 ((Fld.sb (b j) : Nat) : Int)) ∧ w' = w'' := fun j w' => by
        have := sub_any ((b j : Nat) : Int) w' (by have := HB8.out j; omega)
        rwa [Int.toNat_natCast] at this
      have hx8 := Fld.sb_lt _ (HB8.out 13)
      refine wp_reg Try.f19 8 17 (fun w' => Below V.heap.size V w') (by kernel_rfl) (by kernel_rfl) (by kernel_rfl) (below_drewN (Below.refl _ _) 1) (fun K hK h0 => ?_)
      refine reg_cast (listed' := #[false, false, false, false, false, false, false, false, false, false, false, false, false, false, false, false, false]) (by kernel_rfl) rfl ?_
      have HF := Lib.hid hK; clear hK
      refine reg_take 0 19 (.pointer (some ⟨gb, 13, none⟩)) (by kernel_rfl) (fun _ _ => by kernel_rfl) h0 ?_
      simp only [Act.put, List.setIfInBounds_toArray, List.set_cons_zero, List.set_cons_succ]
      refine reg_take 1 20 (.int .u8 ((b 13 : Nat) : Int)) (by kernel_rfl) (fun w' k => exec_load_u8 (.tmp 19) ⟨gb, 13, none⟩ _ (by kernel_rfl) (by kernel_rfl) (L13 w' k)) h0 ?_
      simp only [Act.put, List.setIfInBounds_toArray, List.set_cons_zero, List.set_cons_succ]
      refine reg_take 3 22 (.int .u8 ((p : Nat) : Int)) (by kernel_rfl) (fun _ _ => by kernel_rfl) h0 ?_
      simp only [Act.put, List.setIfInBounds_toArray, List.set_cons_zero, List.set_cons_succ]
      refine reg_take 5 24 (.pointer (some ⟨gb, 14, none⟩)) (by kernel_rfl) (fun _ _ => by kernel_rfl) h0 ?_
      simp only [Act.put, List.setIfInBounds_toArray, List.set_cons_zero, List.set_cons_succ]
      refine reg_take 6 25 (.int .u8 ((b 14 : Nat) : Int)) (by kernel_rfl) (fun w' k => exec_load_u8 (.tmp 24) ⟨gb, 14, none⟩ _ (by kernel_rfl) (by kernel_rfl) (L14 w' k)) h0 ?_
      simp only [Act.put, List.setIfInBounds_toArray, List.set_cons_zero, List.set_cons_succ]
      refine reg_take 8 27 (.pointer (some ⟨gb, 15, none⟩)) (by kernel_rfl) (fun _ _ => by kernel_rfl) h0 ?_
      simp only [Act.put, List.setIfInBounds_toArray, List.set_cons_zero, List.set_cons_succ]
      refine reg_take 9 28 (.int .u8 ((b 15 : Nat) : Int)) (by kernel_rfl) (fun w' k => exec_load_u8 (.tmp 27) ⟨gb, 15, none⟩ _ (by kernel_rfl) (by kernel_rfl) (L15 w' k)) h0 ?_
      simp only [Act.put, List.setIfInBounds_toArray, List.set_cons_zero, List.set_cons_succ]
      refine reg_take 11 30 (.pointer (some ⟨gb, 12, none⟩)) (by kernel_rfl) (fun _ _ => by kernel_rfl) h0 ?_
      simp only [Act.put, List.setIfInBounds_toArray, List.set_cons_zero, List.set_cons_succ]
      refine reg_take 12 31 (.int .u8 ((b 12 : Nat) : Int)) (by kernel_rfl) (fun w' k => exec_load_u8 (.tmp 30) ⟨gb, 12, none⟩ _ (by kernel_rfl) (by kernel_rfl) (L12 w' k)) h0 ?_
      simp only [Act.put, List.setIfInBounds_toArray, List.set_cons_zero, List.set_cons_succ]
      refine reg_cut (α := Nat) 1 #[true, true, true, true, true, true, true, true, true, true, true, true, true, true, true, true, false] (fun a x => (Act.put (Act.put (Act.put (Act.put (Act.put (Act.put (Act.put a (some 21) (.int .u8 ((Fld.sb (b 13) : Nat) : Int))) (some 23) (.int .u8 ((Fld.sb (b 13) ^^^ p : Nat) : Int))) (some 26) (.int .u8 ((Fld.sb (b 14) : Nat) : Int))) (some 29) (.int .u8 ((Fld.sb (b 15) : Nat) : Int))) (some 32) (.int .u8 ((Fld.sb (b 12) : Nat) : Int))) (some 33) (.agg #[.int .u8 ((Fld.sb (b 13) ^^^ p : Nat) : Int), .int .u8 ((Fld.sb (b 14) : Nat) : Int), .int .u8 ((Fld.sb (b 15) : Nat) : Int), .int .u8 ((Fld.sb (b 12) : Nat) : Int)])) (some 7) (.pointer (some ⟨x, 0, none⟩)))) (fun x w' => V.heap.size ≤ x ∧ Below V.heap.size V w' ∧ w'.heap[x]? = some (Obj.cells #[.int .u8 0, .int .u8 0, .int .u8 0, .int .u8 0] 62 (0, 0))) ?_ (fun cut => ?_)
      · rintro gc wc ⟨hgc, h0, hraw⟩
        simp only [Act.put, List.setIfInBounds_toArray, List.set_cons_zero, List.set_cons_succ]
        have e4 : (#[.int .u8 ((Fld.sb (b 13) ^^^ p : Nat) : Int), .int .u8 ((Fld.sb (b 14) : Nat) : Int), .int .u8 ((Fld.sb (b 15) : Nat) : Int), .int .u8 ((Fld.sb (b 12) : Nat) : Int)] : Array Value) = arr .u8 4 (Aes.c0 b p) := by rw [arr4]; rfl
        rw [e4]
        refine reg_one 16 (by kernel_rfl) (by kernel_rfl) (q_row 62 (.tmp 7) (.tmp 33) gc (arr .u8 4 (Aes.c0 b p)) 62 _ (by kernel_rfl) (by kernel_rfl) (by kernel_rfl) (by kernel_rfl) hraw (info4 _) (by rw [arr_size]; rfl) (arr_one _ _ _) hgc h0 ?_)
        intro h0 hraw
        refine reg_done (by kernel_rfl) (HF.out _ _ ?_)
        clear HF
        generalize wc.setRow gc _ = W2 at h0 hraw ⊢
        have hA7 : isArr W2 gc 62 .u8 4 (Aes.cv b p 0) := by
          refine isArr.congr (show isArr W2 gc 62 .u8 4 (Aes.c0 b p) from hraw) fun t _ => ?_
          unfold Aes.cv
          rw [if_neg (by omega)]
        have hJ : KI key (i * 16 + 0) w W2 ∧ isArr W2 gb 22 .u8 16 b ∧ isArr W2 gc 62 .u8 4 (Aes.cv b p 0) ∧ w.heap.size + 2 < gc ∧ gb ≠ gc := by
          have := VA.out.lt
          have := KV.out.2.2.lt
          exact ⟨KV.out.below h0, VA.out.below h0 VA.out.lt, hA7, by omega, by omega⟩
        have J0 := Lib.hid hJ
        clear hA7 hJ hraw h0 KV VA LC L12 L13 L14 L15 QS hx8 e4
        go_wp2_with fail
        go_loopw [8, 34] (fun _ j wr => ∃ k : Nat, k ≤ 16 ∧ j = .int .i64 k ∧ KI key (i * 16 + k) w wr ∧ isArr wr gb 22 .u8 16 b ∧ isArr wr gc 62 .u8 4 (Aes.cv b p k) ∧ w.heap.size + 2 < gc ∧ gb ≠ gc) (fun _ j _ => 16 - (intOf j).toNat)
        case atStart => exact ⟨0, by omega, rfl, J0.out⟩
        case round =>
          clear J0
          obtain ⟨k, hk, rfl, hki, hab, hac, hg1, hg2⟩ := hrel
          by_cases hlk : k < 16
          · have hdk : decide ((k : Int) < 16) = true := by simp; omega
            obtain ⟨r, hr⟩ : ∃ r, r = k % 4 := ⟨_, rfl⟩
            have cb := hab.cell (i := k) hlk
            have cc := hac.cell (i := r) (by omega)
            have fc := hac.frozen r
            have x1 := Aes.cv_lt HB8.out hp8 k r
            have x2 := HB8.out k
            have hkc : Aes.cv b p k r ^^^ b k = Aes.kc b p k := by rw [hr]; exact Aes.cv_step b p k hlk
            have hvf : Aes.kc b p k = Aes.flat key (i * 16 + k) := (HKS.out.1 k hlk).symm
            have hcn : ∀ t, t < 4 → (if t = r then Aes.kc b p k else Aes.cv b p k t) = Aes.cv b p (k + 1) t := fun t ht => by rw [hr]; exact Aes.cv_next b p k t ht
            have hr4 : r < 4 := by omega
            have tm : (k : Int).tmod 4 = (r : Int) := by rw [Int.tmod_eq_emod_of_nonneg (by omega)]; omega
            clear hr
            have lr : (r : Int) < 4 := by omega
            have nr : 0 ≤ (r : Int) := by omega
            have hx := u8_xor_nat _ _ x1 x2
            rw [hkc] at hx
            have lk : (k : Int) < 16 := by omega
            have nk : 0 ≤ (k : Int) := by omega
            have S1 := Lib.hid (And.intro hki (And.intro hab (And.intro hac (And.intro hvf hcn))))
            clear hki hab hac hkc hvf hcn
            generalize Aes.cv b p k r = y at cc hx x1
            generalize Aes.kc b p k = v at hx S1
            generalize b k = z at cb hx x2
            have HX := Lib.hid hx; clear hx
            have GG := Lib.hid (And.intro hg1 hg2); clear hg1 hg2
            go_wp2_with fail
            go_still_tail 9, (by kernel_rfl)
            change wpList _ _ _ _ _ (wr.drewN 1)
            have cc2 : (wr.drewN 1).cell? ⟨gc, r, none⟩ = some (.int .u8 (y : Int)) := cc
            have fc2 : (wr.drewN 1).frozen? ⟨gc, r, none⟩ = false := fc
            have S2 : Hid (KI key (i * 16 + k) w ((wr.drewN 1).setCell ⟨gc, r, none⟩ (.int .u8 (v : Int))) ∧ isArr ((wr.drewN 1).setCell ⟨gc, r, none⟩ (.int .u8 (v : Int))) gb 22 .u8 16 b ∧ isArr ((wr.drewN 1).setCell ⟨gc, r, none⟩ (.int .u8 (v : Int))) gc 62 .u8 4 (Aes.cv b p (k + 1)) ∧ Aes.cv b p (k + 1) r = v) := Lib.hid ⟨(S1.out.1.drewN 1).other GG.out.1 _ _, (S1.out.2.1.drewN 1).setOther GG.out.2 _ _, ((S1.out.2.2.1.drewN 1).set r v).congr S1.out.2.2.2.2, by have := S1.out.2.2.2.2 r hr4; rw [if_pos rfl] at this; exact this.symm⟩
            have HV := Lib.hid S1.out.2.2.2.1
            clear cc fc cb S1
            generalize wr.drewN 1 = wd at cc2 fc2 S2 ⊢
            rw [HX.out]
            go_upto_region 13 with fail
            clear cc2 fc2
            generalize wd.setCell ⟨gc, r, none⟩ (.int .u8 (v : Int)) = we at S2 ⊢
            have c1 := S2.out.2.2.1.cell (i := r) hr4
            rw [S2.out.2.2.2] at c1
            have cf := S2.out.1.2.2.cell (i := i * 16 + k) (by omega)
            have ff : we.frozen? ⟨w.heap.size + 1 + 1, i * 16 + k, none⟩ = false := S2.out.1.2.2.frozen (i * 16 + k)
            obtain ⟨old, hold⟩ : ∃ old, we.cell? ⟨w.heap.size + 1 + 1, i * 16 + k, none⟩ = some old := ⟨_, cf⟩
            clear cf
            go_wp2_with fail
            go_still_tail 8, (by kernel_rfl)
            change wpList _ _ _ _ _ (we.drewN 1)
            have S3 : Hid (KI key (i * 16 + (k + 1)) w ((we.drewN 1).setCell ⟨w.heap.size + 1 + 1, i * 16 + k, none⟩ (.int .u8 (v : Int))) ∧ isArr ((we.drewN 1).setCell ⟨w.heap.size + 1 + 1, i * 16 + k, none⟩ (.int .u8 (v : Int))) gb 22 .u8 16 b ∧ isArr ((we.drewN 1).setCell ⟨w.heap.size + 1 + 1, i * 16 + k, none⟩ (.int .u8 (v : Int))) gc 62 .u8 4 (Aes.cv b p (k + 1))) := Lib.hid ⟨(S2.out.1.drewN 1).set v HV.out, (S2.out.2.1.drewN 1).setOther (by omega) _ _, (S2.out.2.2.1.drewN 1).setOther (by have := GG.out.1; omega) _ _⟩
            have f3 : (we.drewN 1).frozen? ⟨w.heap.size + 1 + 1, i * 16 + k, none⟩ = false := ff
            have c3 : (we.drewN 1).cell? ⟨w.heap.size + 1 + 1, i * 16 + k, none⟩ = some old := hold
            clear c1 ff hold S2
            generalize we.drewN 1 = wf at S3 f3 c3 ⊢
            go_wp2_with fail
            go_roundw
            case rel => exact ⟨k + 1, by omega, by go_num, S3.out.1, S3.out.2.1, S3.out.2.2, GG.out.1, GG.out.2⟩
            case measure => simp [intOf]; omega
          · obtain rfl : k = 16 := by omega
            have hd16 : decide (((16 : Nat) : Int) < 16) = false := by decide
            have K9 := Lib.hid (show KI key (16 * (i + 1)) w wr by rw [show 16 * (i + 1) = i * 16 + 16 by omega]; exact hki)
            clear hki hab hac hg1 hg2 hlk
            go_wp2_with fail
            refine (mul_two p wr hp8).mono ?_
            rintro e w9 ⟨rfl, hb9⟩
            have KZ := Lib.hid (K9.out.below hb9)
            clear hb9 K9
            rw [HKS.out.2]
            go_wp2_with fail
            go_roundw
            case rel => exact ⟨i, by omega, by go_num, rfl, KZ.out⟩
            case measure => simp [intOf]; omega
      refine reg_two 2 15 (by kernel_rfl) (by kernel_rfl) (q_quiet 21 39 #[.int .u8 ((b 13 : Nat) : Int)] (.int .u8 ((Fld.sb (b 13) : Nat) : Int)) (by kernel_rfl) (by kernel_rfl) (QS 13 _) h0 ?_) (q_lay 7 (fun g => .pointer (some ⟨g, 0, none⟩)) #[.int .u8 0, .int .u8 0, .int .u8 0, .int .u8 0] 62 (by kernel_rfl) h0 (Nat.le_refl _) (by kernel_rfl) ?_)
      · simp only [Act.put, List.setIfInBounds_toArray, List.set_cons_zero, List.set_cons_succ]
        refine reg_take 4 23 (.int .u8 ((Fld.sb (b 13) ^^^ p : Nat) : Int)) (by kernel_rfl) (fun w' _ => exec_xor_u8 (.tmp 21) (.tmp 22) _ _ (by kernel_rfl) (by kernel_rfl) (by kernel_rfl) hx8 hp8) h0 ?_
        simp only [Act.put, List.setIfInBounds_toArray, List.set_cons_zero, List.set_cons_succ]
        refine reg_two 7 15 (by kernel_rfl) (by kernel_rfl) (q_quiet 26 39 #[.int .u8 ((b 14 : Nat) : Int)] (.int .u8 ((Fld.sb (b 14) : Nat) : Int)) (by kernel_rfl) (by kernel_rfl) (QS 14 _) h0 ?_) (q_lay 7 (fun g => .pointer (some ⟨g, 0, none⟩)) #[.int .u8 0, .int .u8 0, .int .u8 0, .int .u8 0] 62 (by kernel_rfl) h0 (Nat.le_refl _) (by kernel_rfl) ?_)
        · simp only [Act.put, List.setIfInBounds_toArray, List.set_cons_zero, List.set_cons_succ]
          refine reg_two 10 15 (by kernel_rfl) (by kernel_rfl) (q_quiet 29 39 #[.int .u8 ((b 15 : Nat) : Int)] (.int .u8 ((Fld.sb (b 15) : Nat) : Int)) (by kernel_rfl) (by kernel_rfl) (QS 15 _) h0 ?_) (q_lay 7 (fun g => .pointer (some ⟨g, 0, none⟩)) #[.int .u8 0, .int .u8 0, .int .u8 0, .int .u8 0] 62 (by kernel_rfl) h0 (Nat.le_refl _) (by kernel_rfl) ?_)
          · simp only [Act.put, List.setIfInBounds_toArray, List.set_cons_zero, List.set_cons_succ]
            refine reg_two 13 15 (by kernel_rfl) (by kernel_rfl) (q_quiet 32 39 #[.int .u8 ((b 12 : Nat) : Int)] (.int .u8 ((Fld.sb (b 12) : Nat) : Int)) (by kernel_rfl) (by kernel_rfl) (QS 12 _) h0 ?_) (q_lay 7 (fun g => .pointer (some ⟨g, 0, none⟩)) #[.int .u8 0, .int .u8 0, .int .u8 0, .int .u8 0] 62 (by kernel_rfl) h0 (Nat.le_refl _) (by kernel_rfl) ?_)
            · simp only [Act.put, List.setIfInBounds_toArray, List.set_cons_zero, List.set_cons_succ]
              refine reg_take 14 33 (.agg #[.int .u8 ((Fld.sb (b 13) ^^^ p : Nat) : Int), .int .u8 ((Fld.sb (b 14) : Nat) : Int), .int .u8 ((Fld.sb (b 15) : Nat) : Int), .int .u8 ((Fld.sb (b 12) : Nat) : Int)]) (by kernel_rfl) (fun _ _ => by kernel_rfl) h0 ?_
              simp only [Act.put, List.setIfInBounds_toArray, List.set_cons_zero, List.set_cons_succ]
              refine reg_one 15 (by kernel_rfl) (by kernel_rfl) (q_lay 7 (fun g => .pointer (some ⟨g, 0, none⟩)) #[.int .u8 0, .int .u8 0, .int .u8 0, .int .u8 0] 62 (by kernel_rfl) h0 (Nat.le_refl _) (by kernel_rfl) ?_)
              intro wr5 gr5 hBgr5 hg hz kq gr h0 hr
              have hr15 := hr
              simp only [Act.put, List.setIfInBounds_toArray, List.set_cons_zero, List.set_cons_succ]
              exact reg_cast (by kernel_rfl) (by kernel_rfl) (cut gr5 _ ⟨hBgr5, h0, hr15⟩)
            · intro wr6 gr6 hBgr6 hg hz kq gr h0 hr
              have hr15 := hr
              simp only [Act.put, List.setIfInBounds_toArray, List.set_cons_zero, List.set_cons_succ]
              refine reg_one 13 (by kernel_rfl) (by kernel_rfl) (q_quiet 32 39 #[.int .u8 ((b 12 : Nat) : Int)] (.int .u8 ((Fld.sb (b 12) : Nat) : Int)) (by kernel_rfl) (by kernel_rfl) (QS 12 _) h0 ?_)
              simp only [Act.put, List.setIfInBounds_toArray, List.set_cons_zero, List.set_cons_succ]
              refine reg_take 14 33 (.agg #[.int .u8 ((Fld.sb (b 13) ^^^ p : Nat) : Int), .int .u8 ((Fld.sb (b 14) : Nat) : Int), .int .u8 ((Fld.sb (b 15) : Nat) : Int), .int .u8 ((Fld.sb (b 12) : Nat) : Int)]) (by kernel_rfl) (fun _ _ => by kernel_rfl) h0 ?_
              simp only [Act.put, List.setIfInBounds_toArray, List.set_cons_zero, List.set_cons_succ]
              exact reg_cast (by kernel_rfl) (by kernel_rfl) (cut gr6 _ ⟨hBgr6, h0, hr15⟩)
          · intro wr8 gr8 hBgr8 hg hz kq gr h0 hr
            have hr15 := hr
            simp only [Act.put, List.setIfInBounds_toArray, List.set_cons_zero, List.set_cons_succ]
            refine reg_one 10 (by kernel_rfl) (by kernel_rfl) (q_quiet 29 39 #[.int .u8 ((b 15 : Nat) : Int)] (.int .u8 ((Fld.sb (b 15) : Nat) : Int)) (by kernel_rfl) (by kernel_rfl) (QS 15 _) h0 ?_)
            simp only [Act.put, List.setIfInBounds_toArray, List.set_cons_zero, List.set_cons_succ]
            refine reg_one 13 (by kernel_rfl) (by kernel_rfl) (q_quiet 32 39 #[.int .u8 ((b 12 : Nat) : Int)] (.int .u8 ((Fld.sb (b 12) : Nat) : Int)) (by kernel_rfl) (by kernel_rfl) (QS 12 _) h0 ?_)
            simp only [Act.put, List.setIfInBounds_toArray, List.set_cons_zero, List.set_cons_succ]
            refine reg_take 14 33 (.agg #[.int .u8 ((Fld.sb (b 13) ^^^ p : Nat) : Int), .int .u8 ((Fld.sb (b 14) : Nat) : Int), .int .u8 ((Fld.sb (b 15) : Nat) : Int), .int .u8 ((Fld.sb (b 12) : Nat) : Int)]) (by kernel_rfl) (fun _ _ => by kernel_rfl) h0 ?_
            simp only [Act.put, List.setIfInBounds_toArray, List.set_cons_zero, List.set_cons_succ]
            exact reg_cast (by kernel_rfl) (by kernel_rfl) (cut gr8 _ ⟨hBgr8, h0, hr15⟩)
        · intro wr11 gr11 hBgr11 hg hz kq gr h0 hr
          have hr15 := hr
          simp only [Act.put, List.setIfInBounds_toArray, List.set_cons_zero, List.set_cons_succ]
          refine reg_one 7 (by kernel_rfl) (by kernel_rfl) (q_quiet 26 39 #[.int .u8 ((b 14 : Nat) : Int)] (.int .u8 ((Fld.sb (b 14) : Nat) : Int)) (by kernel_rfl) (by kernel_rfl) (QS 14 _) h0 ?_)
          simp only [Act.put, List.setIfInBounds_toArray, List.set_cons_zero, List.set_cons_succ]
          refine reg_one 10 (by kernel_rfl) (by kernel_rfl) (q_quiet 29 39 #[.int .u8 ((b 15 : Nat) : Int)] (.int .u8 ((Fld.sb (b 15) : Nat) : Int)) (by kernel_rfl) (by kernel_rfl) (QS 15 _) h0 ?_)
          simp only [Act.put, List.setIfInBounds_toArray, List.set_cons_zero, List.set_cons_succ]
          refine reg_one 13 (by kernel_rfl) (by kernel_rfl) (q_quiet 32 39 #[.int .u8 ((b 12 : Nat) : Int)] (.int .u8 ((Fld.sb (b 12) : Nat) : Int)) (by kernel_rfl) (by kernel_rfl) (QS 12 _) h0 ?_)
          simp only [Act.put, List.setIfInBounds_toArray, List.set_cons_zero, List.set_cons_succ]
          refine reg_take 14 33 (.agg #[.int .u8 ((Fld.sb (b 13) ^^^ p : Nat) : Int), .int .u8 ((Fld.sb (b 14) : Nat) : Int), .int .u8 ((Fld.sb (b 15) : Nat) : Int), .int .u8 ((Fld.sb (b 12) : Nat) : Int)]) (by kernel_rfl) (fun _ _ => by kernel_rfl) h0 ?_
          simp only [Act.put, List.setIfInBounds_toArray, List.set_cons_zero, List.set_cons_succ]
          exact reg_cast (by kernel_rfl) (by kernel_rfl) (cut gr11 _ ⟨hBgr11, h0, hr15⟩)
      · intro wr15 gr15 hBgr15 hg hz kq gr h0 hr
        have hr15 := hr
        simp only [Act.put, List.setIfInBounds_toArray, List.set_cons_zero, List.set_cons_succ]
        refine reg_one 2 (by kernel_rfl) (by kernel_rfl) (q_quiet 21 39 #[.int .u8 ((b 13 : Nat) : Int)] (.int .u8 ((Fld.sb (b 13) : Nat) : Int)) (by kernel_rfl) (by kernel_rfl) (QS 13 _) h0 ?_)
        simp only [Act.put, List.setIfInBounds_toArray, List.set_cons_zero, List.set_cons_succ]
        refine reg_take 4 23 (.int .u8 ((Fld.sb (b 13) ^^^ p : Nat) : Int)) (by kernel_rfl) (fun w' _ => exec_xor_u8 (.tmp 21) (.tmp 22) _ _ (by kernel_rfl) (by kernel_rfl) (by kernel_rfl) hx8 hp8) h0 ?_
        simp only [Act.put, List.setIfInBounds_toArray, List.set_cons_zero, List.set_cons_succ]
        refine reg_one 7 (by kernel_rfl) (by kernel_rfl) (q_quiet 26 39 #[.int .u8 ((b 14 : Nat) : Int)] (.int .u8 ((Fld.sb (b 14) : Nat) : Int)) (by kernel_rfl) (by kernel_rfl) (QS 14 _) h0 ?_)
        simp only [Act.put, List.setIfInBounds_toArray, List.set_cons_zero, List.set_cons_succ]
        refine reg_one 10 (by kernel_rfl) (by kernel_rfl) (q_quiet 29 39 #[.int .u8 ((b 15 : Nat) : Int)] (.int .u8 ((Fld.sb (b 15) : Nat) : Int)) (by kernel_rfl) (by kernel_rfl) (QS 15 _) h0 ?_)
        simp only [Act.put, List.setIfInBounds_toArray, List.set_cons_zero, List.set_cons_succ]
        refine reg_one 13 (by kernel_rfl) (by kernel_rfl) (q_quiet 32 39 #[.int .u8 ((b 12 : Nat) : Int)] (.int .u8 ((Fld.sb (b 12) : Nat) : Int)) (by kernel_rfl) (by kernel_rfl) (QS 12 _) h0 ?_)
        simp only [Act.put, List.setIfInBounds_toArray, List.set_cons_zero, List.set_cons_succ]
        refine reg_take 14 33 (.agg #[.int .u8 ((Fld.sb (b 13) ^^^ p : Nat) : Int), .int .u8 ((Fld.sb (b 14) : Nat) : Int), .int .u8 ((Fld.sb (b 15) : Nat) : Int), .int .u8 ((Fld.sb (b 12) : Nat) : Int)]) (by kernel_rfl) (fun _ _ => by kernel_rfl) h0 ?_
        simp only [Act.put, List.setIfInBounds_toArray, List.set_cons_zero, List.set_cons_succ]
        exact reg_cast (by kernel_rfl) (by kernel_rfl) (cut gr15 _ ⟨hBgr15, h0, hr15⟩)
    · obtain rfl : m = 10 := by omega
      subst hi
      have hd : decide (((11 : Nat) : Int) < 11) = false := by decide
      have hA : isArr wr (w.heap.size + 2) 32 .u8 176 (Aes.flat key) := KK.out.2.2.congr fun t ht => by unfold Aes.some_; rw [if_pos (by omega)]
      have k7 := KK.out.2.1
      clear hlt hm hp hp8 hb hb8
      go_wp2_with (first | refine wpList_load_row rfl _ _ rfl (w.heap.size + 2) rfl _ _ (0, 0) _ hA rfl rfl (info176 _) ?_ | (refine wpList_store_row rfl _ _ _ rfl (w.heap.size + 1) _ rfl rfl _ _ k7 (info176 _) ((arr_size _ _ _).trans (arr_size _ _ _).symm) (arr_one _ _ _) ?_))
      exact bodyPost_ret (results_cell_row rfl _ _ (w.heap.size + 1) _ _ (0, 0) _ rfl (setRow_heap _ (w.heap.size + 1) _ _ _ (0, 0) k7) rfl rfl (info176 _)) rfl ⟨rfl, below_setRow KK.out.1 (by omega) _⟩
end Go.Proofs.Ytibgmoapkionjaa
