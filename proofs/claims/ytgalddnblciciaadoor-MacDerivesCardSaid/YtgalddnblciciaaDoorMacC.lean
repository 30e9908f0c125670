import Derived.Test.YtgalddnblciciaaDoorMacB
import Derived.Laws.BytesArg
namespace Go.Proofs.YtgalddnblciciaaDoor
open Go.RowKit Go.Deep

def strB (l : List Nat) : ByteArray := strOfNums (l.map Int.ofNat)
theorem rs_convert {w : World} {v : Value} {l : List Nat} (h : Rs w v l) : (convert 24 9 v).run Tryd.prog w = .ok (.string (strB l)) w := by
  rcases h.2.2 with ⟨rfl, rfl⟩ | ⟨x, cap, rfl, _, hc⟩
  · exact run_convert_bytes_nil w 24 5 Tryd.underlying24 Tryd.underlying5 0 0 9 Tryd.underlying9
  · have hl : (loadCells x l.length).run Tryd.prog w = .ok ((l.map Int.ofNat).map (Value.int .u8)).toArray w := by
      have := run_loadCells_list (P := Tryd.prog) w x (l.map bv) (fun j v hj => by
        have hjl : j < l.length := by
          rcases Nat.lt_or_ge j l.length with h' | h'
          · exact h'
          · rw [List.getElem?_eq_none (by simpa using h')] at hj; cases hj
        rw [hc j hjl]
        simp [hjl] at hj
        simp [List.getD, hjl, hj])
      rw [List.length_map] at this
      rw [this, List.map_map]
      rfl
    rw [run_convert_bytes_string w 24 9 5 _ l.length cap Tryd.underlying24 Tryd.underlying5 Tryd.underlying9, run_bytesToString w _ l.length cap (l.map Int.ofNat) hl, foldl_push_bytes]
    simp [strB, strOfNums, ByteArray.empty, ByteArray.emptyWithCapacity]
    rfl
theorem strB_inj {l m : List Nat} (hl : AllB l) (hm : AllB m) (h : strB l = strB m) : l = m := by
  have e := congrArg (fun s : ByteArray => s.data.toList) h
  simp only [strB, strOfNums_data, List.map_map] at e
  have key : ∀ l m : List Nat, AllB l → AllB m → l.map ((fun n : Int => UInt8.ofNat n.toNat) ∘ Int.ofNat) = m.map ((fun n : Int => UInt8.ofNat n.toNat) ∘ Int.ofNat) → l = m := by
    intro l
    induction l with
    | nil => intro m _ _ h; cases m with
      | nil => rfl
      | cons => simp at h
    | cons x l ih =>
      intro m hl hm h
      cases m with
      | nil => simp at h
      | cons y m =>
        simp only [List.map_cons, List.cons.injEq, Function.comp] at h
        have hx := hl x (by simp)
        have hy := hm y (by simp)
        have e1 := congrArg UInt8.toNat h.1
        simp [UInt8.toNat_ofNat'] at e1
        rw [Nat.mod_eq_of_lt hx, Nat.mod_eq_of_lt hy] at e1
        rw [e1, ih m (fun z hz => hl z (by simp [hz])) (fun z hz => hm z (by simp [hz])) h.2]
  exact key l m hl hm e
theorem strB_same {l m : List Nat} (hl : AllB l) (hm : AllB m) : ((strB l).toList == (strB m).toList) = sameB l m := by
  unfold sameB
  simp only [ByteArray.toList_eq]
  by_cases h : l = m
  · subst h; simp
  · have : (strB l).data.toList ≠ (strB m).data.toList := fun e => h (strB_inj hl hm (by
      have e2 : (strB l).data = (strB m).data := Array.toList_inj.1 e
      rcases hx : strB l with ⟨x⟩
      rcases hy : strB m with ⟨y⟩
      rw [hx, hy] at e2
      exact congrArg ByteArray.mk e2))
    simp only [h, decide_false]
    exact beq_eq_false_iff_ne.2 this

set_option maxRecDepth 100000 in
theorem bytesEqual_any (va vb : Value) (l m : List Nat) (w : World) (ha : Rs w va l) (hb : Rs w vb m) :
    Calls Tryd.prog 45 #[va, vb] w fun e w' => e = .returned (.bool (sameB l m)) ∧ w = w' := by
  have c1 := rs_convert ha
  have c2 := rs_convert hb
  have hs := Lib.hid (strB_same ha.all hb.all)
  clear ha hb
  generalize strB l = s at c1 hs
  generalize strB m = t at c2 hs
  go_enter Tryd.func45, Tryd.ntmps45
  go_wp2_with fail
  go_ret
  exact ⟨by rw [hs.out]; rfl, rfl⟩
set_option maxRecDepth 100000 in
theorem equal_any (va vb : Value) (l m : List Nat) (w : World) (ha : Rs w va l) (hb : Rs w vb m) :
    Calls Tryd.prog 32 #[va, vb] w fun e w' => e = .returned (.bool (sameB l m)) ∧ w = w' := by
  have HA := Lib.hid ha; clear ha
  have HB := Lib.hid hb; clear hb
  go_enter Tryd.func32, Tryd.ntmps32
  go_wp2_with (go_at_call 45; refine (bytesEqual_any va vb l m _ HA.out HB.out).mono ?_; rintro e w2 ⟨rfl, rfl⟩)
  go_ret
  exact ⟨rfl, rfl⟩
/-- The front of an array of bytes reads as its bytes. -/
theorem rs_arr_take {w : World} {b n m : Nat} {t : TypeId} {f : Nat → Nat} (h : isArr w b t .u8 n f) (hf : ∀ i, i < n → f i < 256) (hm : m ≤ n) (hn : n ≤ 9223372036854775807) : Rs w (.slice (some ⟨b, 0, none⟩) m n) ((List.range m).map f) := by
  refine ⟨fun x hx => ?_, by simp; omega, .inr ⟨⟨b, 0, none⟩, n, by rw [List.length_map, List.length_range], by rw [List.length_map, List.length_range]; exact ⟨hm, hn⟩, fun i hi => ?_⟩⟩
  · obtain ⟨i, hi, rfl⟩ := List.mem_map.1 hx
    exact hf i (by simp at hi; omega)
  · have hi' : i < m := by simpa using hi
    rw [Addr.add_lit, Nat.zero_add, h.cell (by omega)]
    simp [List.getD, hi', bv]
set_option maxRecDepth 100000 in
/-- sum[:u] of an array of 32 bytes. -/
theorem sl32h (w : World) (b u : Nat) (hu : u ≤ 32) : (Instr.sliceAt 26 (.pointer (some ⟨b, 0, none⟩)) none (some (.int .i64 (u : Int))) none).run Tryd.prog w = .ok (.slice (some ⟨b, 0, none⟩) u 32) w := by
  have hal : (Tryd.prog).arrayLen 26 = 32 := by go_simp
  rw [run_sliceAt_array_h w _ ⟨b, 0, none⟩ (by go_simp) .i64 _ (by omega) (by rw [hal]; omega)]
  go_simp
/-- Whether a code is right. -/
def Mac.ok (key code msg : List Nat) : Bool := decide (16 ≤ code.length ∧ code.length ≤ 32) && sameB code ((List.range code.length).map (Mac.hm key msg))
theorem Mac.hm_lt (key msg : List Nat) (i : Nat) : Mac.hm key msg i < 256 := Sha.dig_lt _ _
attribute [irreducible] Mac.ok

set_option maxRecDepth 100000 in
set_option maxHeartbeats 2000000 in
theorem check_any (key code : List Nat) (kv cv v : Value) (ll : List (List Nat)) (w : World) (hk : Rs w kv key) (hkl : key.length ≤ 140737488354000) (hc : Rs w cv code) (hb : Bss w v ll) (hlen : (Wir.join ll).length ≤ 140737488354000) (hn : ll.length ≤ 1000000) (hK : Consts w Sha.tab) :
    Calls Tryd.prog 31 #[kv, cv, v] w (RetBool (Mac.ok key code (Wir.join ll)) w) := by
  have HK := Lib.hid hK; clear hK
  have HB := Lib.hid hb; clear hb
  have HQ := Lib.hid hk; clear hk
  have hcl := hc.len
  obtain ⟨ca, ccap, rfl⟩ := hc.form
  have HC := Lib.hid hc; clear hc
  obtain ⟨m, hm⟩ : ∃ m, m = code.length := ⟨_, rfl⟩
  rw [← hm] at HC hcl ⊢
  have HO := Lib.hid (show Mac.ok key code (Wir.join ll) = (decide (16 ≤ m ∧ m ≤ 32) && sameB code ((List.range m).map (Mac.hm key (Wir.join ll)))) from by unfold Mac.ok; rw [hm])
  have HM := Lib.hid hm; clear hm
  have hi32 : ∀ f, ((Tryd.prog).info? 26).map (·.size) = some (arr .u8 32 f).size := by intro f; rw [arr_size]; rfl
  go_enter Tryd.func31, Tryd.ntmps31
  by_cases hin : 16 ≤ m ∧ m ≤ 32
  · have d1 : decide ((m : Int) < 16) = false := by simp; omega
    have d2 : decide ((32 : Int) < (m : Int)) = false := by simp; omega
    go_upto_region 4 with (first | (go_at_call 29; go_must (refine (macsum_any key kv v ll _ HQ.out hkl HB.out hlen hn HK.out).mono ?_; rintro e w3 ⟨rfl, hb3⟩)) | (refine wpList_store_rowTo rfl _ _ _ rfl rfl w3.heap.size _ rfl rfl _ _ (heap_alloc_new _ _) (hi32 _) (by rw [arr_size]; rfl) (arr_one _ _ _) ?_; generalize hV3 : World.setRow _ w3.heap.size _ = V3))
    have hbV : Below w.heap.size w V3 := by rw [← hV3]; exact below_setRow (hb3.alloc hb3.size _) hb3.size _
    have hA : isArr V3 w3.heap.size 26 .u8 32 (Mac.hm key (Wir.join ll)) := by rw [← hV3]; exact setRow_heap _ _ _ _ _ _ (heap_alloc_new _ _)
    have hr := rs_arr_take hA (fun i _ => Mac.hm_lt _ _ i) hin.2 (by omega)
    have HR := Lib.hid (And.intro hbV (And.intro hr (HC.out.below hbV)))
    clear hV3 hb3 hA hr hbV
    have hsl := fun wx => sl32h wx w3.heap.size m hin.2
    go_wp2_with (go_at_call 32; go_must (refine (equal_any _ _ _ _ _ HR.out.2.2 HR.out.2.1).mono ?_; rintro e w4 ⟨rfl, rfl⟩))
    go_ret
    refine ⟨by rw [HO.out, decide_eq_true hin, Bool.true_and]; rfl, HR.out.1⟩
  · by_cases h16 : m < 16
    · have d1 : decide ((m : Int) < 16) = true := by simp; omega
      go_wp2_with fail
      go_ret
      exact ⟨by rw [HO.out]; simp [hin], Below.refl _ _⟩
    · have d1 : decide ((m : Int) < 16) = false := by simp; omega
      have d2 : decide ((32 : Int) < (m : Int)) = true := by simp; omega
      go_wp2_with fail
      go_ret
      exact ⟨by rw [HO.out]; simp [hin], Below.refl _ _⟩
end Go.Proofs.YtgalddnblciciaaDoor
