/- Layer 12: Seal and Open of a ticket. -/
import Derived.Test.YtnhchdkchohnbaaGreatDoorTicE
namespace Go.Proofs.YtnhchdkchohnbaaGreatDoor
open Go.RowKit Go.Deep

theorem three_boxes (w : World) (f g : Nat → Nat) (C : Array Value) (t : TypeId) : isArr (((w.alloc (.cells (arr .u8 16 f) 22)).alloc (.cells (arr .u8 8 g) 23)).alloc (.cells C t)) w.heap.size 22 .u8 16 f ∧ isArr (((w.alloc (.cells (arr .u8 16 f) 22)).alloc (.cells (arr .u8 8 g) 23)).alloc (.cells C t)) (w.heap.size + 1) 23 .u8 8 g ∧ Hb (((w.alloc (.cells (arr .u8 16 f) 22)).alloc (.cells (arr .u8 8 g) 23)).alloc (.cells C t)) (w.heap.size + 1 + 1) C t ∧ w.grownBy (((w.alloc (.cells (arr .u8 16 f) 22)).alloc (.cells (arr .u8 8 g) 23)).alloc (.cells C t)) none := by
  have a2 := isArr_new (w.alloc (.cells (arr .u8 16 f) 22)) 23 .u8 8 g
  have a3 := Hb.new ((w.alloc (.cells (arr .u8 16 f) 22)).alloc (.cells (arr .u8 8 g) 23)) C t
  simp only [World.size_alloc] at a2 a3
  exact ⟨((isArr_new w _ _ _ _).alloc _).alloc _, a2.alloc _, a3, only_alloc (only_alloc (only_alloc (only_refl w none) _) _) _⟩
theorem isArr.only {w w' : World} {b n : Nat} {t : TypeId} {k : IntKind} {f : Nat → Nat} (h : isArr w b t k n f) (g : w.grownBy w' none) : isArr w' b t k n f := h.below (below_of_only g) h.lt
theorem seal_lit (key nonce : Nat → Nat) (u : Nat) (x : Int) (hx : x = (u : Int)) (v : Value) (l : List Nat) (w : World) (hk : Aes.B8 key) (hn : Aes.B8 nonce) (hu : u < 256) (hv : Rs w v l) (hl : l.length ≤ 1000000) (hK : Consts w Sha.tab) :
    Calls Tryz.prog 66 #[.agg (arr .u8 16 key), .int .u8 x, .agg (arr .u8 8 nonce), v] w (RetOwn (Sea.sld key u nonce l) w) := by
  subst hx; exact seal_any key nonce u v l w hk hn hu hv hl hK
theorem open_lit (key : Nat → Nat) (u : Nat) (x : Int) (hx : x = (u : Int)) (v : Value) (s : List Nat) (w : World) (hk : Aes.B8 key) (hu : u < 256) (hv : Rs w v s) (hl : s.length ≤ 1000000) (hK : Consts w Sha.tab) :
    Calls Tryz.prog 36 #[.agg (arr .u8 16 key), .int .u8 x, v] w (RetPut (Sea.op key u s) w) := by
  subst hx; exact open_any key u v s w hk hu hv hl hK
theorem refseal_lit (key nonce : Nat → Nat) (u : Nat) (x : Int) (hx : x = (u : Int)) (v : Value) (l : List Nat) (w : World) (hk : Aes.B8 key) (hn : Aes.B8 nonce) (hu : u < 256) (hv : Rs w v l) (hl : l.length ≤ 1000000) :
    Calls Tryz.prog 8 #[.agg (arr .u8 16 key), .int .u8 x, .agg (arr .u8 8 nonce), v] w (RetOwn (Sea.sld key u nonce l) w) := by
  subst hx; exact refseal_any key nonce u v l w hk hn hu hv hl
theorem refopen_lit (key : Nat → Nat) (u : Nat) (x : Int) (hx : x = (u : Int)) (v : Value) (s : List Nat) (w : World) (hk : Aes.B8 key) (hu : u < 256) (hv : Rs w v s) (hl : s.length ≤ 1000000) (_hK : Consts w Sha.tab) :
    Calls Tryz.prog 37 #[.agg (arr .u8 16 key), .int .u8 x, v] w (RetPut (Sea.op key u s) w) := by
  subst hx; rw [Sea.op_ref]; exact refopen_any key u v s w hk hu hv hl
theorem Sea.op_len {key : Nat → Nat} {u : Nat} {s l : List Nat} (h : Sea.op key u s = some l) : l.length ≤ s.length := by
  have := (Sea.seal_of_op h).2.2; omega
/-- What Open returns: the ticket and the code. -/
def Tic.opn (key : Nat → Nat) (s : List Nat) : Tic.T × Int := match Sea.op key 2 s with
  | none => (tic0, 2)
  | some b => match Tic.parse b with
    | none => (tic0, 1)
    | some t => (t, 0)
def RetTicC (w : World) (o : Tic.T × Int) (e : Ending) (w' : World) : Prop :=
  Below w.heap.size w w' ∧ ∃ r u ss s x key, e = .returned (.tuple #[.agg (tk r u s x key), .int .i64 o.2]) ∧ OwnS w' w.heap.size u ss ∧ r.size ≤ maxLen ∧ Aes.B8 key ∧ tic r ss s x key = o.1
theorem retTicC_zero {w w' : World} {e : Ending} {c : Int} (h : Below w.heap.size w w') (he : e = .returned (.tuple #[.agg (tk ⟨#[]⟩ (.slice none 0 0) 0 0 (fun _ => 0)), .int .i64 c])) : RetTicC w (tic0, c) e w' :=
  ⟨h, ⟨#[]⟩, .slice none 0 0, [], 0, 0, fun _ => 0, he, OwnS.nil _ _, Nat.zero_le _, fun _ => (by decide : 0 < 256), rfl⟩
set_option maxRecDepth 100000 in
set_option maxHeartbeats 4000000 in
theorem tkseal_any (key nonce : Nat → Nat) (r : ByteArray) (u : Value) (ss : List ByteArray) (s e : Int) (kt : Nat → Nat) (w : World) (hk : Aes.B8 key) (hn : Aes.B8 nonce) (hr : r.size ≤ maxLen) (ht : Aes.B8 kt) (h : Ss w u ss) (hK : Consts w Sha.tab) :
    Calls Tryz.prog 43 #[.agg (arr .u8 16 key), .agg (arr .u8 8 nonce), .agg (tk r u s e kt)] w (RetPut (if Tic.valid (tic r ss s e kt) = true then some (Sea.sld key 2 nonce (Tic.bytes (tic r ss s e kt))) else none) w) := by
  have HK := Lib.hid hK; clear hK
  obtain ⟨a0, n0, t0, G0⟩ := three_boxes w key nonce (tk r u s e kt) 41
  have s1 := arr_size .u8 16 key
  have s2 := arr_size .u8 8 nonce
  have s3 := tk_size r u s e kt
  obtain ⟨ua, uc, rfl⟩ := h.form
  have H := Lib.hid h; clear h
  generalize hR : (if Tic.valid (tic r ss s e kt) = true then some (Sea.sld key 2 nonce (Tic.bytes (tic r ss s e kt))) else none) = R
  have HR := Lib.hid hR; clear hR
  go_enter Tryz.func43, Tryz.ntmps43
  go_wp2_with (refine wpList_load_row rfl _ _ rfl (w.heap.size + 1 + 1) rfl _ _ (0, 0) _ t0 rfl rfl (info_tk _ _ _ _ _) ?_)
  refine (tkbytes_any r _ ss s e kt _ hr ht (H.out.only G0)).mono ?_
  rintro x w1 ⟨hb1, hp⟩
  have G1 := only_trans G0 (only_of_below hb1 none)
  have a1 := a0.only (only_of_below hb1 none)
  have n1 := n0.only (only_of_below hb1 none)
  clear a0 n0 t0 G0 hb1
  cases hv : Tic.valid (tic r ss s e kt)
  · rw [hv] at hp
    have E1 := Lib.hid (show R = none by rw [← HR.out, hv]; rfl)
    rcases hp with ⟨_, rfl⟩ | ⟨l, v, hno, _⟩
    rotate_left
    · cases hno
    clear HR
    go_wp2_with fail
    go_ret2
    exact ⟨below_of_only G1, .inl ⟨E1.out, rfl⟩⟩
  · rw [if_pos hv] at hp
    have E1 := Lib.hid (show R = some (Sea.sld key 2 nonce (Tic.bytes (tic r ss s e kt))) by rw [← HR.out, if_pos hv])
    have hbl := Tic.bytes_len hv (Sea.nl_length _ _)
    clear HR
    rcases hp with ⟨hno, _⟩ | ⟨l, v, hl, rfl, o1⟩
    · cases hno
    cases hl
    obtain ⟨va, vc, rfl⟩ := o1.form
    have O1 := Lib.hid o1.bs.rs
    have HBL := Lib.hid hbl
    clear o1 hbl hv
    generalize Tic.bytes (tic r ss s e kt) = b at *
    go_wp2_with (first | refine wpList_load_row rfl _ _ rfl w.heap.size rfl _ _ (0, 0) _ a1 rfl rfl (info16s _) ?_ | refine wpList_load_row rfl _ _ rfl (w.heap.size + 1) rfl _ _ (0, 0) _ n1 rfl rfl (info8s _) ?_)
    refine (seal_lit key nonce 2 2 rfl _ b w1 hk hn (by omega) O1.out (by have := HBL.out; omega) (HK.out.below (below_of_only G1))).mono ?_
    rintro x w2 ⟨v2, rfl, o2, hb2⟩
    have G2 := only_trans G1 (only_of_below hb2 none)
    have O2 := Lib.hid (o2.mono G1.size)
    clear a1 n1 o2 hb2 G1
    go_wp2_with fail
    go_ret2
    exact ⟨below_of_only G2, .inr ⟨_, _, E1.out, rfl, O2.out⟩⟩

set_option maxRecDepth 100000 in
set_option maxHeartbeats 4000000 in
theorem tkopen_any (key : Nat → Nat) (v : Value) (l : List Nat) (w : World) (hk : Aes.B8 key) (hv : Rs w v l) (hl : l.length ≤ 1000000) (hK : Consts w Sha.tab) :
    Calls Tryz.prog 46 #[.agg (arr .u8 16 key), v] w (RetTicC w (Tic.opn key l)) := by
  have HK := Lib.hid hK; clear hK
  obtain ⟨a, cap, rfl⟩ := hv.form
  have HV := Lib.hid hv; clear hv
  have s1 := arr_size .u8 16 key
  have a0 := (isArr_new w 22 .u8 16 key).alloc (.cells (tk ⟨#[]⟩ (.slice none 0 0) 0 0 (fun _ => 0)) 41)
  have z0 := Hb.new (w.alloc (.cells (arr .u8 16 key) 22)) (tk ⟨#[]⟩ (.slice none 0 0) 0 0 (fun _ => 0)) 41
  simp only [World.size_alloc] at z0
  have G0 := only_alloc (only_alloc (only_refl w none) (.cells (arr .u8 16 key) 22)) (.cells (tk ⟨#[]⟩ (.slice none 0 0) 0 0 (fun _ => 0)) 41)
  generalize hR : Tic.opn key l = R
  have HR := Lib.hid hR; clear hR
  go_enter Tryz.func46, Tryz.ntmps46
  go_upto_region 1 with fail
  rw [tk0]
  generalize (w.alloc (.cells (arr .u8 16 key) 22)).alloc (.cells (tk ⟨#[]⟩ (.slice none 0 0) 0 0 (fun _ => 0)) 41) = V at *
  obtain ⟨zb, hzb⟩ : ∃ z, z = w.heap.size + 1 := ⟨_, rfl⟩
  rw [← hzb] at z0 ⊢
  have hz := Nat.le_trans (Nat.le_succ w.heap.size) (Nat.le_of_eq hzb.symm)
  clear hzb
  go_wp2_with (refine wpList_load_row rfl _ _ rfl w.heap.size rfl _ _ (0, 0) _ a0 rfl rfl (info16s _) ?_)
  refine (open_lit key 2 2 rfl _ l V hk (by omega) (HV.out.below (below_of_only G0)) hl (HK.out.below (below_of_only G0))).mono ?_
  rintro e w1 ⟨hb1, ht⟩
  have z1 := z0.only (only_of_below hb1 none)
  have G1 := only_trans G0 (only_of_below hb1 none)
  clear a0 z0 G0 hb1
  unfold Tic.opn at HR
  cases hop : Sea.op key 2 l with
  | none =>
    rw [hop] at ht
    have E1 := Lib.hid (show R = (tic0, 2) by rw [← HR.out, hop])
    clear HR hop
    rcases ht with ⟨_, rfl⟩ | ⟨_, _, hno, _⟩
    rotate_left
    · cases hno
    go_wp2_with (first | refine wpList_buildTo rfl _ _ rfl _ rfl (tk ⟨#[]⟩ (.slice none 0 0) 0 0 (fun _ => 0)) (by kernel_rfl) ?_ | refine wpList_store_rowTo rfl _ _ _ rfl rfl zb _ rfl rfl _ _ z1 (info_tk _ _ _ _ _) (by simp only [tk_size]) (tk_one _ _ _ _ _ rfl) ?_)
    try simp only [Exit.inBlock, Exit.then, Exit.noGoto_ret]
    refine bodyPost_ret (results_row_tmp rfl _ _ zb _ _ (0, 0) _ rfl (z1.row _).1 rfl rfl (info_tk _ _ _ _ _)) rfl ?_
    rw [E1.out]
    exact retTicC_zero (row_own _ z1 G1 hz) rfl
  | some b =>
    rw [hop] at ht
    have hbl := Sea.op_len hop
    have HR2 := Lib.hid (show (match Tic.parse b with | none => (tic0, (1 : Int)) | some t => (t, 0)) = R by have := HR.out; rw [hop] at this; exact this)
    clear HR hop
    rcases ht with ⟨hno, _⟩ | ⟨b', vb, hb', rfl, o1⟩
    · cases hno
    cases hb'
    obtain ⟨ba, bc, rfl⟩ := o1.form
    have O1 := Lib.hid o1.bs.rs
    have hbb := o1.1
    clear o1
    go_wp2_with fail
    refine (tkparse_any _ b w1 O1.out (by omega)).mono ?_
    rintro e w2 ⟨hb2, q, u, ss, s, x, kt, rfl, o2, hq, hkt, htt⟩
    obtain ⟨ua, uc, rfl⟩ := o2.ss.form
    have z2 := z1.only (only_of_below hb2 none)
    have G2 := only_trans G1 (only_of_below hb2 none)
    have F := fresh_row w2 #[.string ⟨#[]⟩, .slice none 0 0, .int .i64 0, .int .i64 0, .int .u8 0, .int .u8 0, .int .u8 0, .int .u8 0, .int .u8 0, .int .u8 0, .int .u8 0, .int .u8 0, .int .u8 0, .int .u8 0, .int .u8 0, .int .u8 0, .int .u8 0, .int .u8 0, .int .u8 0, .int .u8 0] (tk q (.slice ua ss.length uc) s x kt) 41
    have z3 := z2.only F.2
    have G3 := only_trans G2 F.2
    have o3 := (o2.mono G1.size).below (below_of_only F.2)
    have hsep : ∀ g, (Value.slice ua ss.length uc).ownBlock = some g → g ≠ zb := fun g e => by have := (o2.lt g e).1; have := z1.lt; omega
    have T3 := F.1
    have hgs : (tk q (.slice ua ss.length uc) s x kt).size = 20 := tk_size _ _ _ _ _
    go_upto_region 5 with (refine wpList_store_rowTo rfl _ _ _ rfl rfl w2.heap.size _ rfl rfl _ _ (heap_alloc_new _ _) (info_tk _ _ _ _ _) (by rw [tk_size]; rfl) (tk_one _ _ _ _ _ rfl) ?_)
    generalize World.setRow _ w2.heap.size _ = V3 at *
    clear F hb2 o2 z1 z2 G1 G2 O1
    have HSEP := Lib.hid hsep
    clear hsep
    cases hpp : Tic.parse b with
    | none =>
      rw [hpp] at htt
      have E1 := Lib.hid (show R = (tic0, 1) by rw [← HR2.out, hpp])
      clear HR2 hpp
      go_wp2_with (first | refine wpList_buildTo rfl _ _ rfl _ rfl (tk ⟨#[]⟩ (.slice none 0 0) 0 0 (fun _ => 0)) (by kernel_rfl) ?_ | refine wpList_store_rowTo rfl _ _ _ rfl rfl zb _ rfl rfl _ _ z3 (info_tk _ _ _ _ _) (by simp only [tk_size]) (tk_one _ _ _ _ _ rfl) ?_)
      try simp only [Exit.inBlock, Exit.then, Exit.noGoto_ret]
      refine bodyPost_ret (results_row_tmp rfl _ _ zb _ _ (0, 0) _ rfl (z3.row _).1 rfl rfl (info_tk _ _ _ _ _)) rfl ?_
      rw [E1.out]
      exact retTicC_zero (row_own _ z3 G3 hz) rfl
    | some t =>
      rw [hpp] at htt
      have htt : tic q ss s x kt = t := htt
      have E1 := Lib.hid (show R = (t, 0) by rw [← HR2.out, hpp])
      clear HR2 hpp
      go_wp2_with (first | refine wpList_load_row rfl _ _ rfl w2.heap.size rfl _ _ (0, 0) _ T3 rfl rfl (info_tk _ _ _ _ _) ?_ | refine wpList_store_rowTo rfl _ _ _ rfl rfl zb _ rfl rfl _ _ z3 (info_tk _ _ _ _ _) (by simp only [tk_size]) (tk_one _ _ _ _ _ rfl) ?_)
      try simp only [Exit.inBlock, Exit.then, Exit.noGoto_ret]
      refine bodyPost_ret (results_row_tmp rfl _ _ zb _ _ (0, 0) _ rfl (z3.row _).1 rfl rfl (info_tk _ _ _ _ _)) rfl ?_
      rw [E1.out]
      refine ⟨row_own _ z3 G3 hz, q, _, ss, s, x, kt, rfl, ?_, hq, hkt, htt⟩
      exact o3.only (z3.row _).2 (by
        cases he : (Value.slice ua ss.length uc).ownBlock with
        | none => exact .inl rfl
        | some g => exact .inr (fun e => HSEP.out g he (by cases e; rfl)))

set_option maxRecDepth 100000 in
set_option maxHeartbeats 4000000 in
theorem reftkopen_any (key : Nat → Nat) (v : Value) (l : List Nat) (w : World) (hk : Aes.B8 key) (hv : Rs w v l) (hl : l.length ≤ 1000000) (hK : Consts w Sha.tab) :
    Calls Tryz.prog 54 #[.agg (arr .u8 16 key), v] w (RetTicC w (Tic.opn key l)) := by
  have HK := Lib.hid hK; clear hK
  obtain ⟨a, cap, rfl⟩ := hv.form
  have HV := Lib.hid hv; clear hv
  have s1 := arr_size .u8 16 key
  have a0 := (isArr_new w 22 .u8 16 key).alloc (.cells (tk ⟨#[]⟩ (.slice none 0 0) 0 0 (fun _ => 0)) 41)
  have z0 := Hb.new (w.alloc (.cells (arr .u8 16 key) 22)) (tk ⟨#[]⟩ (.slice none 0 0) 0 0 (fun _ => 0)) 41
  simp only [World.size_alloc] at z0
  have G0 := only_alloc (only_alloc (only_refl w none) (.cells (arr .u8 16 key) 22)) (.cells (tk ⟨#[]⟩ (.slice none 0 0) 0 0 (fun _ => 0)) 41)
  generalize hR : Tic.opn key l = R
  have HR := Lib.hid hR; clear hR
  go_enter Tryz.func54, Tryz.ntmps54
  go_upto_region 1 with fail
  rw [tk0]
  generalize (w.alloc (.cells (arr .u8 16 key) 22)).alloc (.cells (tk ⟨#[]⟩ (.slice none 0 0) 0 0 (fun _ => 0)) 41) = V at *
  obtain ⟨zb, hzb⟩ : ∃ z, z = w.heap.size + 1 := ⟨_, rfl⟩
  rw [← hzb] at z0 ⊢
  have hz := Nat.le_trans (Nat.le_succ w.heap.size) (Nat.le_of_eq hzb.symm)
  clear hzb
  go_wp2_with (refine wpList_load_row rfl _ _ rfl w.heap.size rfl _ _ (0, 0) _ a0 rfl rfl (info16s _) ?_)
  refine (refopen_lit key 2 2 rfl _ l V hk (by omega) (HV.out.below (below_of_only G0)) hl (HK.out.below (below_of_only G0))).mono ?_
  rintro e w1 ⟨hb1, ht⟩
  have z1 := z0.only (only_of_below hb1 none)
  have G1 := only_trans G0 (only_of_below hb1 none)
  clear a0 z0 G0 hb1
  unfold Tic.opn at HR
  cases hop : Sea.op key 2 l with
  | none =>
    rw [hop] at ht
    have E1 := Lib.hid (show R = (tic0, 2) by rw [← HR.out, hop])
    clear HR hop
    rcases ht with ⟨_, rfl⟩ | ⟨_, _, hno, _⟩
    rotate_left
    · cases hno
    go_wp2_with (first | refine wpList_buildTo rfl _ _ rfl _ rfl (tk ⟨#[]⟩ (.slice none 0 0) 0 0 (fun _ => 0)) (by kernel_rfl) ?_ | refine wpList_store_rowTo rfl _ _ _ rfl rfl zb _ rfl rfl _ _ z1 (info_tk _ _ _ _ _) (by simp only [tk_size]) (tk_one _ _ _ _ _ rfl) ?_)
    try simp only [Exit.inBlock, Exit.then, Exit.noGoto_ret]
    refine bodyPost_ret (results_row_tmp rfl _ _ zb _ _ (0, 0) _ rfl (z1.row _).1 rfl rfl (info_tk _ _ _ _ _)) rfl ?_
    rw [E1.out]
    exact retTicC_zero (row_own _ z1 G1 hz) rfl
  | some b =>
    rw [hop] at ht
    have hbl := Sea.op_len hop
    have HR2 := Lib.hid (show (match Tic.parse b with | none => (tic0, (1 : Int)) | some t => (t, 0)) = R by have := HR.out; rw [hop] at this; exact this)
    clear HR hop
    rcases ht with ⟨hno, _⟩ | ⟨b', vb, hb', rfl, o1⟩
    · cases hno
    cases hb'
    obtain ⟨ba, bc, rfl⟩ := o1.form
    have O1 := Lib.hid o1.bs.rs
    have hbb := o1.1
    clear o1
    go_wp2_with fail
    refine (reftkparse_any _ b w1 O1.out (by omega)).mono ?_
    rintro e w2 ⟨hb2, q, u, ss, s, x, kt, rfl, o2, hq, hkt, htt⟩
    obtain ⟨ua, uc, rfl⟩ := o2.ss.form
    have z2 := z1.only (only_of_below hb2 none)
    have G2 := only_trans G1 (only_of_below hb2 none)
    have F := fresh_row w2 #[.string ⟨#[]⟩, .slice none 0 0, .int .i64 0, .int .i64 0, .int .u8 0, .int .u8 0, .int .u8 0, .int .u8 0, .int .u8 0, .int .u8 0, .int .u8 0, .int .u8 0, .int .u8 0, .int .u8 0, .int .u8 0, .int .u8 0, .int .u8 0, .int .u8 0, .int .u8 0, .int .u8 0] (tk q (.slice ua ss.length uc) s x kt) 41
    have z3 := z2.only F.2
    have G3 := only_trans G2 F.2
    have o3 := (o2.mono G1.size).below (below_of_only F.2)
    have hsep : ∀ g, (Value.slice ua ss.length uc).ownBlock = some g → g ≠ zb := fun g e => by have := (o2.lt g e).1; have := z1.lt; omega
    have T3 := F.1
    have hgs : (tk q (.slice ua ss.length uc) s x kt).size = 20 := tk_size _ _ _ _ _
    go_upto_region 5 with (refine wpList_store_rowTo rfl _ _ _ rfl rfl w2.heap.size _ rfl rfl _ _ (heap_alloc_new _ _) (info_tk _ _ _ _ _) (by rw [tk_size]; rfl) (tk_one _ _ _ _ _ rfl) ?_)
    generalize World.setRow _ w2.heap.size _ = V3 at *
    clear F hb2 o2 z1 z2 G1 G2 O1
    have HSEP := Lib.hid hsep
    clear hsep
    rw [← Tic.parse_ref hbb] at htt ⊢
    cases hpp : Tic.parse b with
    | none =>
      rw [hpp] at htt
      have E1 := Lib.hid (show R = (tic0, 1) by rw [← HR2.out, hpp])
      clear HR2 hpp
      go_wp2_with (first | refine wpList_buildTo rfl _ _ rfl _ rfl (tk ⟨#[]⟩ (.slice none 0 0) 0 0 (fun _ => 0)) (by kernel_rfl) ?_ | refine wpList_store_rowTo rfl _ _ _ rfl rfl zb _ rfl rfl _ _ z3 (info_tk _ _ _ _ _) (by simp only [tk_size]) (tk_one _ _ _ _ _ rfl) ?_)
      try simp only [Exit.inBlock, Exit.then, Exit.noGoto_ret]
      refine bodyPost_ret (results_row_tmp rfl _ _ zb _ _ (0, 0) _ rfl (z3.row _).1 rfl rfl (info_tk _ _ _ _ _)) rfl ?_
      rw [E1.out]
      exact retTicC_zero (row_own _ z3 G3 hz) rfl
    | some t =>
      rw [hpp] at htt
      have htt : tic q ss s x kt = t := htt
      have E1 := Lib.hid (show R = (t, 0) by rw [← HR2.out, hpp])
      clear HR2 hpp
      go_wp2_with (first | refine wpList_load_row rfl _ _ rfl w2.heap.size rfl _ _ (0, 0) _ T3 rfl rfl (info_tk _ _ _ _ _) ?_ | refine wpList_store_rowTo rfl _ _ _ rfl rfl zb _ rfl rfl _ _ z3 (info_tk _ _ _ _ _) (by simp only [tk_size]) (tk_one _ _ _ _ _ rfl) ?_)
      try simp only [Exit.inBlock, Exit.then, Exit.noGoto_ret]
      refine bodyPost_ret (results_row_tmp rfl _ _ zb _ _ (0, 0) _ rfl (z3.row _).1 rfl rfl (info_tk _ _ _ _ _)) rfl ?_
      rw [E1.out]
      refine ⟨row_own _ z3 G3 hz, q, _, ss, s, x, kt, rfl, ?_, hq, hkt, htt⟩
      exact o3.only (z3.row _).2 (by
        cases he : (Value.slice ua ss.length uc).ownBlock with
        | none => exact .inl rfl
        | some g => exact .inr (fun e => HSEP.out g he (by cases e; rfl)))
end Go.Proofs.YtnhchdkchohnbaaGreatDoor
