import Derived.Test.YtgalddnblciciaaDoorShaC
namespace Go.Proofs.YtgalddnblciciaaDoor
open Go.RowKit Go.Deep

theorem refstart_lit : (#[.int .u32 1779033703, .int .u32 3144134277, .int .u32 1013904242, .int .u32 2773480762, .int .u32 1359893119, .int .u32 2600822924, .int .u32 528734635, .int .u32 1541459225] : Array Value) = arr .u32 8 Sha.start.at :=
  arr_of_get _ _ _ _ rfl fun i hi => by rcases i with _ | _ | _ | _ | _ | _ | _ | _ | i <;> first | rfl | omega

set_option maxRecDepth 100000 in
set_option maxHeartbeats 400000 in
theorem refstart_any (w : World) : Calls Tryd.prog 37 #[] w fun e w' => e = .returned (.agg (arr .u32 8 Sha.start.at)) ∧ Below w.heap.size w w' := by
  go_enter Tryd.func37, Tryd.ntmps37
  go_wp2_with fail
  rw [refstart_lit]
  have hi8 : ∀ f, ((Tryd.prog).info? 32).map (·.size) = some (arr .u32 8 f).size := by intro f; rw [arr_size]; rfl
  exact bodyPost_ret (results_cell_row rfl _ _ w.heap.size _ _ (0, 0) _ rfl (heap_alloc_new _ _) rfl rfl (hi8 _)) rfl ⟨rfl, (Below.refl _ _).alloc (Nat.le_refl _) _⟩

theorem tab_lit_of (c : Array Value) (h : c.toList = Sha.tableL.map fun n : Nat => Value.int .u32 (n : Int)) : c = arr .u32 64 Sha.tab := by
  have hs : c.size = 64 := by rw [← Array.length_toList, h]; rfl
  refine arr_of_get _ _ _ _ hs fun i hi => ?_
  have hl : i < Sha.tableL.length := hi
  rw [← Array.getElem?_toList, h, List.getElem?_map, List.getElem?_eq_getElem hl]
  simp [Sha.tab, List.getD, hl]

theorem tab_lit : (#[.int .u32 1116352408, .int .u32 1899447441, .int .u32 3049323471, .int .u32 3921009573, .int .u32 961987163, .int .u32 1508970993, .int .u32 2453635748, .int .u32 2870763221, .int .u32 3624381080, .int .u32 310598401, .int .u32 607225278, .int .u32 1426881987, .int .u32 1925078388, .int .u32 2162078206, .int .u32 2614888103, .int .u32 3248222580, .int .u32 3835390401, .int .u32 4022224774, .int .u32 264347078, .int .u32 604807628, .int .u32 770255983, .int .u32 1249150122, .int .u32 1555081692, .int .u32 1996064986, .int .u32 2554220882, .int .u32 2821834349, .int .u32 2952996808, .int .u32 3210313671, .int .u32 3336571891, .int .u32 3584528711, .int .u32 113926993, .int .u32 338241895, .int .u32 666307205, .int .u32 773529912, .int .u32 1294757372, .int .u32 1396182291, .int .u32 1695183700, .int .u32 1986661051, .int .u32 2177026350, .int .u32 2456956037, .int .u32 2730485921, .int .u32 2820302411, .int .u32 3259730800, .int .u32 3345764771, .int .u32 3516065817, .int .u32 3600352804, .int .u32 4094571909, .int .u32 275423344, .int .u32 430227734, .int .u32 506948616, .int .u32 659060556, .int .u32 883997877, .int .u32 958139571, .int .u32 1322822218, .int .u32 1537002063, .int .u32 1747873779, .int .u32 1955562222, .int .u32 2024104815, .int .u32 2227730452, .int .u32 2361852424, .int .u32 2428436474, .int .u32 2756734187, .int .u32 3204031479, .int .u32 3329325298] : Array Value) = arr .u32 64 Sha.tab := tab_lit_of _ (by simp [Sha.tableL])
set_option maxRecDepth 100000 in
set_option maxHeartbeats 1000000 in
theorem table_any (w : World) : Calls Tryd.prog 20 #[] w fun e w' => e = .returned (.agg (arr .u32 64 Sha.tab)) ∧ Below w.heap.size w w' := by
  have hi64 : ∀ f, ((Tryd.prog).info? 37).map (·.size) = some (arr .u32 64 f).size := by intro f; rw [arr_size]; rfl
  go_enter Tryd.func20, Tryd.ntmps20
  go_wp2_with (refine wpList_store_rowTo rfl _ _ _ rfl rfl w.heap.size _ rfl (congrArg Value.agg tab_lit) _ _ (heap_alloc_new _ _) (hi64 Sha.tab) (by rw [arr_size]; rfl) (arr_one _ _ _) ?_)
  exact bodyPost_ret (results_cell_row rfl _ _ w.heap.size _ _ (0, 0) _ rfl (setRow_heap _ w.heap.size _ _ _ (0, 0) (heap_alloc_new _ _)) rfl rfl (hi64 _)) rfl ⟨rfl, below_setRow ((Below.refl _ _).alloc (Nat.le_refl _) _) (Nat.le_refl _) _⟩
end Go.Proofs.YtgalddnblciciaaDoor
