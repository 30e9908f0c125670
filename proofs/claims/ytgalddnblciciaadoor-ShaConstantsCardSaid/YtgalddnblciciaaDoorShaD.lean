import Derived.Test.YtgalddnblciciaaDoorShaC
namespace Go.Proofs.YtgalddnblciciaaDoor
open Go.RowKit Go.Deep

theorem start_lit : (#[.int .u32 1779033703, .int .u32 3144134277, .int .u32 1013904242, .int .u32 2773480762, .int .u32 1359893119, .int .u32 2600822924, .int .u32 528734635, .int .u32 1541459225] : Array Value) = arr .u32 8 Sha.start.at :=
  arr_of_get _ _ _ _ rfl fun i hi => by rcases i with _ | _ | _ | _ | _ | _ | _ | _ | i <;> first | rfl | omega

set_option maxRecDepth 100000 in
set_option maxHeartbeats 400000 in
theorem start_any (w : World) : Calls Tryd.prog 24 #[] w fun e w' => e = .returned (.agg (arr .u32 8 Sha.start.at)) ∧ Below w.heap.size w w' := by
  go_enter Tryd.func24, Tryd.ntmps24
  go_wp2_with fail
  rw [start_lit]
  have hi8 : ∀ f, ((Tryd.prog).info? 32).map (·.size) = some (arr .u32 8 f).size := by intro f; rw [arr_size]; rfl
  exact bodyPost_ret (results_cell_row rfl _ _ w.heap.size _ _ (0, 0) _ rfl (heap_alloc_new _ _) rfl rfl (hi8 _)) rfl ⟨rfl, (Below.refl _ _).alloc (Nat.le_refl _) _⟩

set_option maxRecDepth 100000 in
set_option maxHeartbeats 400000 in
theorem const_out (i : Int) (w : World) (h : i < 0 ∨ 64 ≤ i) : Calls Tryd.prog 21 #[.int .i64 i] w fun e w' => e = .returned (.tuple #[.int .u32 0, .bool false]) ∧ w = w' := by
  rcases h with h | h
  all_goals
    go_enter Tryd.func21, Tryd.ntmps21
    go_wp2_with fail
    go_ret2
    exact ⟨rfl, rfl⟩

set_option maxRecDepth 100000 in
set_option maxHeartbeats 400000 in
theorem const_in (i : Nat) (K : Nat → Nat) (w : World) (hk : Consts w K) (h : i < 64) : Calls Tryd.prog 21 #[.int .i64 i] w fun e w' => e = .returned (.tuple #[.int .u32 ↑(K i), .bool true]) ∧ w = w' := by
  have c := hk i h
  clear hk
  go_enter Tryd.func21, Tryd.ntmps21
  go_wp2_with fail
  go_ret2
  exact ⟨rfl, rfl⟩
end Go.Proofs.YtgalddnblciciaaDoor
