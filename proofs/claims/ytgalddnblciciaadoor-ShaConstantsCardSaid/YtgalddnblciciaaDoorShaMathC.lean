import Derived.Test.YtgalddnblciciaaDoorShaMathB
/- Plain mathematics of the digest: what a block's state hangs on; bytes fed one part after the other. No program in sight. -/
namespace Sha
theorem pw_congr {b c : Nat → Nat} (i : Nat) : ∀ k, (∀ j, j < k → b (4 * i + j) = c (4 * i + j)) → pw b i k = pw c i k := by
  intro k
  induction k with
  | zero => intro _; rfl
  | succ k ih =>
    intro h
    unfold pw
    rw [ih (fun j hj => h j (by omega)), h k (by omega)]
theorem first_congr {b c : Nat → Nat} (h : ∀ i, i < 64 → b i = c i) : first b 16 = first c 16 := by
  unfold first
  apply List.map_congr_left
  intro j hj
  rw [List.mem_range] at hj
  exact pw_congr j 4 fun k hk => h _ (by omega)
theorem ext_congr {b c : Nat → Nat} (h : ∀ i, i < 64 → b i = c i) (m : Nat) : ext b m = ext c m := by
  induction m with
  | zero => exact first_congr h
  | succ m ih => unfold ext; rw [ih]
theorem wd_congr {b c : Nat → Nat} (h : ∀ i, i < 64 → b i = c i) : wd b = wd c := by
  funext i; unfold wd words; rw [ext_congr h]
theorem rd_congr {b c : Nat → Nat} (K : Nat → Nat) (s : St) (h : ∀ i, i < 64 → b i = c i) (k : Nat) : rd K s b k = rd K s c k := by
  induction k with
  | zero => rfl
  | succ k ih => unfold rd; rw [ih, wd_congr h]
theorem blk_congr {b c : Nat → Nat} (K : Nat → Nat) (s : St) (h : ∀ i, i < 64 → b i = c i) : blk K s b = blk K s c := by
  unfold blk; rw [rd_congr K s h]
theorem bl_app (l m : List Nat) (j i : Nat) (h : 64 * j + i < l.length) : bl (l ++ m) j i = bl l j i := by
  unfold bl; simp [List.getD, List.getElem?_append_left h]
theorem run_app (K : Nat → Nat) (l m : List Nat) (j : Nat) : 64 * j ≤ l.length → run K (l ++ m) j = run K l j := by
  induction j with
  | zero => intro _; rfl
  | succ j ih =>
    intro h
    unfold run
    rw [ih (by omega)]
    exact blk_congr K _ fun i hi => bl_app l m j i (by omega)
/-- The words of a state lie below 2 ^ 32. -/
def St32 (x : St) : Prop := x.a < 4294967296 ∧ x.b < 4294967296 ∧ x.c < 4294967296 ∧ x.d < 4294967296 ∧ x.e < 4294967296 ∧ x.f < 4294967296 ∧ x.g < 4294967296 ∧ x.h < 4294967296
theorem plus_32 (s t : St) : St32 (plus s t) := ⟨Nat.mod_lt _ (by omega), Nat.mod_lt _ (by omega), Nat.mod_lt _ (by omega), Nat.mod_lt _ (by omega), Nat.mod_lt _ (by omega), Nat.mod_lt _ (by omega), Nat.mod_lt _ (by omega), Nat.mod_lt _ (by omega)⟩
theorem start_32 : St32 start := by unfold St32 start; simp
theorem run_32 (K : Nat → Nat) (l : List Nat) (j : Nat) : St32 (run K l j) := by
  cases j with
  | zero => exact start_32
  | succ j => exact plus_32 _ _
theorem at_32 (s : St) (h : St32 s) (j : Nat) : s.at j < 4294967296 := by
  obtain ⟨h1, h2, h3, h4, h5, h6, h7, h8⟩ := h
  unfold St.at
  repeat' split
  all_goals assumption
/-- A block that is full. -/
theorem run_full (K : Nat → Nat) (l : List Nat) (j : Nat) (f : Nat → Nat) (hf : ∀ i, i < 64 → f i = l.getD (64 * j + i) 0) : blk K (run K l j) f = run K l (j + 1) := by
  show _ = blk K (run K l j) (bl l j)
  exact blk_congr K _ hf
theorem out_lt (s : St) (i : Nat) : out s i < 256 := Nat.mod_lt _ (by omega)
theorem dig_lt (l : List Nat) (i : Nat) : dig l i < 256 := out_lt _ _
end Sha
