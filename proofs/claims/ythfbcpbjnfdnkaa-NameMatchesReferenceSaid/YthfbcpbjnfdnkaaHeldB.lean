/- Steps of a region that is walked by hand: literals of bytes and of byte slices. No function of the program. -/
import Derived.Test.YthfbcpbjnfdnkaaHeld
import Derived.Test.YthfbcpbjnfdnkaaMemB
namespace Go.Proofs.Ythfbcpbjnfdnkaa
open Go.RowKit Go.Deep

section
variable {ops : Array Oper} {Q : Exit → Act → World → Prop} {md : Region.Mode} {S : World → Prop} {fuel : Nat} {listed : Array Bool} {a : Act} {w : World}
theorem exec_bytes_one (o : Oper) (a : Act) (w : World) (x : Operand) (c : Nat) (ho : o.op = .buildSlice 23 1 #[(0, x)]) (hx : a.eval x = .int .u8 (c : Int)) :
    (execOp a.eval o).run Try.prog w = .ok (.value (.slice (some ⟨w.heap.size, 0, none⟩) 1 1)) (w.alloc (.cells #[.int .u8 (c : Int)] 5)) := by
  unfold execOp
  simp only [ho]
  rw [show (#[(0, x)] : Array (Nat × Operand)).map (fun (i, x) => (i, a.eval x)) = #[(0, .int .u8 (c : Int))] by simp [hx]]
  kernel_rfl
theorem exec_lists_one (o : Oper) (a : Act) (w : World) (x : Operand) (p : Option Addr) (n m : Nat) (ho : o.op = .buildSlice 35 1 #[(0, x)]) (hx : a.eval x = .slice p n m) :
    (execOp a.eval o).run Try.prog w = .ok (.value (.slice (some ⟨w.heap.size, 0, none⟩) 1 1)) (w.alloc (.cells #[.slice p n m] 23)) := by
  unfold execOp
  simp only [ho]
  rw [show (#[(0, x)] : Array (Nat × Operand)).map (fun (i, x) => (i, a.eval x)) = #[(0, .slice p n m)] by simp [hx]]
  kernel_rfl
theorem exec_lists_two (o : Oper) (a : Act) (w : World) (x y : Operand) (p q : Option Addr) (n m i j : Nat) (ho : o.op = .buildSlice 35 2 #[(0, x), (1, y)]) (hx : a.eval x = .slice p n m) (hy : a.eval y = .slice q i j) :
    (execOp a.eval o).run Try.prog w = .ok (.value (.slice (some ⟨w.heap.size, 0, none⟩) 2 2)) (w.alloc (.cells #[.slice p n m, .slice q i j] 23)) := by
  unfold execOp
  simp only [ho]
  rw [show (#[(0, x), (1, y)] : Array (Nat × Operand)).map (fun (i, x) => (i, a.eval x)) = #[(0, .slice p n m), (1, .slice q i j)] by simp [hx, hy]]
  kernel_rfl
theorem exec_lists_three (o : Oper) (a : Act) (w : World) (x y z : Operand) (p q r : Option Addr) (n m i j k l : Nat) (ho : o.op = .buildSlice 35 3 #[(0, x), (1, y), (2, z)]) (hx : a.eval x = .slice p n m) (hy : a.eval y = .slice q i j) (hz : a.eval z = .slice r k l) :
    (execOp a.eval o).run Try.prog w = .ok (.value (.slice (some ⟨w.heap.size, 0, none⟩) 3 3)) (w.alloc (.cells #[.slice p n m, .slice q i j, .slice r k l] 23)) := by
  unfold execOp
  simp only [ho]
  rw [show (#[(0, x), (1, y), (2, z)] : Array (Nat × Operand)).map (fun (i, x) => (i, a.eval x)) = #[(0, .slice p n m), (1, .slice q i j), (2, .slice r k l)] by simp [hx, hy, hz]]
  kernel_rfl

/-- '[]byte{c}'. -/
theorem HStep.byte {i : Nat} {o : Oper} (dst : Option Tmp) (hdst : o.dst = dst) (hw : Region.wanted o (yielded ops a.tmps) = true) (x : Operand) (c : Nat) (ho : o.op = .buildSlice 23 1 #[(0, x)]) (hx : a.eval x = .int .u8 (c : Int)) (hc : c < 256)
    (hS : ∀ w', Below w.heap.size w w' → S w')
    (h : ∀ (w' : World) (g : Nat), Below w.heap.size w w' → Rs w' (.slice (some ⟨g, 0, none⟩) 1 1) [c] → wpAnyH Try.prog md ops Q S fuel (listed.setIfInBounds i true) (a.put dst (.slice (some ⟨g, 0, none⟩) 1 1)) w') :
    HStep Try.prog md ops Q S fuel listed a w i o :=
  HStep.value dst hdst hw _ _ (exec_bytes_one o a w x c ho hx) (hS _ ((Below.refl _ _).alloc (Nat.le_refl _) _)) (h _ _ ((Below.refl _ _).alloc (Nat.le_refl _) _) (own_built w 0 [c] (AllB.one hc) (Nat.zero_le _) (by simp)).bs.rs)
/-- '[][]byte{x}'. -/
theorem HStep.lists1 {i : Nat} {o : Oper} (dst : Option Tmp) (hdst : o.dst = dst) (hw : Region.wanted o (yielded ops a.tmps) = true) (x : Operand) (u : Value) (l : List Nat) (ho : o.op = .buildSlice 35 1 #[(0, x)]) (hx : a.eval x = u) (hu : Rs w u l)
    (hS : ∀ w', Below w.heap.size w w' → S w')
    (h : ∀ (w' : World) (v : Value), Below w.heap.size w w' → Bss w' v [l] → wpAnyH Try.prog md ops Q S fuel (listed.setIfInBounds i true) (a.put dst v) w') : HStep Try.prog md ops Q S fuel listed a w i o := by
  obtain ⟨p, m, rfl⟩ := hu.form
  exact HStep.value dst hdst hw _ _ (exec_lists_one o a w x p _ m ho hx) (hS _ ((Below.refl _ _).alloc (Nat.le_refl _) _)) (h _ _ ((Below.refl _ _).alloc (Nat.le_refl _) _)
    (bss_built w [_] [l] rfl (by simp) fun i y hy => by
      match i with
      | 0 => simp at hy; subst hy; exact hu
      | _ + 1 => simp at hy))
theorem HStep.lists2 {i : Nat} {o : Oper} (dst : Option Tmp) (hdst : o.dst = dst) (hw : Region.wanted o (yielded ops a.tmps) = true) (x y : Operand) (u v : Value) (l m : List Nat) (ho : o.op = .buildSlice 35 2 #[(0, x), (1, y)]) (hx : a.eval x = u) (hy : a.eval y = v) (hu : Rs w u l) (hv : Rs w v m)
    (hS : ∀ w', Below w.heap.size w w' → S w')
    (h : ∀ (w' : World) (v : Value), Below w.heap.size w w' → Bss w' v [l, m] → wpAnyH Try.prog md ops Q S fuel (listed.setIfInBounds i true) (a.put dst v) w') : HStep Try.prog md ops Q S fuel listed a w i o := by
  obtain ⟨p, k, rfl⟩ := hu.form
  obtain ⟨q, j, rfl⟩ := hv.form
  exact HStep.value dst hdst hw _ _ (exec_lists_two o a w x y p q _ k _ j ho hx hy) (hS _ ((Below.refl _ _).alloc (Nat.le_refl _) _)) (h _ _ ((Below.refl _ _).alloc (Nat.le_refl _) _) (bss_two hu hv))
theorem HStep.lists3 {i : Nat} {o : Oper} (dst : Option Tmp) (hdst : o.dst = dst) (hw : Region.wanted o (yielded ops a.tmps) = true) (x y z : Operand) (u v t : Value) (l m n : List Nat) (ho : o.op = .buildSlice 35 3 #[(0, x), (1, y), (2, z)]) (hx : a.eval x = u) (hy : a.eval y = v) (hz : a.eval z = t) (hu : Rs w u l) (hv : Rs w v m) (ht : Rs w t n)
    (hS : ∀ w', Below w.heap.size w w' → S w')
    (h : ∀ (w' : World) (v : Value), Below w.heap.size w w' → Bss w' v [l, m, n] → wpAnyH Try.prog md ops Q S fuel (listed.setIfInBounds i true) (a.put dst v) w') : HStep Try.prog md ops Q S fuel listed a w i o := by
  obtain ⟨p, k, rfl⟩ := hu.form
  obtain ⟨q, j, rfl⟩ := hv.form
  obtain ⟨r, s, rfl⟩ := ht.form
  exact HStep.value dst hdst hw _ _ (exec_lists_three o a w x y z p q r _ k _ j _ s ho hx hy hz) (hS _ ((Below.refl _ _).alloc (Nat.le_refl _) _)) (h _ _ ((Below.refl _ _).alloc (Nat.le_refl _) _)
    (bss_built w [_, _, _] [l, m, n] rfl (by simp) fun i y hy => by
      match i with
      | 0 => simp at hy; subst hy; exact hu
      | 1 => simp at hy; subst hy; exact hv
      | 2 => simp at hy; subst hy; exact ht
      | _ + 3 => simp at hy))
end
end Go.Proofs.Ythfbcpbjnfdnkaa
