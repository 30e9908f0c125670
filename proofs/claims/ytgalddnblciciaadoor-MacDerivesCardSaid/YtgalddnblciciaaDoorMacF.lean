import Derived.Test.YtgalddnblciciaaDoorMacE
import Derived.Lib.SmallJoins
namespace Go.Proofs.YtgalddnblciciaaDoor
open Go.RowKit Go.Deep

/-- '[]byte("..")' behind the literal that it lays: the world is left open. -/
theorem wpList_lit {w : World} {ops : Array Oper} {rest : List Oper} {o : Oper} {a : Act} {Q : Exit → Act → World → Prop} (hgd : o.guard = none) (x : Operand)
    (ho : o.op = .convert 24 24 x) (g n : Nat) (C : Array Value) (l : List Nat) (hg : g = w.heap.size) (hC : C = (l.map bv).toArray) (hn : n = l.length) (hx : a.eval x = .slice (some ⟨g, 0, none⟩) n n) (hall : AllB l) (h63 : l.length ≤ 9223372036854775807)
    (h : ∀ v' w', Rs w' v' l → Below w.heap.size w w' → wpList Tryd.prog ops Q rest (a.put o.dst v') w') : wpList Tryd.prog ops Q (o :: rest) a (w.alloc (.cells C 5)) := by
  subst hg; subst hC; subst hn
  refine wpList_plain hgd fun K hK => ?_
  have hr := Go.Joins.run_convert_bytes_const_at (P := Tryd.prog) w 24 5 (l.map bv).toArray l.length l.length w.heap.size rfl Tryd.underlying24 Tryd.underlying5
  unfold Oper.wp execOp
  simp only [ho, Sem.run_bind, Sem.run_pure, Result.andThen_ok, hx, hr]
  exact hK _ _ (h _ _ (rs_lit_at w _ rfl l _ hall h63) ((Below.refl _ _).alloc (Nat.le_refl _) _))
namespace Mac
def jefe : List Nat := [74, 101, 102, 101]
def ask : List Nat := [119, 104, 97, 116, 32, 100, 111, 32, 121, 97, 32, 119, 97, 110, 116, 32]
def noth : List Nat := [102, 111, 114, 32, 110, 111, 116, 104, 105, 110, 103, 63]
end Mac
theorem allB_of (l : List Nat) (h : (l.all fun x => decide (x < 256)) = true) : AllB l := fun x hx => by simpa using (List.all_eq_true.1 h) x hx

/-- The code, for the kernel to reckon. -/
def Mac.hmR (key msg : List Nat) : Sha.St := Sha.frcS (Sha.digR (Mac.fr (Mac.p0 key) 54 ++ msg)) fun s => Sha.digR (Mac.fr (Mac.p0 key) 92 ++ (List.range 32).map (Sha.out s))
theorem Mac.hm_eq (key msg : List Nat) : Mac.hm key msg = Sha.out (Mac.hmR key msg) := by
  unfold Mac.hmR Mac.hm
  rw [Sha.frcS_eq, Sha.dig_eq, Mac.dl, Sha.dig_eq]
set_option maxRecDepth 100000 in
theorem hm_jefe : Mac.hm Mac.jefe (Mac.ask ++ Mac.noth) 0 = 91 ∧ Mac.hm Mac.jefe (Mac.ask ++ Mac.noth) 1 = 220 ∧ Mac.hm Mac.jefe (Mac.ask ++ Mac.noth) 2 = 193 ∧ Mac.hm Mac.jefe (Mac.ask ++ Mac.noth) 31 = 67 := by
  rw [Mac.hm_eq]; decide +kernel

end Go.Proofs.YtgalddnblciciaaDoor
