/- For the pinned walk (Pin2): whole rows (arrays by value) loaded, and stored back where they lie: such a store reads alone. Over any program. -/
import Derived.Test.YtmlaackdcnpjmaaDoorPin2
import Derived.Test.YtmlaackdcnpjmaaDoorGrowR
namespace Go.Proofs.YtmlaackdcnpjmaaDoor.Pin
open Go
section
variable {P : Program} {S : World → Prop} {ops : Array Oper} {Q : Act → World → Prop} {o : Oper} {rest : List Oper} {a : Act} {W : World} {cs : List Nat}
theorem q_load_row (hgd : o.guard = none) (ty : TypeId) (x : Operand) (ho : o.op = .load ty x) (g : Nat) (t : TypeId) (cells : Array Value) (n : Nat) (e : TypeId) (hx : a.eval x = .pointer (some ⟨g, 0, none⟩))
    (hg : W.heap[g]? = some (.cells cells t (0, 0))) (hu : P.underlying ty = some (.array n e)) (hi : (P.info? ty).map (·.size) = some cells.size) (h : qLex P S ops Q cs rest (a.put o.dst (.agg cells)) W) : qLex P S ops Q (1 :: cs) (o :: rest) a W :=
  q_read_n hgd fun K hK => ⟨.agg cells, fun k => by
    have hl := run_loadVar_row (P := P) (W.drewN k) g t ty cells (0, 0) _ hg hu rfl hi
    unfold execOp
    simp only [ho, hx, Instr.loadAt, Instr.sureAddr, Sem.run_bind, Sem.run_pure, Result.andThen_ok, hl]
    exact ⟨rfl, rfl⟩, hK _ _ h⟩
theorem q_same_row (hgd : o.guard = none) (ty : TypeId) (x y : Operand) (ho : o.op = .store ty x y) (g : Nat) (t : TypeId) (cells : Array Value) (hx : a.eval x = .pointer (some ⟨g, 0, none⟩)) (hy : a.eval y = .agg cells)
    (hg : W.heap[g]? = some (.cells cells t (0, 0))) (hi : (P.info? ty).map (·.size) = some cells.size) (h1 : cells.all (·.oneCell') = true) (h : qLex P S ops Q cs rest (a.put o.dst undef) W) : qLex P S ops Q (1 :: cs) (o :: rest) a W :=
  q_read_n hgd fun K hK => ⟨undef, fun k => by
    have hsv := run_storeVar_row (P := P) (W.drewN k) g t ty cells cells hg hi rfl h1
    rw [Grow.setRow_same (w := W.drewN k) hg] at hsv
    unfold execOp
    simp only [ho, hx, hy, Instr.storeAt, Instr.sureAddr, Sem.run_bind, Sem.run_pure, Result.andThen_ok, hsv]
    exact ⟨rfl, rfl⟩, hK _ _ h⟩
end
end Go.Proofs.YtmlaackdcnpjmaaDoor.Pin
