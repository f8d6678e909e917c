/- For the region's law of Grow: whole rows (arrays by value) loaded, and stored back where they lie. Over any program. -/
import Derived.Test.YtmlaackdcnpjmaaDoorGrow
import Derived.Laws.Rows
import Derived.Laws.Tables
namespace Go.Proofs.YtmlaackdcnpjmaaDoor.Grow
open Go Go.Proofs.YtmlaackdcnpjmaaDoor.Pin
section
variable {P : Program} {R : World → World → Prop} {ops : Array Oper} {a : Act} {W : World} {Vs : List (Value → World → Prop)} {o : Oper} {os : List Oper} {d : List Nat} {ds : List (List Nat)} {V : Value → World → Prop} {vs : List (Value → World → Prop)}
theorem setRow_same {w : World} {g : Nat} {cs : Array Value} {t : TypeId} {fz : Nat × Nat} (h : w.heap[g]? = some (.cells cs t fz)) : w.setRow g cs = w := by
  have e : (w.setRow g cs).heap = w.heap := by
    apply Array.ext_getElem?
    intro i
    by_cases hi : i = g
    · subst hi
      rw [setRow_heap w i cs cs t fz h, h]
    · exact setRow_other w g i cs hi
  have e2 : w.setRow g cs = { w with heap := (w.setRow g cs).heap } := rfl
  rw [e2, e]
theorem gGoals.load_row (hgd : o.guard = none) (ty : TypeId) (x : Operand) (ho : o.op = .load ty x) (g : Nat) (t : TypeId) (cells : Array Value) (n : Nat) (e : TypeId) (hx : ∀ u, (actL ops u d a).eval x = .pointer (some ⟨g, 0, none⟩))
    (hg : ∀ w, R W w → w.heap[g]? = some (.cells cells t (0, 0))) (hu : P.underlying ty = some (.array n e)) (hi : (P.info? ty).map (·.size) = some cells.size) (hrr : ∀ w, R w w) (hV : ∀ w, V (.agg cells) w)
    (rest : gGoals P R ops a W Vs os ds vs) : gGoals P R ops a W Vs (o :: os) (d :: ds) (V :: vs) :=
  .cons (fun u w hR _ => gop_n hgd (by
    have hl := run_loadVar_row (P := P) w g t ty cells (0, 0) _ (hg w hR) hu rfl hi
    unfold execOp
    simp only [ho, hx u, Instr.loadAt, Instr.sureAddr, Sem.run_bind, Sem.run_pure, Result.andThen_ok, hl]
    exact ⟨hrr w, hV w⟩)) rest
theorem gGoals.same_row (hgd : o.guard = none) (ty : TypeId) (x y : Operand) (ho : o.op = .store ty x y) (g : Nat) (t : TypeId) (cells : Array Value) (k : Nat) (hx : ∀ u, (actL ops u d a).eval x = .pointer (some ⟨g, 0, none⟩)) (hy : ∀ u, (actL ops u d a).eval y = u k)
    (hk : ∀ u w, gFacts Vs u w d → u k = .agg cells) (hg : ∀ w, R W w → w.heap[g]? = some (.cells cells t (0, 0))) (hi : (P.info? ty).map (·.size) = some cells.size) (h1 : cells.all (·.oneCell') = true) (hrr : ∀ w, R w w) (hV : ∀ w, V undef w)
    (rest : gGoals P R ops a W Vs os ds vs) : gGoals P R ops a W Vs (o :: os) (d :: ds) (V :: vs) :=
  .cons (fun u w hR hF => gop_n hgd (by
    have hsv := run_storeVar_row (P := P) w g t ty cells cells (hg w hR) hi rfl h1
    rw [setRow_same (hg w hR)] at hsv
    unfold execOp
    simp only [ho, hx u, hy u, hk u w hF, Instr.storeAt, Instr.sureAddr, Sem.run_bind, Sem.run_pure, Result.andThen_ok, hsv]
    exact ⟨hrr w, hV w⟩)) rest
end
end Go.Proofs.YtmlaackdcnpjmaaDoor.Grow
