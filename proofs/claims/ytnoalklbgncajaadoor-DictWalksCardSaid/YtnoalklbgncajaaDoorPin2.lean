/- Swifter steps of the pinned walk: whether a guard wants an operation is read off the frame, ahead of the walk's own simp; and what is left of the region stands in a structure, so that nothing unfolds it. -/
import Derived.Test.YtnoalklbgncajaaDoorPin
namespace Go.Proofs.YtnoalklbgncajaaDoor.Pin
open Go
structure qLex (P : Program) (S : World → Prop) (ops : Array Oper) (Q : Act → World → Prop) (cs : List Nat) (l : List Oper) (a : Act) (W : World) : Prop where
  out : pLex P S ops Q cs l a W
section
variable {P : Program} {S : World → Prop} {ops : Array Oper} {Q : Act → World → Prop} {o : Oper} {rest : List Oper} {a : Act} {W : World} {cs : List Nat}
theorem wanted_n (hg : o.guard = none) (y : Nat → Option Bool) : Region.wanted o y = true := by simp [Region.wanted, hg]
theorem wanted_y {j : Nat} {b : Bool} (hg : o.guard = some (j, b)) {y : Nat → Option Bool} (hy : y j = some b) : Region.wanted o y = true := by simp [Region.wanted, hg, hy]
theorem wanted_x {j : Nat} {b : Bool} (hg : o.guard = some (j, b)) {y : Nat → Option Bool} (hy : y j = some (!b)) : Region.wanted o y = false := by
  cases b <;> simp [Region.wanted, hg, hy]
theorem q_pure_n (hg : o.guard = none) (h : ∀ K : Act → World → Prop, (∀ a W, qLex P S ops Q cs rest a W → K a W) → ∃ v, (∀ w, (execOp a.eval o).run P w = .ok (.value v) w) ∧ K (a.put o.dst v) W) : qLex P S ops Q (0 :: cs) (o :: rest) a W :=
  ⟨pin_pure fun K hK => by rw [if_pos (wanted_n hg _)]; exact h K (fun a W h => hK a W h.out)⟩
theorem q_pure_y {j : Nat} {b : Bool} (hg : o.guard = some (j, b)) (hy : yielded ops a.tmps j = some b) (h : ∀ K : Act → World → Prop, (∀ a W, qLex P S ops Q cs rest a W → K a W) → ∃ v, (∀ w, (execOp a.eval o).run P w = .ok (.value v) w) ∧ K (a.put o.dst v) W) : qLex P S ops Q (0 :: cs) (o :: rest) a W :=
  ⟨pin_pure fun K hK => by rw [if_pos (wanted_y hg hy)]; exact h K (fun a W h => hK a W h.out)⟩
theorem q_pure_x {j : Nat} {b : Bool} (hg : o.guard = some (j, b)) (hy : yielded ops a.tmps j = some (!b)) (h : ∀ K : Act → World → Prop, (∀ a W, qLex P S ops Q cs rest a W → K a W) → K (a.put o.dst undef) W) : qLex P S ops Q (0 :: cs) (o :: rest) a W :=
  ⟨pin_pure fun K hK => by rw [if_neg (by rw [wanted_x hg hy]; decide)]; exact h K (fun a W h => hK a W h.out)⟩
theorem q_read_n (hg : o.guard = none) (h : ∀ K : Act → World → Prop, (∀ a W, qLex P S ops Q cs rest a W → K a W) → ∃ v, (∀ n, readAt P W n v ((execOp a.eval o).run P (W.drewN n))) ∧ K (a.put o.dst v) W) : qLex P S ops Q (1 :: cs) (o :: rest) a W :=
  ⟨pin_read fun K hK => by rw [if_pos (wanted_n hg _)]; exact h K (fun a W h => hK a W h.out)⟩
theorem q_read_y {j : Nat} {b : Bool} (hg : o.guard = some (j, b)) (hy : yielded ops a.tmps j = some b) (h : ∀ K : Act → World → Prop, (∀ a W, qLex P S ops Q cs rest a W → K a W) → ∃ v, (∀ n, readAt P W n v ((execOp a.eval o).run P (W.drewN n))) ∧ K (a.put o.dst v) W) : qLex P S ops Q (1 :: cs) (o :: rest) a W :=
  ⟨pin_read fun K hK => by rw [if_pos (wanted_y hg hy)]; exact h K (fun a W h => hK a W h.out)⟩
theorem q_read_x {j : Nat} {b : Bool} (hg : o.guard = some (j, b)) (hy : yielded ops a.tmps j = some (!b)) (h : ∀ K : Act → World → Prop, (∀ a W, qLex P S ops Q cs rest a W → K a W) → K (a.put o.dst undef) W) : qLex P S ops Q (1 :: cs) (o :: rest) a W :=
  ⟨pin_read fun K hK => by rw [if_neg (by rw [wanted_x hg hy]; decide)]; exact h K (fun a W h => hK a W h.out)⟩
theorem q_write_n (hg : o.guard = none) (h : ∀ K : Act → World → Prop, (∀ a W, qLex P Any ops Q cs rest a W → K a W) → ∀ n, writeAt P o a K ((execOp a.eval o).run P (W.drewN n))) : qLex P Any ops Q (2 :: cs) (o :: rest) a W :=
  ⟨pin_write fun K hK => by rw [if_pos (wanted_n hg _)]; exact h K (fun a W h => hK a W h.out)⟩
theorem q_write_y {j : Nat} {b : Bool} (hg : o.guard = some (j, b)) (hy : yielded ops a.tmps j = some b) (h : ∀ K : Act → World → Prop, (∀ a W, qLex P Any ops Q cs rest a W → K a W) → ∀ n, writeAt P o a K ((execOp a.eval o).run P (W.drewN n))) : qLex P Any ops Q (2 :: cs) (o :: rest) a W :=
  ⟨pin_write fun K hK => by rw [if_pos (wanted_y hg hy)]; exact h K (fun a W h => hK a W h.out)⟩
theorem q_write_x {j : Nat} {b : Bool} (hg : o.guard = some (j, b)) (hy : yielded ops a.tmps j = some (!b)) (h : ∀ K : Act → World → Prop, (∀ a W, qLex P Any ops Q cs rest a W → K a W) → K (a.put o.dst undef) W) : qLex P Any ops Q (2 :: cs) (o :: rest) a W :=
  ⟨pin_write fun K hK => by rw [if_neg (by rw [wanted_x hg hy]; decide)]; exact h K (fun a W h => hK a W h.out)⟩
theorem wanted_u {j : Nat} {b : Bool} (hg : o.guard = some (j, b)) {y : Nat → Option Bool} (hy : y j = none) : Region.wanted o y = false := by simp [Region.wanted, hg, hy]
theorem q_pure_u {j : Nat} {b : Bool} (hg : o.guard = some (j, b)) (hy : yielded ops a.tmps j = none) (h : ∀ K : Act → World → Prop, (∀ a W, qLex P S ops Q cs rest a W → K a W) → K (a.put o.dst undef) W) : qLex P S ops Q (0 :: cs) (o :: rest) a W :=
  ⟨pin_pure fun K hK => by rw [if_neg (by rw [wanted_u hg hy]; decide)]; exact h K (fun a W h => hK a W h.out)⟩
theorem q_read_u {j : Nat} {b : Bool} (hg : o.guard = some (j, b)) (hy : yielded ops a.tmps j = none) (h : ∀ K : Act → World → Prop, (∀ a W, qLex P S ops Q cs rest a W → K a W) → K (a.put o.dst undef) W) : qLex P S ops Q (1 :: cs) (o :: rest) a W :=
  ⟨pin_read fun K hK => by rw [if_neg (by rw [wanted_u hg hy]; decide)]; exact h K (fun a W h => hK a W h.out)⟩
theorem q_write_u {j : Nat} {b : Bool} (hg : o.guard = some (j, b)) (hy : yielded ops a.tmps j = none) (h : ∀ K : Act → World → Prop, (∀ a W, qLex P Any ops Q cs rest a W → K a W) → K (a.put o.dst undef) W) : qLex P Any ops Q (2 :: cs) (o :: rest) a W :=
  ⟨pin_write fun K hK => by rw [if_neg (by rw [wanted_u hg hy]; decide)]; exact h K (fun a W h => hK a W h.out)⟩
theorem q_nil (h : Q a W) : qLex P S ops Q cs [] a W := ⟨pin_nil h⟩
theorem wp_region_q {id : Nat} {Q : Exit → Act → World → Prop} {l : List Oper} {w : World} (cs : List Nat) (hm : P.follows .mixedOrders = true) (hB : pinB cs l.toArray = true)
    (h : qLex P Any l.toArray (fun a' W => ∀ n, Q .normal a' (W.drewN n)) cs l a w) : (Code.region id l.toArray true).wp P Q a w := wp_region_pin cs hm hB h.out
end
end Go.Proofs.YtnoalklbgncajaaDoor.Pin
