/- Chapter 24: Check. -/
import Derived.Test.YtpnmhldaaaemeaaPlain24
import Derived.Deep.WholeRow
namespace Go.Proofs.Ytpnmhldaaaemeaa.Snp
open Go.RowKit Go.Proofs.Ytpnmhldaaaemeaa.Pin

abbrev fv (f : FuncId) : Value := .func (.func f) #[] #[]
abbrev kindsA : Array Value := #[.nilFunc, .nilFunc, .nilFunc, fv 35, fv 36, fv 37, fv 39, fv 42, fv 44, fv 46, fv 50, fv 53, fv 56, fv 58, fv 59, fv 60, fv 61, fv 64, fv 67, fv 68, fv 72]
abbrev zeroA : Array Value := #[.nilFunc, .nilFunc, .nilFunc, .nilFunc, .nilFunc, .nilFunc, .nilFunc, .nilFunc, .nilFunc, .nilFunc, .nilFunc, .nilFunc, .nilFunc, .nilFunc, .nilFunc, .nilFunc, .nilFunc, .nilFunc, .nilFunc, .nilFunc, .nilFunc]
theorem kinds_size : (Try.prog.info? 59).map (·.size) = some kindsA.size := by kernel_rfl
theorem wpList_built {P : Program} {ops : Array Oper} {rest : List Oper} {o : Oper} {a : Act} {w : World} {Q : Exit → Act → World → Prop} (hg : o.guard = none) (t : TypeId) (parts : Array (Nat × Operand)) (ho : o.op = .build t parts) (cells : Array Value)
    (hf : P.built t (parts.map fun (i, x) => (i, a.eval x)).toList = some cells) (h : wpList P ops Q rest (a.put o.dst (.agg cells)) w) : wpList P ops Q (o :: rest) a w := by
  refine wpList_build hg t parts ho (by rw [hf]; rfl) ?_
  rw [hf]
  exact h
set_option maxHeartbeats 2000000 in
set_option maxRecDepth 100000 in
theorem kinds_any (w : World) : Calls Try.prog 18 #[] w fun e w' => e = .returned (.agg kindsA) ∧ Below w.heap.size w w' := by
  go_enter Try.func18, Try.ntmps18
  go_wp2_with (first
    | (refine wpList_built (by rfl) 58 #[(0, Operand.func 35), (1, Operand.func 36), (2, Operand.func 37)] (by rfl) #[fv 35, fv 36, fv 37] (by kernel_rfl) ?_)
    | (refine wpList_built (by rfl) 58 #[(0, Operand.func 39), (1, Operand.func 42), (2, Operand.func 44)] (by rfl) #[fv 39, fv 42, fv 44] (by kernel_rfl) ?_)
    | (refine wpList_built (by rfl) 58 #[(0, Operand.func 46), (1, Operand.func 50), (2, Operand.func 53)] (by rfl) #[fv 46, fv 50, fv 53] (by kernel_rfl) ?_)
    | (refine wpList_built (by rfl) 58 #[(0, Operand.func 56), (1, Operand.func 58), (2, Operand.func 59)] (by rfl) #[fv 56, fv 58, fv 59] (by kernel_rfl) ?_)
    | (refine wpList_built (by rfl) 58 #[(0, Operand.func 60), (1, Operand.func 61), (2, Operand.func 64)] (by rfl) #[fv 60, fv 61, fv 64] (by kernel_rfl) ?_)
    | (refine wpList_built (by rfl) 58 #[(0, Operand.func 67), (1, Operand.func 68), (2, Operand.func 72)] (by rfl) #[fv 67, fv 68, fv 72] (by kernel_rfl) ?_)
    | (refine wpList_built (by rfl) 59 #[(1, .tmp 1), (2, .tmp 2), (3, .tmp 3), (4, .tmp 4), (5, .tmp 5), (6, .tmp 6)] (by rfl) kindsA (by kernel_rfl) ?_)
    | (refine wpList_store_row rfl 59 (.tmp 0) (.tmp 7) (by rfl) w.heap.size kindsA (by rfl) (by rfl) 59 zeroA (heap_alloc_new w _) kinds_size rfl (by kernel_rfl) ?_))
  rw [World.setRow_alloc_new]
  exact bodyPost_ret (results_cell_row rfl _ _ w.heap.size 59 kindsA (0, 0) _ rfl (heap_alloc_new w _) Try.underlying59 rfl kinds_size) rfl ⟨rfl, (Below.refl _ _).alloc (Nat.le_refl _) _⟩
end Go.Proofs.Ytpnmhldaaaemeaa.Snp
