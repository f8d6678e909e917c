/- The table's rows: what they hold is what the program's own text builds. -/
import Derived.Test.YtpanbijlfijgfaaDoorProg
import Derived.WalkKit
import Derived.KernelRfl
import Derived.Lib.Hide
import Derived.Below
import Derived.Great.BuildSlice
import Derived.Great.FillDense
import Derived.Great.Frames
import Derived.Deep.WholeRow
namespace Go.Proofs.YtpanbijlfijgfaaDoor.Rws
open Go.RowKit

/-! ### A row of 'build's of constants -/
def constsOf : List (Nat × Operand) → Option (List (Nat × Value))
  | [] => some []
  | (i, .const v) :: l => (constsOf l).map ((i, v) :: ·)
  | _ => none
def rowOf (P : Program) (o : Oper) : Option (Array Value) :=
  match o.guard, o.op with
  | none, .build t parts => (constsOf parts.toList).bind (P.built t)
  | _, _ => none
theorem consts_eval (a : Act) : ∀ (l : List (Nat × Operand)) (r : List (Nat × Value)), constsOf l = some r → l.map (fun x => (x.1, a.eval x.2)) = r
  | [], r, h => by simp [constsOf] at h; subst h; rfl
  | (i, .const v) :: l, r, h => by
    obtain ⟨r', hr, rfl⟩ := Option.map_eq_some_iff.1 h
    rw [List.map_cons, consts_eval a l r' hr]
    rfl
  | (_, .tmp _) :: _, _, h => by cases h
  | (_, .func _) :: _, _, h => by cases h
  | (_, .global _) :: _, _, h => by cases h
theorem rowOf_spec {P : Program} {o : Oper} {cs : Array Value} (h : rowOf P o = some cs) : o.guard = none ∧ ∃ t parts, o.op = .build t parts ∧ ∀ a : Act, P.built t (parts.map fun (i, x) => (i, a.eval x)).toList = some cs := by
  unfold rowOf at h
  split at h
  · rename_i t parts hg ho
    refine ⟨hg, t, parts, ho, fun a => ?_⟩
    obtain ⟨r, hr, hb⟩ := Option.bind_eq_some_iff.1 h
    rw [Array.toList_map]
    have := consts_eval a parts.toList r hr
    rw [← hb, ← this]
  · cases h
theorem wpList_rows {P : Program} {ops : Array Oper} {Q : Exit → Act → World → Prop} {w : World} {rest : List Oper} : ∀ (l : List Oper) (vs : List (Array Value)) (k : Nat) (a : Act),
    l.map (rowOf P) = vs.map some → l.map (·.dst) = (List.range' k vs.length).map some → k + vs.length ≤ a.tmps.size →
    (∀ a' : Act, a'.tmps.size = a.tmps.size → a'.defers = a.defers → (∀ j, j < k → a'.eval (.tmp j) = a.eval (.tmp j)) → (∀ i (h : i < vs.length), a'.eval (.tmp (k + i)) = .agg vs[i]) → wpList P ops Q rest a' w) → wpList P ops Q (l ++ rest) a w
  | [], [], k, a, _, _, _, h => h a rfl rfl (fun _ _ => rfl) (fun i hi => absurd hi (by simp))
  | [], _ :: _, _, _, h, _, _, _ => by simp at h
  | _ :: _, [], _, _, h, _, _, _ => by simp at h
  | o :: l, v :: vs, k, a, h1, h2, h3, h => by
    simp only [List.map_cons, List.cons.injEq] at h1
    simp only [List.map_cons, List.length_cons, List.range'_succ, List.cons.injEq] at h2
    simp only [List.length_cons] at h3
    obtain ⟨hg, t, parts, ho, hb⟩ := rowOf_spec h1.1
    refine wpList_buildTo hg t parts ho (some k) h2.1 v (hb a) ?_
    have hsz : (a.put (some k) (.agg v)).tmps.size = a.tmps.size := Act.size_put _ _ _
    refine wpList_rows l vs (k + 1) _ h1.2 h2.2 (by rw [hsz]; omega) fun a' ha hd hlow hrow => h a' (ha.trans hsz) (hd.trans (by rfl)) (fun j hj => ?_) (fun i hi => ?_)
    · rw [hlow j (by omega), Act.eval_put_ne _ _ _ _ (by omega)]
    · match i, hi with
      | 0, _ =>
        rw [Nat.add_zero, hlow k (by omega), Act.eval_put_same _ _ _ (by omega)]
        rfl
      | i + 1, hi =>
        have := hrow i (by simpa using hi)
        rw [show k + (i + 1) = k + 1 + i by omega, this]
        rfl
theorem wpList_rowsAt {P : Program} {ops : Array Oper} {Q : Exit → Act → World → Prop} {w : World} (n : Nat) (l : List Oper) (vs : List (Array Value)) (k : Nat) (a : Act)
    (h1 : (l.take n).map (rowOf P) = vs.map some) (h2 : (l.take n).map (·.dst) = (List.range' k vs.length).map some) (h3 : k + vs.length ≤ a.tmps.size) (rest : List Oper) (hr : l.drop n = rest)
    (h : ∀ a' : Act, a'.tmps.size = a.tmps.size → a'.defers = a.defers → (∀ j, j < k → a'.eval (.tmp j) = a.eval (.tmp j)) → (∀ i (h : i < vs.length), a'.eval (.tmp (k + i)) = .agg vs[i]) → wpList P ops Q rest a' w) : wpList P ops Q l a w := by
  subst hr
  have := wpList_rows (l.take n) vs k a h1 h2 h3 h
  rwa [List.take_append_drop] at this
theorem wpList_allocTo {P : Program} {ops : Array Oper} {rest : List Oper} {o : Oper} {Q : Exit → Act → World → Prop} {w : World} {a : Act} (hg : o.guard = none) (t : TypeId) (ho : o.op = .alloc t) (d : Option Tmp) (hd : o.dst = d) (z : Array Value)
    (hz : ∀ w, (zeroValue t).run P w = .ok (.agg z) w) (h : wpList P ops Q rest (a.put d (.pointer (some ⟨w.heap.size, 0, none⟩))) (w.alloc (.cells z t))) : wpList P ops Q (o :: rest) a w := by
  subst hd
  refine wpList_plain hg fun K hK => ?_
  unfold Oper.wp execOp
  simp only [ho]
  simp [Instr.alloc, hz, Result.andThen]
  exact hK _ _ h
theorem parts_rows (a : Act) (parts : Array (Nat × Operand)) (vs : List (Array Value)) (k : Nat) (hp : parts.toList = (List.range vs.length).map fun i => (i, Operand.tmp (k + i))) (h : ∀ i (h : i < vs.length), a.eval (.tmp (k + i)) = .agg vs[i]) :
    (parts.map fun (i, x) => (i, a.eval x)).toList = ((vs.map Value.agg).zipIdx 0).map fun x => (x.2, x.1) := by
  rw [Array.toList_map, hp]
  apply List.ext_getElem
  · simp
  · intro i h1 h2
    simp at h1
    simp [h i h1]
def opsOf : Nat → Code → List Oper
  | 0, .seq (.region _ ops _) _ => ops.toList
  | n + 1, .seq _ b => opsOf n b
  | _, _ => []

/-! ### The program's two tables -/
def zeros9 : List Value := [.string ⟨#[]⟩, .int .i64 0, .int .i64 0, .bool false, .bool false, .int .i64 0, .int .i64 0, .bool false, .int .i64 0]
def zeros : Array Value := ((List.range 72).flatMap fun _ => zeros9).toArray
theorem zero_row (w : World) : (zeroValue 63).run Tryd.prog w = .ok (.agg zeros) w := by kernel_rfl
/-- the rows that the text of rows builds -/
noncomputable def rowsV : List (Array Value) := (((Tryd.f53.body.map fun c => (opsOf 1 c).take 72).getD []).map (rowOf Tryd.prog)).map (·.getD #[])
/-- .. one behind the other -/
noncomputable def rowsC : Array Value := ((rowsV.map Value.agg).flatMap fun v => v.cells.toList).toArray

theorem rows_len : rowsV.length = 72 := by kernel_rfl
theorem rows_nine : rowsV.all (fun r => r.size == 9 && r.all (·.oneCell')) = true := by kernel_rfl

theorem nines : ∀ v ∈ rowsV.map Value.agg, v.cells.size = 9 := by
  intro v hv
  obtain ⟨r, hr, rfl⟩ := List.mem_map.1 hv
  have := List.all_eq_true.1 rows_nine r hr
  simp only [Bool.and_eq_true, beq_iff_eq] at this
  exact this.1

set_option maxHeartbeats 1000000 in
set_option maxRecDepth 100000 in
theorem rows_any (w : World) : Calls Tryd.prog 53 #[] w fun e w' => e = .returned (.agg rowsC) ∧ w.alloc (.cells rowsC 63) = w' := by
  refine calls_of_wp Tryd.func53 rfl ?_
  apply wp_seq_k; intro K0 hK0
  apply wp_region_lit
  refine wpList_allocTo rfl 63 rfl (some 0) rfl zeros zero_row ?_
  refine hK0 _ _ ?_
  apply wp_seq_k; intro K1 hK1
  apply wp_region_lit
  refine wpList_rowsAt 72 _ rowsV 1 _ (by kernel_rfl) (by kernel_rfl) (Nat.le_of_ble_eq_true (by kernel_rfl)) [_, _] rfl fun a' hs hd hlow hrow => ?_
  have hb : Tryd.prog.built 63 ((rowsV.map Value.agg).zipIdx 0 |>.map fun x => (x.2, x.1)) = some rowsC := by
    unfold Program.built
    have hz : (Tryd.prog.info? 63).bind (·.zero) = some (.agg zeros) := by kernel_rfl
    have hsz : (Tryd.prog.info? 54).map (·.size) = some 9 := by kernel_rfl
    obtain ⟨it, hit, hzz⟩ := Option.bind_eq_some_iff.1 hz
    obtain ⟨ie, hie, hse⟩ := Option.map_eq_some_iff.1 hsz
    simp only [hit, Tryd.underlying63, hzz, hie, hse]
    exact Great.fill_whole (by omega) _ _ nines (by kernel_rfl)
  have hs74 : 73 < a'.tmps.size := by rw [hs]; exact Nat.le_of_ble_eq_true (by kernel_rfl)
  refine wpList_buildTo rfl 63 _ rfl (some 73) rfl rowsC ?_ ?_
  · rw [parts_rows a' _ rowsV 1 (by kernel_rfl) hrow]
    exact hb
  · have h0 : (a'.put (some 73) (.agg rowsC)).eval (.tmp 0) = .pointer (some ⟨w.heap.size, 0, none⟩) := by
      rw [Act.eval_put_ne _ _ _ _ (by decide), hlow 0 (by decide), Act.eval_put_same _ _ _ (Nat.le_of_ble_eq_true (by kernel_rfl))]
    have h1 : (a'.put (some 73) (.agg rowsC)).eval (.tmp 73) = .agg rowsC := Act.eval_put_same _ _ _ hs74
    refine wpList_store_rowTo rfl 63 (.tmp 0) (.tmp 73) rfl rfl w.heap.size rowsC h0 h1 63 zeros (heap_alloc_last w _) (by kernel_rfl) (by kernel_rfl) (by kernel_rfl) ?_
    rw [World.setRow_alloc_new]
    refine hK1 _ _ ?_
    have h2 : (a'.put (some 73) (.agg rowsC)).tmps.getD 0 undef = .pointer (some ⟨w.heap.size, 0, none⟩) := h0
    have h3 : (a'.put (some 73) (.agg rowsC)).defers = [] := by rw [Act.defers_put', hd, Act.defers_put']
    generalize a'.put (some 73) (.agg rowsC) = a2 at h2 h3 ⊢
    refine wp_ret ?_
    refine bodyPost_ret (v := .agg rowsC) (results_cell_row rfl _ _ w.heap.size 63 rowsC (0, 0) _ h2 (heap_alloc_last w _) Tryd.underlying63 rfl (by kernel_rfl)) h3 ⟨rfl, rfl⟩
end Go.Proofs.YtpanbijlfijgfaaDoor.Rws
