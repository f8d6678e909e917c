/- The document's table: the same rows, as a slice. -/
import Derived.Test.YtpanbijlfijgfaaDoorRows18
namespace Go.Proofs.YtpanbijlfijgfaaDoor.Rws
open Go.RowKit

theorem wpList_assignTo {P : Program} {ops : Array Oper} {rest : List Oper} {o : Oper} {Q : Exit → Act → World → Prop} {w : World} {a : Act} (hg : o.guard = none) (x : Operand) (ho : o.op = .assign x) (d : Option Tmp) (hd : o.dst = d) (v : Value) (hv : a.eval x = v)
    (h : wpList P ops Q rest (a.put d v) w) : wpList P ops Q (o :: rest) a w := by
  subst hd hv
  refine wpList_plain hg fun K hK => ?_
  unfold Oper.wp execOp
  simp only [ho]
  simp
  exact hK _ _ h

noncomputable def refV : List (Array Value) := (((Tryd.f54.body.map fun c => (opsOf 1 c).take 72).getD []).map (rowOf Tryd.prog)).map (·.getD #[])
theorem ref_rows : refV = rowsV := by kernel_rfl

set_option maxHeartbeats 1000000 in
set_option maxRecDepth 100000 in
theorem ref_any (w : World) : Calls Tryd.prog 54 #[] w fun e w' => e = .returned (.slice (some ⟨w.heap.size, 0, none⟩) 72 72) ∧ w.alloc (.cells rowsC 58) = w' := by
  refine calls_of_wp Tryd.func54 rfl ?_
  apply wp_seq_k; intro K0 hK0
  apply wp_region_lit
  refine wpList_assignTo rfl _ rfl (some 0) rfl _ rfl ?_
  refine hK0 _ _ ?_
  apply wp_seq_k; intro K1 hK1
  apply wp_region_lit
  refine wpList_rowsAt 72 _ rowsV 1 _ (by kernel_rfl) (by kernel_rfl) (Nat.le_of_ble_eq_true (by kernel_rfl)) [_, _] rfl fun a' hs hd hlow hrow => ?_
  have hs74 : 73 < a'.tmps.size := by rw [hs]; exact Nat.le_of_ble_eq_true (by kernel_rfl)
  have hsz : (Tryd.prog.info? 58).map (·.size) = some 9 := by kernel_rfl
  have hz : ((Tryd.prog.info? 58).bind (·.zero)).isSome = true := by kernel_rfl
  obtain ⟨ie, hie, hse⟩ := Option.map_eq_some_iff.1 hsz
  rw [hie] at hz
  obtain ⟨z, hzz⟩ := Option.isSome_iff_exists.1 hz
  refine wpList_buildSlice rfl 65 58 72 _ rfl rowsC ie z Tryd.underlying65 hie hzz (by rw [hse]; decide) (by rw [hse]; decide) ?_ ?_
  · rw [parts_rows a' _ rowsV 1 (by kernel_rfl) hrow, hse]
    exact Great.fill_whole (by omega) _ _ nines (by simp [rows_len])
  · refine wpList_assignTo rfl (.tmp 73) rfl (some 0) rfl (.slice (some ⟨w.heap.size, 0, none⟩) 72 72) (Act.eval_put_same _ _ _ hs74) ?_
    refine hK1 _ _ ?_
    have h3 : (a'.put (some 73) (.slice (some ⟨w.heap.size, 0, none⟩) 72 72)).defers = [] := by rw [Act.defers_put', hd, Act.defers_put']
    have h4 : 0 < (a'.put (some 73) (.slice (some ⟨w.heap.size, 0, none⟩) 72 72)).tmps.size := by rw [Act.size_put]; omega
    generalize a'.put (some 73) (.slice (some ⟨w.heap.size, 0, none⟩) 72 72) = a2 at h3 h4 ⊢
    have h5 : (a2.put (some 0) (.slice (some ⟨w.heap.size, 0, none⟩) 72 72)).eval (.tmp 0) = .slice (some ⟨w.heap.size, 0, none⟩) 72 72 := Act.eval_put_same _ _ _ h4
    have h6 : (a2.put (some 0) (.slice (some ⟨w.heap.size, 0, none⟩) 72 72)).defers = [] := by rw [Act.defers_put', h3]
    generalize a2.put (some 0) (.slice (some ⟨w.heap.size, 0, none⟩) 72 72) = a3 at h5 h6 ⊢
    refine wp_ret ?_
    refine bodyPost_ret (v := a3.tmps.getD 0 undef) (results_tmp (fn := Tryd.f54) (t := 0) rfl a3.tmps _ _) h6 ⟨?_, rfl⟩
    exact congrArg Ending.returned h5
end Go.Proofs.YtpanbijlfijgfaaDoor.Rws
