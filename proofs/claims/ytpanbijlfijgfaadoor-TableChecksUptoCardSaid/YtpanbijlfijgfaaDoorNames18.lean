/- The walk of table.Names: the rows' names, in order. -/
import Derived.Test.YtpanbijlfijgfaaDoorFindW18
import Derived.OwnWalk
namespace Go.Proofs.YtpanbijlfijgfaaDoor.Fnd
open Go.RowKit Go.Proofs.YtpanbijlfijgfaaDoor.Rws

theorem rowsC_size : rowsC.size = 648 := by kernel_rfl
theorem row_at (k : Nat) (hk : k < 72) : rowsC.extract (k * 9) (k * 9 + 9) = rowA k := by
  have hs := rowsC_size
  have e0 := nm_cell k hk
  have e1 := iv_cell k 1 hk (by simp)
  have e2 := iv_cell k 2 hk (by simp)
  have e3 := bv_cell k 3 hk (by simp)
  have e4 := bv_cell k 4 hk (by simp)
  have e5 := iv_cell k 5 hk (by simp)
  have e6 := iv_cell k 6 hk (by simp)
  have e7 := bv_cell k 7 hk (by simp)
  have e8 := iv_cell k 8 hk (by simp)
  apply Array.ext
  · simp [hs]; omega
  · intro j h1 h2
    have h3 : j < 9 := by simpa using h2
    have h4 : some ((rowsC.extract (k * 9) (k * 9 + 9))[j]'h1) = some ((rowA k)[j]'h2) := by
      rw [Array.getElem_extract, ← Array.getElem?_eq_getElem, ← Array.getElem?_eq_getElem]
      have : j = 0 ∨ j = 1 ∨ j = 2 ∨ j = 3 ∨ j = 4 ∨ j = 5 ∨ j = 6 ∨ j = 7 ∨ j = 8 := by omega
      rcases this with rfl | rfl | rfl | rfl | rfl | rfl | rfl | rfl | rfl
      · exact e0
      · exact e1
      · exact e2
      · exact e3
      · exact e4
      · exact e5
      · exact e6
      · exact e7
      · exact e8
    injection h4
theorem index_row (k : Nat) (hk : k < 72) (w : World) : (Instr.index 63 (.agg rowsC) (.int .i64 (k : Int))).run Tryd.prog w = .ok (.agg (rowA k)) w := by
  have hsz : (Tryd.prog.info? 54).map (·.size) = some 9 := spec_info
  obtain ⟨ie, hie, hse⟩ := Option.map_eq_some_iff.1 hsz
  have h1 : (0 : Int) ≤ (k : Int) ∧ (k : Int) < 72 := by omega
  have hr := row_at k hk
  simp [Instr.index, asIntOf, run_underlying Tryd.underlying63, part, sizeOf, typeInfo, hie, hse, hk, hr]
theorem info_str : (Tryd.prog.info? 9).map (fun i => (i.zero, i.size, i.bytes)) = some (some (.string ⟨#[]⟩), 1, 16) := by kernel_rfl

/-- of what was there, nothing turns while a row of the call's own grows -/
theorem below_grown {B : Nat} {w w1 w2 : World} {row : Option Nat} (h1 : Below B w w1) (hg : w1.grownBy w2 row) (hr : ∀ b, row = some b → B ≤ b) (hB : B ≤ w.heap.size) : Below B w w2 :=
  ⟨hg.os.trans h1.os, hg.tape.trans h1.tape, hg.output.trans h1.output, Nat.le_trans h1.size hg.size, fun b hb => (hg.block b (by have := h1.size; omega) (fun e => absurd (hr b e.symm) (by omega))).trans (h1.block b hb)⟩
/-- the first so many names -/
noncomputable def nms (k : Nat) : List Value := (List.range k).map fun j => .string (nm j)
theorem nms_succ (k : Nat) : nms k ++ [.string (nm k)] = nms (k + 1) := by unfold nms; rw [List.range_succ, List.map_append]; rfl

set_option maxHeartbeats 2000000 in
set_option maxRecDepth 100000 in
theorem names_any (w : World) : Calls Tryd.prog 15 #[] w fun e w' => ∃ v, e = .returned v ∧ w'.ownsRow w.heap.size 9 1 v 72 (nms 72) ∧ Below w.heap.size w w' := by
  obtain ⟨i0, hi, hz0, hz1, hz2⟩ := info_parts info_str
  have HI := Lib.hid hi
  have HZ0 := Lib.hid hz0
  have HZ1 := Lib.hid hz1
  have HZ2 := Lib.hid hz2
  clear hi hz0 hz1 hz2
  go_enter Tryd.func15, Tryd.ntmps15
  go_wp2_with fail
  refine (rows_any _).mono ?_
  rintro e w1 ⟨rfl, rfl⟩
  go_wp2_with fail
  go_loopw [1, 5] (fun v i wr => ∃ (k : Nat), k ≤ 72 ∧ i = .int .i64 k ∧ Hid (wr.ownsRow w.heap.size 9 1 v k (nms k)) ∧ Hid (Below w.heap.size w wr)) (fun _ i _ => 72 - (intOf i).toNat)
  case atStart => exact ⟨0, by omega, rfl, Lib.hid (World.ownsRow_nil _ _ _ _), Lib.hid ((Below.refl _ w).alloc (Nat.le_refl _) _)⟩
  case round =>
    obtain ⟨k, hk, rfl, HO, HW⟩ := hrel
    by_cases hlt : k < 72
    · have hlt' : (k : Int) < 72 := by omega
      have hix := fun w => index_row k hlt w
      go_wp2_with (at_builtin; refine wpList_append_own _ rfl _ _ 22 rfl w.heap.size 9 i0 (.string ⟨#[]⟩) 1 16 Tryd.underlying22 HI.out HZ0.out HZ1.out HZ2.out rfl (by decide) _ _ _ rfl ((HO.out.alloc _).alloc _) ⟨wr.heap.size + 1, 0, none⟩ 1 1 [.string (nm k)] rfl rfl ?c1 ?c2 ?c3 ?c4 ?c5 ?_)
      case c1 =>
        intro j u hj
        have h0 : j = 0 := by
          match j, hj with
          | 0, _ => rfl
          | j + 1, hj => simp at hj
        subst h0
        simp at hj
        subst hj
        go_simp
      case c2 => simp [Value.oneCell']
      case c3 => unfold maxLen; omega
      case c4 => omega
      case c5 => have := HW.out.size; simp; omega
      intro v' w1 hown1 hgrow1 _
      have HO1 := Lib.hid hown1
      have HW1 : Hid (Below w.heap.size w w1) := by
        refine Lib.hid ?_
        have h1 : Below w.heap.size w ((wr.alloc (.cells (rowA k) 54)).alloc (.cells #[.string (nm k)] 9)) := (HW.out.alloc HW.out.size _).alloc (by have := HW.out.size; simp; omega) _
        refine below_grown h1 hgrow1 (fun b e => (HO.out.lt b e).1) (Nat.le_refl _)
      clear hown1 hgrow1
      go_wp2_with fail
      exact ⟨⟨k + 1, by omega, by go_num, by rw [← nms_succ]; exact HO1, HW1⟩, by simp [intOf]; omega⟩
    · have hlt' : ¬ (k : Int) < 72 := by omega
      obtain rfl : k = 72 := by omega
      go_wp2_with fail
      go_ret
      exact ⟨_, rfl, HO.out, HW.out⟩
end Go.Proofs.YtpanbijlfijgfaaDoor.Fnd
