/- The walk of the statement TableFinds: it returns true. -/
import Derived.Test.YtpanbijlfijgfaaLives18
namespace Go.Proofs.Ytpanbijlfijgfaa.TableFinds
open Go.RowKit Go.Proofs.Ytpanbijlfijgfaa.Fnd Go.Proofs.Ytpanbijlfijgfaa.Rws Go.Proofs.Ytpanbijlfijgfaa.Low18

set_option maxHeartbeats 2000000 in
set_option maxRecDepth 100000 in
theorem walk (s : ByteArray) (hs : s.size ≤ 35184372088832) (w : World) :
    Calls Try.prog 3 #[.string s] w fun e w' => e = .returned (.bool true) ∧ Below w.heap.size w w' := by
  have HF := Lib.hid (fun w => find_all s w hs)
  have HR := Lib.hid (fun w => ref_find s w (by omega))
  go_enter Try.func3, Try.ntmps3
  go_wp2_with fail
  refine (HF.out _).mono ?_
  rintro e w1 ⟨o, ho, rfl, b1⟩
  cases o with
  | none =>
    unfold specO specN
    go_wp2_with fail
    refine (HR.out _).mono ?_
    rintro e w2 ⟨o2, ho2, rfl, b2⟩
    obtain rfl := hit_both ho ho2
    have B2 := Lib.hid ((b1.alloc b1.size (.cells nines0 23)).trans (b2.mono (by have := b1.size; simp; omega)))
    have hS : w2.heap[w1.heap.size]? = some (.cells nines0 23 (0, 0)) := by rw [b2.block _ (by simp)]; exact heap_alloc_last w1 _
    have k0 : w2.cell? ⟨w1.heap.size, 0, none⟩ = some (.string ⟨#[]⟩) := by rw [Lib.cell_of_heap hS]; rfl
    have k1 : w2.cell? ⟨w1.heap.size, 1, none⟩ = some (.int .i64 0) := by rw [Lib.cell_of_heap hS]; rfl
    have k2 : w2.cell? ⟨w1.heap.size, 2, none⟩ = some (.int .i64 0) := by rw [Lib.cell_of_heap hS]; rfl
    have k3 : w2.cell? ⟨w1.heap.size, 3, none⟩ = some (.bool false) := by rw [Lib.cell_of_heap hS]; rfl
    have k4 : w2.cell? ⟨w1.heap.size, 4, none⟩ = some (.bool false) := by rw [Lib.cell_of_heap hS]; rfl
    have k5 : w2.cell? ⟨w1.heap.size, 5, none⟩ = some (.int .i64 0) := by rw [Lib.cell_of_heap hS]; rfl
    have k6 : w2.cell? ⟨w1.heap.size, 6, none⟩ = some (.int .i64 0) := by rw [Lib.cell_of_heap hS]; rfl
    have k7 : w2.cell? ⟨w1.heap.size, 7, none⟩ = some (.bool false) := by rw [Lib.cell_of_heap hS]; rfl
    have k8 : w2.cell? ⟨w1.heap.size, 8, none⟩ = some (.int .i64 0) := by rw [Lib.cell_of_heap hS]; rfl
    have hltS := (Array.getElem?_eq_some_iff.1 hS).1
    clear hS
    clear b1 b2 ho ho2 HF HR
    unfold specO specN
    go_wp2_with fail
    refine (same_row _ _ _ _ _ _ _ _ _ _).mono ?_
    rintro e w3 ⟨rfl, b3⟩
    have B3 := Lib.hid ((B2.out.alloc B2.out.size (.cells nines0 26)).trans (b3.mono (by have := B2.out.size; simp; omega)))
    clear b3 B2
    go_wp2_with fail
    refine (lives_any _).mono ?_
    rintro e w4 ⟨rfl, b4⟩
    have B4 := B3.out.trans (b4.mono B3.out.size)
    clear b4
    go_wp2_with fail
    go_ret
    exact ⟨rfl, B4⟩
  | some k =>
    unfold specO specV
    go_wp2_with fail
    refine (HR.out _).mono ?_
    rintro e w2 ⟨o2, ho2, rfl, b2⟩
    obtain rfl := hit_both ho ho2
    have B2 := Lib.hid ((b1.alloc b1.size (.cells (rowA k) 23)).trans (b2.mono (by have := b1.size; simp; omega)))
    have hS : w2.heap[w1.heap.size]? = some (.cells (rowA k) 23 (0, 0)) := by rw [b2.block _ (by simp)]; exact heap_alloc_last w1 _
    have k0 : w2.cell? ⟨w1.heap.size, 0, none⟩ = some (.string (nm k)) := by rw [Lib.cell_of_heap hS]; rfl
    have k1 : w2.cell? ⟨w1.heap.size, 1, none⟩ = some (.int .i64 (iv k 1)) := by rw [Lib.cell_of_heap hS]; rfl
    have k2 : w2.cell? ⟨w1.heap.size, 2, none⟩ = some (.int .i64 (iv k 2)) := by rw [Lib.cell_of_heap hS]; rfl
    have k3 : w2.cell? ⟨w1.heap.size, 3, none⟩ = some (.bool (bv k 3)) := by rw [Lib.cell_of_heap hS]; rfl
    have k4 : w2.cell? ⟨w1.heap.size, 4, none⟩ = some (.bool (bv k 4)) := by rw [Lib.cell_of_heap hS]; rfl
    have k5 : w2.cell? ⟨w1.heap.size, 5, none⟩ = some (.int .i64 (iv k 5)) := by rw [Lib.cell_of_heap hS]; rfl
    have k6 : w2.cell? ⟨w1.heap.size, 6, none⟩ = some (.int .i64 (iv k 6)) := by rw [Lib.cell_of_heap hS]; rfl
    have k7 : w2.cell? ⟨w1.heap.size, 7, none⟩ = some (.bool (bv k 7)) := by rw [Lib.cell_of_heap hS]; rfl
    have k8 : w2.cell? ⟨w1.heap.size, 8, none⟩ = some (.int .i64 (iv k 8)) := by rw [Lib.cell_of_heap hS]; rfl
    have hltS := (Array.getElem?_eq_some_iff.1 hS).1
    clear hS
    clear b1 b2 ho ho2 HF HR
    unfold specO specV
    go_wp2_with fail
    refine (same_row _ _ _ _ _ _ _ _ _ _).mono ?_
    rintro e w3 ⟨rfl, b3⟩
    have B3 := Lib.hid ((B2.out.alloc B2.out.size (.cells (rowA k) 26)).trans (b3.mono (by have := B2.out.size; simp; omega)))
    clear b3 B2
    go_wp2_with fail
    refine (lives_any _).mono ?_
    rintro e w4 ⟨rfl, b4⟩
    have B4 := B3.out.trans (b4.mono B3.out.size)
    clear b4
    go_wp2_with fail
    go_ret
    exact ⟨rfl, B4⟩
end Go.Proofs.Ytpanbijlfijgfaa.TableFinds
