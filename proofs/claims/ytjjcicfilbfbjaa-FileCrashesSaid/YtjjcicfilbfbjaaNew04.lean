/- New: a disk without files. -/
import Derived.Test.YtjjcicfilbfbjaaFail04
namespace Go.Proofs.Ytjjcicfilbfbjaa.Dsk
open Go.RowKit Go.Proofs.Ytjjcicfilbfbjaa.Pin Go.Proofs.Ytjjcicfilbfbjaa.Gon Go.Proofs.Ytjjcicfilbfbjaa.Mps

theorem fail_raw (g M : Nat) (C U n' : Int) (w : World) (h : w.heap[g]? = some (.cells #[.int .i64 C, .int .i64 U, .map (some M), .nilFunc, .nilFunc] 58 (0, 0))) :
    Calls Try.prog 17 #[.pointer (some ⟨g, 0, none⟩), .int .i64 n'] w fun e w' => e = .returned (.int .i64 0) ∧ ((w.setCell ⟨g, 4, none⟩ (cnV w.heap.size)).setCell ⟨g, 3, none⟩ (wrV w.heap.size)).alloc (.cells #[.int .i64 n'] 3) = w' := by
  have hgl : g < w.heap.size := (Array.getElem?_eq_some_iff.1 h).1
  have c2 : w.cell? ⟨g, 2, none⟩ = some (.map (some M)) := by rw [Lib.cell_of_heap h]; rfl
  have c3 : w.cell? ⟨g, 3, none⟩ = some .nilFunc := by rw [Lib.cell_of_heap h]; rfl
  have c4 : w.cell? ⟨g, 4, none⟩ = some .nilFunc := by rw [Lib.cell_of_heap h]; rfl
  have hz : (w.alloc (.cells #[.int .i64 n'] 3)).heap[g]? = _ := (Lib.alloc_old _ _ _ hgl).trans h
  have hf3 : w.frozen? ⟨g, 3, none⟩ = false := by simp [World.frozen?, h]
  have hf4 : w.frozen? ⟨g, 4, none⟩ = false := by simp [World.frozen?, h]
  have HT := Lib.hid (there_any g M (w.alloc (.cells #[.int .i64 n'] 3)) (by rw [Lib.cell_of_heap hz]; rfl))
  have hgne : ¬ g = w.heap.size := by omega
  clear h hz
  go_enter Try.func17, Try.ntmps17
  go_wp2_with fail
  refine HT.out.mono ?_
  rintro e w' ⟨rfl, rfl⟩
  go_wp2_with fail
  go_ret
  exact ⟨rfl, rfl⟩
theorem new_yes (C : Int) (w : World) (h0 : 0 ≤ C) (h1 : C ≤ 1073741824) :
    Calls Try.prog 8 #[.int .i64 C] w fun e w' => ∃ g M N, e = .returned (.tuple #[.pointer (some ⟨g, 0, none⟩), .int .i64 0]) ∧ DiskAt w' g M N C 0 (-1) [] ∧ (∀ r ∈ owns g M N [], w.heap.size ≤ r) ∧ Below w.heap.size w w' := by
  have q0 : decide (C < 0) = false := by simpa using h0
  have q1 : decide (1073741824 < C) = false := by simpa using h1
  have hmm := @run_makeMap Try.prog
  go_enter Try.func8, Try.ntmps8
  go_wp2_with fail
  obtain ⟨W, hW⟩ : ∃ W, W = (w.alloc (.map #[] 0)).alloc (.cells #[.int .i64 C, .int .i64 0, .map (some w.heap.size), .nilFunc, .nilFunc] 58) := ⟨_, rfl⟩
  have hg : W.heap[w.heap.size + 1]? = some (.cells #[.int .i64 C, .int .i64 0, .map (some w.heap.size), .nilFunc, .nilFunc] 58 (0, 0)) := by
    have h := heap_alloc_last (w.alloc (.map #[] 0)) (.cells #[.int .i64 C, .int .i64 0, .map (some w.heap.size), .nilFunc, .nilFunc] 58)
    have e : (w.alloc (.map #[] 0)).heap.size = w.heap.size + 1 := by simp
    rw [e] at h
    rw [hW]
    exact h
  have hm : W.heap[w.heap.size]? = some (.map #[] 0) := by
    rw [hW, Lib.alloc_old _ _ _ (by simp)]
    exact heap_alloc_last w _
  have hz : W.heap.size = w.heap.size + 2 := by rw [hW]; simp
  have hb : Below w.heap.size w W := by rw [hW]; exact ((Below.refl _ w).alloc (Nat.le_refl _) _).alloc (by simp) _
  have HG := Lib.hid hg
  have HM := Lib.hid hm
  have HZ := Lib.hid hz
  have HB := Lib.hid hb
  rw [← hW]
  clear hW hg hm hz hb
  refine (fail_raw (w.heap.size + 1) w.heap.size C 0 (-1) W HG.out).mono ?_
  rintro e w' ⟨rfl, hw'⟩
  have HW := Lib.hid hw'
  clear hw'
  go_wp2_with fail
  go_ret2
  rw [← HW.out]
  have hsz : ((W.setCell ⟨w.heap.size + 1, 4, none⟩ (cnV W.heap.size)).setCell ⟨w.heap.size + 1, 3, none⟩ (wrV W.heap.size)).heap.size = W.heap.size := by simp [World.setCell]
  have hz := HZ.out
  have h1 : (W.setCell ⟨w.heap.size + 1, 4, none⟩ (cnV W.heap.size)).heap[w.heap.size + 1]? = some (.cells #[.int .i64 C, .int .i64 0, .map (some w.heap.size), .nilFunc, cnV W.heap.size] 58 (0, 0)) := by
    rw [heap_setCell_same _ (w.heap.size + 1) 4 _ _ _ HG.out]
    rfl
  refine ⟨w.heap.size + 1, w.heap.size, W.heap.size, rfl, ⟨?_, ?_, ?_, (fun f hf => nomatch hf), ?_⟩, ?_, ?_⟩
  · rw [Lib.alloc_old _ _ _ (by rw [hsz]; omega), heap_setCell_same _ (w.heap.size + 1) 3 _ _ _ h1]
    rfl
  · have h := heap_alloc_last ((W.setCell ⟨w.heap.size + 1, 4, none⟩ (cnV W.heap.size)).setCell ⟨w.heap.size + 1, 3, none⟩ (wrV W.heap.size)) (.cells #[.int .i64 (-1)] 3)
    rw [hsz] at h
    exact h
  · refine ⟨#[], 0, ?_, rfl, MapKept.stamped_empty 0⟩
    rw [Lib.alloc_old _ _ _ (by rw [hsz]; omega), Below.heap_setCell _ _ _ _ (by show w.heap.size ≠ w.heap.size + 1; omega), Below.heap_setCell _ _ _ _ (by show w.heap.size ≠ w.heap.size + 1; omega)]
    exact HM.out
  · simp [owns]
    omega
  · intro r hr
    simp only [owns, List.flatMap_nil, List.mem_cons, List.not_mem_nil, or_false] at hr
    omega
  · exact ((HB.out.setCell (p := ⟨w.heap.size + 1, 4, none⟩) (by show w.heap.size ≤ w.heap.size + 1; omega) _).setCell (p := ⟨w.heap.size + 1, 3, none⟩) (by show w.heap.size ≤ w.heap.size + 1; omega) _).alloc (by rw [hsz]; omega) _
theorem may_no (w : World) : Calls Try.prog 25 #[.string ⟨#[]⟩] w fun e w' => e = .returned (.bool false) ∧ w = w' := by
  go_enter Try.func25, Try.ntmps25
  go_wp2
  go_ret
  exact ⟨rfl, rfl⟩
theorem append_arg (g M N : Nat) (C U n : Int) (fs : List Fil) (s : ByteArray) (w : World) (h : DiskAt w g M N C U n fs) :
    Calls Try.prog 9 #[.pointer (some ⟨g, 0, none⟩), .string ⟨#[]⟩, .string s] w fun e w' => e = .returned (.int .i64 1) ∧ w = w' := by
  obtain ⟨c0, c1, c2, c3, c4⟩ := h.gcell
  have HT := Lib.hid (there_any g M w c2)
  clear h
  go_enter Try.func9, Try.ntmps9
  go_wp2_with fail
  refine HT.out.mono ?_
  rintro e w' ⟨rfl, rfl⟩
  go_wp2_with fail
  refine (may_no _).mono ?_
  rintro e w' ⟨rfl, rfl⟩
  go_wp2_with fail
  go_ret
  exact ⟨rfl, rfl⟩
end Go.Proofs.Ytjjcicfilbfbjaa.Dsk
