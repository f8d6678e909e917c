/- Fail, on a disk that is there. -/
import Derived.Test.YtjjcicfilbfbjaaOps04
import Derived.Laws.EntriesVeiled
namespace Go.Proofs.Ytjjcicfilbfbjaa.Dsk
open Go.RowKit Go.Proofs.Ytjjcicfilbfbjaa.Pin Go.Proofs.Ytjjcicfilbfbjaa.Gon Go.Proofs.Ytjjcicfilbfbjaa.Mps

set_option maxHeartbeats 1000000 in
theorem fail_yes (g M N : Nat) (C U n n' : Int) (fs : List Fil) (w : World) (h : DiskAt w g M N C U n fs) :
    Calls Try.prog 17 #[.pointer (some ⟨g, 0, none⟩), .int .i64 n'] w fun e w' => e = .returned (.int .i64 0) ∧ ∃ N', DiskAt w' g M N' C U n' fs ∧ Turned (owns g M N fs) (owns g M N' fs) w w' := by
  have H := Lib.hid h
  obtain ⟨c0, c1, c2, c3, c4⟩ := h.gcell
  have hgl : g < w.heap.size := h.lt g (by simp [owns])
  have hz : (w.alloc (.cells #[.int .i64 n'] 3)).heap[g]? = some (.cells #[.int .i64 C, .int .i64 U, .map (some M), wrV N, cnV N] 58 (0, 0)) := (Lib.alloc_old _ _ _ hgl).trans h.disk
  have hf3 : w.frozen? ⟨g, 3, none⟩ = false := by simp [World.frozen?, h.disk]
  have hf4 : w.frozen? ⟨g, 4, none⟩ = false := by simp [World.frozen?, h.disk]
  have HT := Lib.hid (there_any g M (w.alloc (.cells #[.int .i64 n'] 3)) (by rw [Lib.cell_of_heap hz]; rfl))
  have hgne : ¬ g = w.heap.size := by omega
  clear h hz
  go_enter Try.func17, Try.ntmps17
  go_wp2_with fail
  refine HT.out.mono ?_
  rintro e w' ⟨rfl, rfl⟩
  go_wp2_with fail
  go_ret
  have hsz : ((w.setCell ⟨g, 4, none⟩ (cnV w.heap.size)).setCell ⟨g, 3, none⟩ (wrV w.heap.size)).heap.size = w.heap.size := by simp [World.setCell]
  have h1 : (w.setCell ⟨g, 4, none⟩ (cnV w.heap.size)).heap[g]? = some (.cells #[.int .i64 C, .int .i64 U, .map (some M), wrV N, cnV w.heap.size] 58 (0, 0)) := by
    rw [heap_setCell_same _ g 4 _ _ _ H.out.disk]
    rfl
  have hgF : (((w.setCell ⟨g, 4, none⟩ (cnV w.heap.size)).setCell ⟨g, 3, none⟩ (wrV w.heap.size)).alloc (.cells #[.int .i64 n'] 3)).heap[g]? = some (.cells #[.int .i64 C, .int .i64 U, .map (some M), wrV w.heap.size, cnV w.heap.size] 58 (0, 0)) := by
    rw [Lib.alloc_old _ _ _ (by rw [hsz]; exact hgl), heap_setCell_same _ g 3 _ _ _ h1]
    rfl
  have hNF : (((w.setCell ⟨g, 4, none⟩ (cnV w.heap.size)).setCell ⟨g, 3, none⟩ (wrV w.heap.size)).alloc (.cells #[.int .i64 n'] 3)).heap[w.heap.size]? = some (.cells #[.int .i64 n'] 3 (0, 0)) := by
    have h := heap_alloc_last ((w.setCell ⟨g, 4, none⟩ (cnV w.heap.size)).setCell ⟨g, 3, none⟩ (wrV w.heap.size)) (.cells #[.int .i64 n'] 3)
    rw [hsz] at h
    exact h
  have hoW : ∀ r, r < w.heap.size → r ≠ g → (((w.setCell ⟨g, 4, none⟩ (cnV w.heap.size)).setCell ⟨g, 3, none⟩ (wrV w.heap.size)).alloc (.cells #[.int .i64 n'] 3)).heap[r]? = w.heap[r]? := fun r hr h => by
    rw [Lib.alloc_old _ _ _ (by rw [hsz]; exact hr), Below.heap_setCell _ _ _ _ h, Below.heap_setCell _ _ _ _ h]
  have hap := H.out.apart
  have hlt := H.out.lt
  have hap' := hap
  simp only [owns, List.nodup_cons, List.mem_cons, not_or] at hap'
  obtain ⟨⟨hgM, hgN, hga⟩, ⟨hMN, hMa⟩, hNa, hfs⟩ := hap'
  refine ⟨rfl, w.heap.size, ?_, ?_⟩
  · refine ⟨hgF, hNF, H.out.map.same (hoW M (hlt M (by simp [owns])) (fun e => hgM e.symm)), fun f hf => (H.out.files f hf).same (fun r hr => ?_), ?_⟩
    · have hm : r ∈ fs.flatMap Fil.own := List.mem_flatMap.2 ⟨f, hf, hr⟩
      exact hoW r (hlt r (by simp only [owns, List.mem_cons]; exact .inr (.inr (.inr hm)))) (fun e => hga (e ▸ hm))
    · have hMl := hlt M (by simp [owns])
      simp only [owns, List.nodup_cons, List.mem_cons, not_or]
      exact ⟨⟨hgM, hgne, hga⟩, ⟨by omega, hMa⟩, fun hm => by have := hlt w.heap.size (by simp only [owns, List.mem_cons]; exact .inr (.inr (.inr hm))); omega, hfs⟩
  · refine ⟨rfl, rfl, rfl, by simp [World.setCell], fun r hr hnr => ?_, fun r hr => ?_⟩
    · simp only [owns, List.mem_cons, not_or] at hnr
      exact hoW r hr hnr.1
    · simp only [owns, List.mem_cons] at hr ⊢
      rcases hr with h | h | h | h
      · exact .inl (.inl h)
      · exact .inl (.inr (.inl h))
      · exact .inr (by omega)
      · exact .inl (.inr (.inr (.inr h)))
end Go.Proofs.Ytjjcicfilbfbjaa.Dsk
