/- Chapter 18: the document's Names. -/
import Derived.Test.YtpanbijlfijgfaaDoorNames18
import Derived.Test.YtpanbijlfijgfaaDoorKeys18
namespace Go.Proofs.YtpanbijlfijgfaaDoor.Fnd
open Go Go.RowKit Go.Proofs.YtpanbijlfijgfaaDoor.Rws Go.Proofs.YtpanbijlfijgfaaDoor.Low18 Go.Proofs.YtpanbijlfijgfaaDoor.Bok
theorem row_base {w : World} {B B' n C : Nat} {T : TypeId} {v : Value} {xs : List Value} (h : w.ownsRow B T C v n xs) (hb : B' ≤ B) : w.ownsRow B' T C v n xs := by
  refine ⟨h.1, ?_⟩
  rcases h.2 with k | ⟨g, cap, cur, h1, h2, k⟩
  · exact .inl k
  · exact .inr ⟨g, cap, cur, h1, Nat.le_trans hb h2, k⟩
set_option maxHeartbeats 2000000 in
set_option maxRecDepth 100000 in
theorem rnames_any (w : World) : Calls Tryd.prog 16 #[] w fun e w' => ∃ v, e = .returned v ∧ w'.ownsRow w.heap.size 9 1 v 72 (nms 72) ∧ Below w.heap.size w w' := by
  obtain ⟨i0, hi, hz0, hz1, hz2⟩ := info_parts kinfo_text
  have HI := Lib.hid hi
  have HZ0 := Lib.hid hz0
  have HZ1 := Lib.hid hz1
  have HZ2 := Lib.hid hz2
  clear hi hz0 hz1 hz2
  go_enter Tryd.func16, Tryd.ntmps16
  go_wp2_with fail
  refine (ref_any _).mono ?_
  rintro e w1 ⟨rfl, rfl⟩
  have HB0 := Lib.hid ((Below.refl w.heap.size w).alloc (Nat.le_refl _) (.cells rowsC 58))
  have HT0 : Hid ((w.alloc (.cells rowsC 58)).heap[w.heap.size]? = some (.cells rowsC 58 (0, 0))) := Lib.hid (heap_alloc_new w _)
  generalize hW4 : w.alloc (.cells rowsC 58) = w4 at HB0 HT0 ⊢
  clear hW4
  obtain ⟨g, hg⟩ : ∃ g, g = w.heap.size := ⟨_, rfl⟩
  rw [← hg] at HT0 ⊢
  have HG := Lib.hid hg
  clear hg
  go_wp2_with fail
  go_loopw [1, 3] (fun out i wr => ∃ k : Nat, k ≤ 72 ∧ i = .int .i64 (k : Int) ∧ Hid (wr.ownsRow w4.heap.size 9 1 out k (nms k)) ∧ Hid (Below w.heap.size w wr ∧ Below w4.heap.size w4 wr)) (fun _ i _ => 72 - (intOf i).toNat)
  case atStart => exact ⟨0, by omega, rfl, Lib.hid (World.ownsRow_nil _ _ _ _), Lib.hid ⟨HB0.out, Below.refl _ _⟩⟩
  case round =>
    obtain ⟨k, hk, rfl, HO, HW⟩ := hrel
    by_cases hlt : (k : Int) < 72
    · have hk72 : k < 72 := by omega
      have hgg : wr.heap[g]? = some (.cells rowsC 58 (0, 0)) := (HW.out.2.block g (Array.getElem?_eq_some_iff.1 HT0.out).1).trans HT0.out
      have hcell : wr.cell? ⟨g, k * 9, none⟩ = some (.string (nm k)) := by rw [Lib.cell_of_heap hgg]; exact nm_cell k hk72
      obtain ⟨x, hx⟩ : ∃ x, x = nm k := ⟨_, rfl⟩
      have HX : Hid (nms k ++ [.string x] = nms (k + 1)) := Lib.hid (by rw [hx]; exact nms_succ k)
      rw [← hx] at hcell
      obtain ⟨A1, cc1, rfl, _⟩ := row_slice HO.out
      have HAL := Lib.hid (HO.out.alloc (.cells #[.string x] 9))
      have HOB := Lib.hid HO.out.lt
      clear hx hgg
      go_wp2_with (at_builtin; refine wpList_append2 _ rfl _ _ 22 rfl w4.heap.size 9 i0 (.string ⟨#[]⟩) 1 16 Tryd.underlying22 HI.out HZ0.out HZ1.out HZ2.out rfl (by decide) _ _ _ rfl HAL.out ⟨wr.heap.size, 0, none⟩ 1 1 [.string x] rfl rfl Nat.one_pos ?y1 ?y2 ?y3 ?y4 ?y5 ?_)
      any_goals (first | exact new_cells wr [.string x] 9 | (simp [Value.oneCell']; done))
      case y3 => unfold maxLen; omega
      case y4 => omega
      case y5 => have := HW.out.2.size; simp; omega
      intro v5 w5 hown hgr
      have HO5 : Hid (w5.ownsRow w4.heap.size 9 1 v5 (k + 1) (nms (k + 1))) := Lib.hid (by
        rw [← HX.out]
        exact hown)
      have HW5 : Hid (Below w.heap.size w w5 ∧ Below w4.heap.size w4 w5) := Lib.hid (by
        have h0 := HW.out.1.alloc HW.out.1.size (.cells #[.string x] 9)
        have h1 := HW.out.2.alloc HW.out.2.size (.cells #[.string x] 9)
        have hs := HW.out.1.size
        have hs2 := HW.out.2.size
        have hs0 := HB0.out.size
        rcases hgr with ⟨_, k⟩ | ⟨_, k⟩
        · exact ⟨h0.grown k (by simp; omega) (fun b hb => by have := (HOB.out b hb).1; omega), h1.grown k (by simp; omega) (fun b hb => (HOB.out b hb).1)⟩
        · exact ⟨h0.grown k (by simp; omega) (fun b hb => by cases hb), h1.grown k (by simp; omega) (fun b hb => by cases hb)⟩)
      obtain ⟨A5, cc5, rfl, _⟩ := row_slice HO5.out
      clear hown hgr
      go_wp2_with fail
      exact ⟨⟨k + 1, by omega, by go_num, HO5, HW5⟩, by simp [intOf]; omega⟩
    · obtain rfl : k = 72 := by omega
      go_wp2_with fail
      go_ret
      exact ⟨_, rfl, row_base HO.out HB0.out.size, HW.out.1⟩
end Go.Proofs.YtpanbijlfijgfaaDoor.Fnd
