/- Chapter 24: may an item be, in the document. Printed by gen_item24.py. -/
import Derived.Test.YtpnmhldaaaemeaaMay24
import Derived.Test.YtpnmhldaaaemeaaFine24
namespace Go.Proofs.Ytpnmhldaaaemeaa.Snp
open Go.RowKit Go.Proofs.Ytpnmhldaaaemeaa.Pin

theorem fine_iff {it : It} : FineP it ↔ (0 ≤ it.db ∧ it.db < 16) ∧ MayP it.key ∧ MayV it.val ∧ 0 ≤ it.dead ∧ it.dead ≤ 9007199254740992 :=
  ⟨fun h => ⟨h.1, h.2.1, ⟨h.2.2.2.1, h.2.2.2.2.1, h.2.2.2.2.2⟩, h.2.2.1.1, h.2.2.1.2⟩, fun h => ⟨h.1, h.2.1, ⟨h.2.2.2.1, h.2.2.2.2⟩, h.2.2.1.1, h.2.2.1.2.1, h.2.2.1.2.2⟩⟩
set_option maxHeartbeats 4000000 in
set_option maxRecDepth 100000 in
theorem ref_item (it : It) (c : Cl) (w : World) (hv : ValAt w w.heap.size c it.val) (hB : VaB it.val) : Asks 22 #[iV it c] w (FineP it) := by
  unfold Asks
  have hv0 : (Instr.loadAt 31 (.pointer (some ⟨w.heap.size, 2, none⟩))).run Try.prog (w.alloc (iO it c)) = .ok (vV it.val c) (w.alloc (iO it c)) := load_val it c _ w.heap.size (heap_alloc_new w _)
  have HM := Lib.hid (ref_may it.val c (w.alloc (iO it c)) ((hv.below ((Below.refl _ w).alloc (Nat.le_refl _) _)).more (by simp)) hB)
  have HT := Lib.hid (fun W => rtext_any it.key W)
  clear hv hB
  have hb0 : Below w.heap.size w (w.alloc (iO it c)) := (Below.refl _ w).alloc (Nat.le_refl _) _
  have HB0 := Lib.hid hb0
  clear hb0
  have hBx : ∀ n, Below w.heap.size w ((w.alloc (iO it c)).drewN n) := fun n => below_drewN HB0.out n
  have HBX := Lib.hid hBx
  clear hBx
  by_cases h1 : it.db < 0
  · have h1' : ¬ 0 ≤ it.db := by omega
    go_enter Try.func22, Try.ntmps22
    go_wp2_with fail
    go_ret
    exact ⟨ret_no (fun h => by have := h.1.1; omega), HB0.out⟩
  have h1' : 0 ≤ it.db := by omega
  by_cases h2 : ¬ it.db < 16
  · go_enter Try.func22, Try.ntmps22
    go_wp2_with fail
    go_ret
    exact ⟨ret_no (fun h => by have := h.1.2; omega), HB0.out⟩
  have h2 := Classical.not_not.1 h2
  by_cases h3 : ¬ MayP it.key
  · have q3 := pb_false h3
    have H3 := Lib.hid h3
    clear h3
    go_enter Try.func22, Try.ntmps22
    go_wp2_with fail
    refine (HT.out _).mono ?_
    rintro e w' ⟨rfl, rfl⟩
    go_wp2_with fail
    go_ret
    exact ⟨ret_no (fun h => H3.out h.2.1), HB0.out⟩
  have q3 := pb_true (Classical.not_not.1 h3)
  have H3 := Lib.hid (Classical.not_not.1 h3)
  clear h3
  by_cases h4 : ¬ MayV it.val
  · have q4 := pb_false h4
    have H4 := Lib.hid h4
    clear h4
    go_enter Try.func22, Try.ntmps22
    go_wp2_with fail
    refine (HT.out _).mono ?_
    rintro e w' ⟨rfl, rfl⟩
    go_wp2_with fail
    refine HM.out.mono ?_
    rintro e w1 ⟨rfl, hb1⟩
    have HB1 : Hid (Below w.heap.size w w1) := Lib.hid (HB0.out.trans (hb1.mono (by simp)))
    clear hb1
    go_wp2_with fail
    go_ret
    exact ⟨ret_no (fun h => H4.out (fine_iff.1 h).2.2.1), HB1.out⟩
  have q4 := pb_true (Classical.not_not.1 h4)
  have H4 := Lib.hid (Classical.not_not.1 h4)
  clear h4
  have hcall : ∀ P : Prop, P → P := fun _ h => h
  clear hcall
  by_cases h5 : 0 ≤ it.dead ∧ it.dead ≤ 9007199254740992
  · obtain ⟨h5, h6⟩ := h5
    go_enter Try.func22, Try.ntmps22
    go_wp2_with fail
    refine (HT.out _).mono ?_
    rintro e w' ⟨rfl, rfl⟩
    go_wp2_with fail
    refine HM.out.mono ?_
    rintro e w1 ⟨rfl, hb1⟩
    have HB1 : Hid (Below w.heap.size w w1) := Lib.hid (HB0.out.trans (hb1.mono (by simp)))
    have hbo : w1.heap[w.heap.size]? = some (iO it c) := (hb1.block _ (by simp)).trans (heap_alloc_new w _)
    have hd : w1.cell? ⟨w.heap.size, 11, none⟩ = some (.int .i64 it.dead) := by rw [Lib.cell_of_heap hbo]; rfl
    clear hb1 hbo
    go_wp2_with fail
    go_ret
    exact ⟨ret_yes (fine_iff.2 ⟨⟨h1', h2⟩, H3.out, H4.out, h5, h6⟩), HB1.out⟩
  · have H5 := Lib.hid h5
    by_cases h6 : 0 ≤ it.dead
    · have h7 : ¬ it.dead ≤ 9007199254740992 := fun h => h5 ⟨h6, h⟩
      have q7 : decide (it.dead ≤ 9007199254740992) = false := decide_eq_false h7
      clear h5
      go_enter Try.func22, Try.ntmps22
      go_wp2_with fail
      refine (HT.out _).mono ?_
      rintro e w' ⟨rfl, rfl⟩
      go_wp2_with fail
      refine HM.out.mono ?_
      rintro e w1 ⟨rfl, hb1⟩
      have HB1 : Hid (Below w.heap.size w w1) := Lib.hid (HB0.out.trans (hb1.mono (by simp)))
      have hbo : w1.heap[w.heap.size]? = some (iO it c) := (hb1.block _ (by simp)).trans (heap_alloc_new w _)
      have hd : w1.cell? ⟨w.heap.size, 11, none⟩ = some (.int .i64 it.dead) := by rw [Lib.cell_of_heap hbo]; rfl
      clear hb1 hbo
      go_wp2_with fail
      go_ret
      exact ⟨ret_no (fun h => H5.out (fine_iff.1 h).2.2.2), HB1.out⟩
    · clear h5
      go_enter Try.func22, Try.ntmps22
      go_wp2_with fail
      refine (HT.out _).mono ?_
      rintro e w' ⟨rfl, rfl⟩
      go_wp2_with fail
      refine HM.out.mono ?_
      rintro e w1 ⟨rfl, hb1⟩
      have HB1 : Hid (Below w.heap.size w w1) := Lib.hid (HB0.out.trans (hb1.mono (by simp)))
      have hbo : w1.heap[w.heap.size]? = some (iO it c) := (hb1.block _ (by simp)).trans (heap_alloc_new w _)
      have hd : w1.cell? ⟨w.heap.size, 11, none⟩ = some (.int .i64 it.dead) := by rw [Lib.cell_of_heap hbo]; rfl
      clear hb1 hbo
      go_wp2_with fail
      go_ret
      exact ⟨ret_no (fun h => H5.out (fine_iff.1 h).2.2.2), HB1.out⟩
end Go.Proofs.Ytpnmhldaaaemeaa.Snp
