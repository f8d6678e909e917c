/- The walk of table.Find where no row has the name. -/
import Derived.Test.YtpanbijlfijgfaaDoorFindW18
namespace Go.Proofs.YtpanbijlfijgfaaDoor.Fnd
open Go.RowKit Go.Sort Go.Proofs.YtpanbijlfijgfaaDoor.Shf Go.Proofs.YtpanbijlfijgfaaDoor.Rws Go.Proofs.YtpanbijlfijgfaaDoor.Low18 Go.Proofs.YtpanbijlfijgfaaDoor.Pin
attribute [local go_sem high] zero_row

theorem nines_one : nines0.all (·.oneCell') = true := by simp [Value.oneCell']

set_option maxHeartbeats 2000000 in
set_option maxRecDepth 100000 in
theorem find_end (s : ByteArray) (w : World) (hs : s.size ≤ 35184372088832) (hk : place ⟨(lowT s).toArray⟩ = 72) :
    Calls Tryd.prog 20 #[.string s] w fun e w' => e = .returned (.tuple #[specN, .bool false]) ∧ Below w.heap.size w w' := by
  obtain ⟨n, hn⟩ : ∃ n : ByteArray, n = ⟨(lowT s).toArray⟩ := ⟨_, rfl⟩
  have HL := Lib.hid (fun w => lower_any s w hs)
  rw [← hn] at hk HL
  have HK := Lib.hid hk
  clear hn hk
  go_enter Tryd.func20, Tryd.ntmps20
  go_wp2_with fail
  refine (rows_any _).mono ?_
  rintro e w1 ⟨rfl, rfl⟩
  go_wp2_with (refine wpList_store_row rfl 63 (.tmp 4) (.tmp 7) rfl (((w.alloc (.cells #[.string ⟨#[]⟩, .int .i64 0, .int .i64 0, .bool false, .bool false, .int .i64 0, .int .i64 0, .bool false, .int .i64 0] 54)).alloc (.cells rowsC 63)).heap.size) rowsC (by simp [Act.eval]) rfl 63 zeros (heap_alloc_new _ _) rows_size zeros_rows rows_one ?_)
  obtain ⟨W, hW⟩ : ∃ W, W = ((((w.alloc (.cells #[.string ⟨#[]⟩, .int .i64 0, .int .i64 0, .bool false, .bool false, .int .i64 0, .int .i64 0, .bool false, .int .i64 0] 54)).alloc (.cells rowsC 63)).alloc (.cells zeros 63)).setRow (w.heap.size + 1 + 1) rowsC) := ⟨_, rfl⟩
  have hT : W.heap[w.heap.size + 1 + 1]? = some (.cells rowsC 63 (0, 0)) := by rw [hW]; exact setup_tab w
  have hR : W.heap[w.heap.size]? = some (.cells #[.string ⟨#[]⟩, .int .i64 0, .int .i64 0, .bool false, .bool false, .int .i64 0, .int .i64 0, .bool false, .int .i64 0] 54 (0, 0)) := by rw [hW]; exact setup_res w
  have hB := Lib.hid (show Below w.heap.size w W by rw [hW]; exact setup_below w)
  first | rw [← hW] | (rw [show Tryd.zeroCells63 = zeros from by kernel_rfl]; rw [← hW])
  clear hW
  refine (HL.out W).mono ?_
  rintro e w3 ⟨rfl, b3⟩
  rw [← b3.block _ (Array.getElem?_eq_some_iff.1 hT).1] at hT
  rw [← b3.block _ (Array.getElem?_eq_some_iff.1 hR).1] at hR
  have hB3 := Lib.hid (hB.out.trans (b3.mono hB.out.size))
  clear hB b3
  go_wp2_with fail
  obtain ⟨w4, hw4⟩ : ∃ w4, w4 = w3.alloc (.cells #[.string n] 9) := ⟨_, rfl⟩
  have hlt := (Array.getElem?_eq_some_iff.1 hT).1
  have hlt2 := (Array.getElem?_eq_some_iff.1 hR).1
  have hN : w4.cell? ⟨w3.heap.size, 0, none⟩ = some (.string n) := by rw [hw4]; go_simp
  have hT4 : TabAt w4 (w.heap.size + 1 + 1) := ⟨_, by rw [hw4, Lib.alloc_old w3 _ _ hlt]; exact hT⟩
  have hR4 : w4.heap[w.heap.size]? = some (.cells #[.string ⟨#[]⟩, .int .i64 0, .int .i64 0, .bool false, .bool false, .int .i64 0, .int .i64 0, .bool false, .int .i64 0] 54 (0, 0)) := by rw [hw4, Lib.alloc_old w3 _ _ hlt2]; exact hR
  have hB4 := Lib.hid (show Below w.heap.size w w4 by rw [hw4]; exact hB3.out.alloc hB3.out.size _)
  rw [← hw4]
  clear hT hR hB3 hw4 hlt hlt2
  refine (search (w.heap.size + 1 + 1) w3.heap.size n w4 hT4 hN).mono ?_
  rintro e w5 ⟨rfl, q, os, rfl⟩
  rw [HK.out]
  obtain ⟨w5, hw5⟩ : ∃ w5, w5 = grow (w4.drewN q) os := ⟨_, rfl⟩
  have hT5 := tab_grow hT4 q os
  have hN5 := cell_grown (Lib.lt_of_cell hN) hN q os
  have hR5 : (grow (w4.drewN q) os).heap[w.heap.size]? = _ := (heap_grow_old (w4.drewN q) os (by exact (Array.getElem?_eq_some_iff.1 hR4).1)).trans hR4
  have hB5 := Lib.hid (below_grow (below_drewN hB4.out q) (by exact hB4.out.size) os)
  rw [← hw5] at hT5 hN5 hR5 hB5 ⊢
  clear hw5 hT4 hN hR4 hB4 HL
  clear hT5
  go_wp2_with fail
  refine wp_region_pin [0,0,0,0,0,0,1,1,0,0] (by kernel_rfl) (by kernel_rfl) ?_
  (refine pin_pure (fun K hK => ?_); go_simp; refine hK _ _ ?_; clear hK K)
  (refine pin_pure (fun K hK => ?_); go_simp; refine hK _ _ ?_; clear hK K)
  (refine pin_pure (fun K hK => ?_); go_simp; refine hK _ _ ?_; clear hK K)
  (refine pin_pure (fun K hK => ?_); go_simp; refine hK _ _ ?_; clear hK K)
  (refine pin_pure (fun K hK => ?_); go_simp; refine hK _ _ ?_; clear hK K)
  (refine pin_pure (fun K hK => ?_); go_simp; refine hK _ _ ?_; clear hK K)
  (refine pin_read (fun K hK => ?_); go_simp; refine hK _ _ ?_; clear hK K)
  (refine pin_read (fun K hK => ?_); go_simp; refine hK _ _ ?_; clear hK K)
  (refine pin_pure (fun K hK => ?_); go_simp; refine hK _ _ ?_; clear hK K)
  (refine pin_pure (fun K hK => ?_); go_simp; refine hK _ _ ?_; clear hK K)
  refine pin_nil ?_
  intro nq
  have hR6 : (w5.drewN nq).heap[w.heap.size]? = some (.cells nines0 54 (0, 0)) := hR5
  go_wp2_with (refine wpList_store_row rfl 54 (.tmp 2) (.tmp 22) rfl w.heap.size nines0 rfl rfl 54 nines0 hR6 spec_info rfl nines_one ?_)
  have hf := heap_setRow_same (c' := nines0) hR6
  refine bodyPost_ret (v := .tuple #[specN, .bool false]) ?_ rfl ⟨rfl, below_drewN (below_setRow hB5.out (Nat.le_refl _) _) nq⟩
  exact results_cell_row2 (fn := Tryd.f20) (p := 2) (u := 3) (ty := 54) rfl _ _ w.heap.size 54 nines0 (0, 0) _ rfl hf Tryd.underlying54 rfl spec_info

set_option maxHeartbeats 2000000 in
set_option maxRecDepth 100000 in
theorem find_off (s : ByteArray) (w : World) (hs : s.size ≤ 35184372088832) (k : Nat) (hk : place ⟨(lowT s).toArray⟩ = k) (hk1 : k < 72) (hk2 : ((nm k).toList == (⟨(lowT s).toArray⟩ : ByteArray).toList) = false) :
    Calls Tryd.prog 20 #[.string s] w fun e w' => e = .returned (.tuple #[specN, .bool false]) ∧ Below w.heap.size w w' := by
  obtain ⟨n, hn⟩ : ∃ n : ByteArray, n = ⟨(lowT s).toArray⟩ := ⟨_, rfl⟩
  have HL := Lib.hid (fun w => lower_any s w hs)
  rw [← hn] at hk hk2 HL
  have HK := Lib.hid hk
  clear hn hk
  go_enter Tryd.func20, Tryd.ntmps20
  go_wp2_with fail
  refine (rows_any _).mono ?_
  rintro e w1 ⟨rfl, rfl⟩
  go_wp2_with (refine wpList_store_row rfl 63 (.tmp 4) (.tmp 7) rfl (((w.alloc (.cells #[.string ⟨#[]⟩, .int .i64 0, .int .i64 0, .bool false, .bool false, .int .i64 0, .int .i64 0, .bool false, .int .i64 0] 54)).alloc (.cells rowsC 63)).heap.size) rowsC (by simp [Act.eval]) rfl 63 zeros (heap_alloc_new _ _) rows_size zeros_rows rows_one ?_)
  obtain ⟨W, hW⟩ : ∃ W, W = ((((w.alloc (.cells #[.string ⟨#[]⟩, .int .i64 0, .int .i64 0, .bool false, .bool false, .int .i64 0, .int .i64 0, .bool false, .int .i64 0] 54)).alloc (.cells rowsC 63)).alloc (.cells zeros 63)).setRow (w.heap.size + 1 + 1) rowsC) := ⟨_, rfl⟩
  have hT : W.heap[w.heap.size + 1 + 1]? = some (.cells rowsC 63 (0, 0)) := by rw [hW]; exact setup_tab w
  have hR : W.heap[w.heap.size]? = some (.cells #[.string ⟨#[]⟩, .int .i64 0, .int .i64 0, .bool false, .bool false, .int .i64 0, .int .i64 0, .bool false, .int .i64 0] 54 (0, 0)) := by rw [hW]; exact setup_res w
  have hB := Lib.hid (show Below w.heap.size w W by rw [hW]; exact setup_below w)
  first | rw [← hW] | (rw [show Tryd.zeroCells63 = zeros from by kernel_rfl]; rw [← hW])
  clear hW
  refine (HL.out W).mono ?_
  rintro e w3 ⟨rfl, b3⟩
  rw [← b3.block _ (Array.getElem?_eq_some_iff.1 hT).1] at hT
  rw [← b3.block _ (Array.getElem?_eq_some_iff.1 hR).1] at hR
  have hB3 := Lib.hid (hB.out.trans (b3.mono hB.out.size))
  clear hB b3
  go_wp2_with fail
  obtain ⟨w4, hw4⟩ : ∃ w4, w4 = w3.alloc (.cells #[.string n] 9) := ⟨_, rfl⟩
  have hlt := (Array.getElem?_eq_some_iff.1 hT).1
  have hlt2 := (Array.getElem?_eq_some_iff.1 hR).1
  have hN : w4.cell? ⟨w3.heap.size, 0, none⟩ = some (.string n) := by rw [hw4]; go_simp
  have hT4 : TabAt w4 (w.heap.size + 1 + 1) := ⟨_, by rw [hw4, Lib.alloc_old w3 _ _ hlt]; exact hT⟩
  have hR4 : w4.heap[w.heap.size]? = some (.cells #[.string ⟨#[]⟩, .int .i64 0, .int .i64 0, .bool false, .bool false, .int .i64 0, .int .i64 0, .bool false, .int .i64 0] 54 (0, 0)) := by rw [hw4, Lib.alloc_old w3 _ _ hlt2]; exact hR
  have hB4 := Lib.hid (show Below w.heap.size w w4 by rw [hw4]; exact hB3.out.alloc hB3.out.size _)
  rw [← hw4]
  clear hT hR hB3 hw4 hlt hlt2
  refine (search (w.heap.size + 1 + 1) w3.heap.size n w4 hT4 hN).mono ?_
  rintro e w5 ⟨rfl, q, os, rfl⟩
  rw [HK.out]
  obtain ⟨w5, hw5⟩ : ∃ w5, w5 = grow (w4.drewN q) os := ⟨_, rfl⟩
  have hT5 := tab_grow hT4 q os
  have hN5 := cell_grown (Lib.lt_of_cell hN) hN q os
  have hR5 : (grow (w4.drewN q) os).heap[w.heap.size]? = _ := (heap_grow_old (w4.drewN q) os (by exact (Array.getElem?_eq_some_iff.1 hR4).1)).trans hR4
  have hB5 := Lib.hid (below_grow (below_drewN hB4.out q) (by exact hB4.out.size) os)
  rw [← hw5] at hT5 hN5 hR5 hB5 ⊢
  clear hw5 hT4 hN hR4 hB4 HL
  have hk72 : (k : Int) < 72 := by omega
  have hne : ¬ (k : Int) = 72 := by omega
  have c0 := (hT5.cell (k * 9)).trans (nm_cell k hk1)
  clear hT5
  go_wp2_with fail
  refine wp_region_pin [0,0,0,0,0,0,1,1,0,0] (by kernel_rfl) (by kernel_rfl) ?_
  (refine pin_pure (fun K hK => ?_); go_simp; refine hK _ _ ?_; clear hK K)
  (refine pin_pure (fun K hK => ?_); go_simp; refine hK _ _ ?_; clear hK K)
  (refine pin_pure (fun K hK => ?_); go_simp; refine hK _ _ ?_; clear hK K)
  (refine pin_pure (fun K hK => ?_); go_simp; refine hK _ _ ?_; clear hK K)
  (refine pin_pure (fun K hK => ?_); go_simp; refine hK _ _ ?_; clear hK K)
  (refine pin_pure (fun K hK => ?_); go_simp; refine hK _ _ ?_; clear hK K)
  (refine pin_read (fun K hK => ?_); go_simp; refine hK _ _ ?_; clear hK K)
  (refine pin_read (fun K hK => ?_); go_simp; refine hK _ _ ?_; clear hK K)
  (refine pin_pure (fun K hK => ?_); go_simp; refine hK _ _ ?_; clear hK K)
  (refine pin_pure (fun K hK => ?_); go_simp; refine hK _ _ ?_; clear hK K)
  refine pin_nil ?_
  intro nq
  have hR6 : (w5.drewN nq).heap[w.heap.size]? = some (.cells nines0 54 (0, 0)) := hR5
  go_wp2_with (refine wpList_store_row rfl 54 (.tmp 2) (.tmp 22) rfl w.heap.size nines0 rfl rfl 54 nines0 hR6 spec_info rfl nines_one ?_)
  have hf := heap_setRow_same (c' := nines0) hR6
  refine bodyPost_ret (v := .tuple #[specN, .bool false]) ?_ rfl ⟨rfl, below_drewN (below_setRow hB5.out (Nat.le_refl _) _) nq⟩
  exact results_cell_row2 (fn := Tryd.f20) (p := 2) (u := 3) (ty := 54) rfl _ _ w.heap.size 54 nines0 (0, 0) _ rfl hf Tryd.underlying54 rfl spec_info

end Go.Proofs.YtpanbijlfijgfaaDoor.Fnd
